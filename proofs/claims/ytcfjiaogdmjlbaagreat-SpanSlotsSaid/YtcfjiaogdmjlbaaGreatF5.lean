/- The walk of the reference's order of names in CBOR. -/
import Derived.Test.YtcfjiaogdmjlbaaGreatF4
namespace Go.Proofs.YtcfjiaogdmjlbaaGreat
open Go.RowKit

/-- How far back a name goes: behind all that do not stand behind it. -/
def backF (ks : List ByteArray) (key : ByteArray) (l : List Nat) : Nat → Nat
  | 0 => 0
  | k + 1 => if shortB key (ks.getD (l.getD k 0) ByteArray.empty) = true then backF ks key l k else k + 1
theorem backF_le (ks : List ByteArray) (key : ByteArray) (l : List Nat) : ∀ k, backF ks key l k ≤ k
  | 0 => Nat.le_refl _
  | k + 1 => by
    rw [backF]
    split
    · exact Nat.le_trans (backF_le ks key l k) (Nat.le_succ _)
    · exact Nat.le_refl _
def insF (ks : List ByteArray) (l : List Nat) (i : Nat) : List Nat := l.take (backF ks (ks.getD i ByteArray.empty) l l.length) ++ [i] ++ l.drop (backF ks (ks.getD i ByteArray.empty) l l.length)
def ordF (ks : List ByteArray) : Nat → List Nat
  | 0 => []
  | n + 1 => insF ks (ordF ks n) n
theorem insF_len (ks : List ByteArray) (l : List Nat) (i : Nat) : (insF ks l i).length = l.length + 1 := by
  have := backF_le ks (ks.getD i ByteArray.empty) l l.length
  simp only [insF, List.length_append, List.length_take, List.length_drop, List.length_cons, List.length_nil]
  omega
theorem ordF_len (ks : List ByteArray) : ∀ n, (ordF ks n).length = n
  | 0 => rfl
  | n + 1 => by rw [ordF, insF_len, ordF_len ks n]
theorem ordF_mem (ks : List ByteArray) : ∀ n x, x ∈ ordF ks n → x < n
  | 0, x, h => by cases h
  | n + 1, x, h => by
    rw [ordF, insF] at h
    simp only [List.mem_append, List.mem_cons, List.not_mem_nil, or_false] at h
    rcases h with (h | h) | h
    · have := ordF_mem ks n x (List.mem_of_mem_take h); omega
    · omega
    · have := ordF_mem ks n x (List.mem_of_mem_drop h); omega
theorem slice_n {A : Option Addr} {n m c : Nat} (h : n = m) : Value.slice A n c = Value.slice A m c := by rw [h]
def iv (l : List Nat) : List Value := l.map fun x => Value.int .i64 ((x : Nat) : Int)
theorem iv_len (l : List Nat) : (iv l).length = l.length := by simp [iv]
theorem iv_one (l : List Nat) : ∀ u ∈ iv l, u.oneCell' = true := fun u hu => by
  obtain ⟨x, _, rfl⟩ := List.mem_map.1 hu
  rfl
theorem iv_at (l : List Nat) (q : Nat) (h : q < l.length) : (iv l).getD q undef = .int .i64 ((l.getD q 0 : Nat) : Int) := by simp [iv, List.getD, h]
theorem short_t (a b : ByteArray) (r : Bool) (h : shortB a b = r) (w : World) : Calls Tryz.prog 128 #[.string a, .string b] w fun e w' => e = .returned (.bool r) ∧ w' = w := h ▸ short_any a b w
/-- The row's cells from a place on. -/
theorem own_from {w : World} {base n g c : Nat} {e : TypeId} {xs : List Value} (h : w.ownsRow base e 1 (.slice (some ⟨g, 0, none⟩) n c) n xs) (q : Nat) : ∀ j u, (xs.drop q)[j]? = some u → w.cell? ((⟨g, q, none⟩ : Addr).add j) = some u := fun j u hu => by
  have := h.cells (g := g) rfl (q + j) u (by rw [List.getElem?_drop] at hu; exact hu)
  rw [add_plain] at this ⊢
  simpa using this
theorem own_to {w : World} {base n g c : Nat} {e : TypeId} {xs : List Value} (h : w.ownsRow base e 1 (.slice (some ⟨g, 0, none⟩) n c) n xs) (q : Nat) : ∀ j u, (xs.take q)[j]? = some u → w.cell? ((⟨g, 0, none⟩ : Addr).add j) = some u := fun j u hu => by
  refine h.cells (g := g) rfl j u ?_
  rw [List.getElem?_take] at hu
  split at hu
  · exact hu
  · cases hu
structure Same (w w' : World) : Prop where
  heap : w'.heap = w.heap
  os : w'.os = w.os
  tape : w'.tape = w.tape
  output : w'.output = w.output
theorem Same.cell {w w' : World} (h : Same w w') (a : Addr) : w'.cell? a = w.cell? a := World.cell?_of_block (by rw [h.heap])
theorem Same.g {B : Nat} {w0 w w' : World} (g : G B none w0 w) (h : Same w w') : G B none w0 w' :=
  ⟨h.os.trans g.os, h.tape.trans g.tape, h.output.trans g.output, by rw [h.heap]; exact g.size, fun k hk hr => by rw [h.heap]; exact g.block k hk hr⟩
theorem Same.own {w w' : World} {base : Nat} {e : TypeId} {size : Nat} {v : Value} {n : Nat} {xs : List Value} (h : Same w w') (o : w.ownsRow base e size v n xs) : w'.ownsRow base e size v n xs := by
  unfold World.ownsRow at *; rw [h.heap]; exact o
def LRel (w : World) (n : Nat) (ks : List ByteArray) (k : Nat) (vL vI : Value) (wr : World) : Prop :=
  ∃ (i : Nat) (A : Option Addr) (c : Nat), i ≤ n ∧ k = n - i ∧ vL = .slice A i c ∧ vI = .int .i64 (i : Nat) ∧ (i = 0 → A = none ∧ c = 0) ∧ wr.ownsRow w.heap.size 3 1 (.slice A i c) i (iv (ordF ks i)) ∧ G w.heap.size none w wr
set_option maxRecDepth 20000 in
set_option maxHeartbeats 4000000 in
theorem place_any (A : Option Addr) (n c : Nat) (ks : List ByteArray) (w : World) (h : SR w A n c ks) (hn : n ≤ 300) :
    Calls Tryz.prog 101 #[.slice A n c, .bool true] w fun e w' => ∃ A' c', e = .returned (.slice A' n c') ∧ w'.ownsRow w.heap.size 3 1 (.slice A' n c') n (iv (ordF ks n)) ∧ G w.heap.size none w w' := by
  obtain ⟨i3, hi3, hz3, hs3, hb3⟩ := info_parts info3
  have K3 := Lib.hid (And.intro hz3 (And.intro hs3 hb3)); clear hz3 hs3 hb3
  have hle := h.le
  have hcap := h.cap
  have H := Lib.hid h; clear h
  go_enter Tryz.func101, Tryz.ntmps101
  go_wp2
  go_loopg [5, 6] n (fun k vL vI wr => LRel w n ks k vL vI wr)
  case atStart => exact ⟨0, none, 0, Nat.zero_le _, rfl, rfl, rfl, fun _ => ⟨rfl, rfl⟩, World.ownsRow_nil _ _ _ _, G.refl _ _ _⟩
  case round =>
    obtain ⟨i, A0, c0, hi, hk, rfl, rfl, hz, hO, hg⟩ := hrel
    have HK := Lib.hid hk; clear hk
    have HLr := Lib.hid hO; clear hO
    have HGr := Lib.hid hg; clear hg
    by_cases hlt : i < n
    · by_cases hi0 : i = 0
      · subst hi0
        obtain ⟨rfl, rfl⟩ := hz rfl
        go_wp2
        refine wp_loop_once ?_
        go_wp2
        go_quiet (fail)
        have HG := Lib.hid (HGr.out.drewN nq)
        generalize wr.drewN nq = W at *
        clear HGr HLr
        go_wp2
        go_region_law (first | (refine step_append_src rfl (.tmp 62) (.tmp 64) 22 22 rfl W.heap.size 3 i3 (.int .i64 0) 1 8 Tryz.underlying22 hi3 K3.out.1 K3.out.2.1 K3.out.2.2 rfl (by decide) (.slice none 0 0) 0 [] rfl (World.ownsRow_nil _ _ _ _) (.slice (some ⟨W.heap.size, 0, none⟩) 1 1) 1 [.int .i64 ((0 : Nat) : Int)] rfl (Src.ofSlice _ Tryz.underlying22 ⟨W.heap.size, 0, none⟩ 1 1 _ rfl (one_news (cell_new _ _ _)) (one_oneCell rfl)) ?_ ?_ ?_ ?_; (unfold maxLen; omega); omega; (simp; try omega); intro A2 c2 W2 hN hg2; have HN := Lib.hid hN; have HG2 := Lib.hid ((HG.out.drew.alloc _ HG.out.size).grown hg2 (by have := HG.out.size; simp; omega) (fun k hk => by cases hk)); have hz2 : W.heap.size ≤ W2.heap.size := (by have h := hg2.size; simp at h; omega); clear hN hg2) | (refine step_append_src rfl (.tmp 65) (.tmp 68) 22 22 rfl W.heap.size 3 i3 (.int .i64 0) 1 8 Tryz.underlying22 hi3 K3.out.1 K3.out.2.1 K3.out.2.2 rfl (by decide) (.slice A2 (0 + 1) c2) (0 + 1) _ rfl HN.out (.slice none 0 0) 0 [] rfl (Src.ofNil _ Tryz.underlying22 0) ?_ ?_ ?_ ?_; (unfold maxLen; omega); omega; exact hz2; intro A3 c3 W3 hO hg3; have HO3 := Lib.hid hO; have HG3 := Lib.hid (HG2.out.grown hg3 HG2.out.size (fun k hk => .inl (by have := (HN.out.lt k hk).1; have := HG.out.size; omega))); clear hO hg3))
        all_goals
          go_wp2
          go_roundg (n - (0 + 1))
          case measure => have := HK.out; omega
          case rel => exact ⟨0 + 1, A3, c3, by omega, rfl, rfl, by simp, fun h => absurd h (by omega), own_mono HO3.out HG.out.size, HG3.out⟩
      · obtain ⟨g, rfl, hgb, hgl, hic, hcm, hcl⟩ := own_at HLr.out (by omega)
        clear hz
        obtain ⟨B, off, rfl, hB, hc⟩ := H.out.cells (by omega)
        have hlen := ordF_len ks i
        have hmem := ordF_mem ks i
        have e1 : wr.cell? ⟨B, off + i, none⟩ = some (.string (ks.getD i ByteArray.empty)) := (HGr.out.cell hB (by simp)).trans (hc i hlt)
        have EC := Lib.hid (fun x (hx : x < n) => ((HGr.out.cell hB (by simp)).trans (hc x hx) : wr.cell? ⟨B, off + x, none⟩ = some (.string (ks.getD x ByteArray.empty))))
        have EL := Lib.hid hcl
        clear hcl hc
        obtain ⟨key, hkey⟩ : ∃ key, ks.getD i ByteArray.empty = key := ⟨_, rfl⟩
        have hins : ordF ks (i + 1) = (ordF ks i).take (backF ks key (ordF ks i) i) ++ [i] ++ (ordF ks i).drop (backF ks key (ordF ks i) i) := by
          rw [ordF, insF, hkey, hlen]
        rw [hkey] at e1
        have HKY := Lib.hid hkey; clear hkey
        have HINS := Lib.hid hins; clear hins
        have HLN := Lib.hid hlen; clear hlen
        have HME := Lib.hid hmem; clear hmem
        generalize ordF ks i = l at *
        go_wp2
        obtain ⟨wo, hwo⟩ : ∃ wo : World, wo = wr := ⟨_, rfl⟩
        subst hwo
        go_loopg [7] i (fun k v wr2 => ∃ q : Nat, q ≤ i ∧ k = q ∧ backF ks key l i = backF ks key l q ∧ v = .int .i64 (q : Nat) ∧ Same wo wr2)
        case atStart => exact ⟨i, Nat.le_refl _, rfl, rfl, rfl, rfl, rfl, rfl, rfl⟩
        case round =>
          obtain ⟨q, hq, rfl, hb, rfl, hsame⟩ := hrel
          have f1 := (hsame.cell _).trans e1
          have i0 : (0 : Int) ≤ (i : Int) := by omega
          have i1 : (i : Int) < (n : Int) := by omega
          have HB := Lib.hid hb; clear hb
          have HS := Lib.hid hsame; clear hsame
          have hway : gk = 0 ∨ ∃ p, gk = p + 1 := by cases gk with | zero => exact .inl rfl | succ p => exact .inr ⟨p, rfl⟩
          by_cases hst : ∃ p, gk = p + 1 ∧ shortB key (ks.getD (l.getD p 0) ByteArray.empty) = true
          · obtain ⟨p, rfl, hs⟩ := hst
            have f2 := (HS.out.cell _).trans (EL.out p (by omega))
            rw [iv_at l p (by rw [HLN.out]; omega)] at f2
            have hx : l.getD p 0 < i := HME.out _ (by rw [List.getD_eq_getElem?_getD, List.getElem?_eq_getElem (by rw [HLN.out]; omega)]; exact List.getElem_mem _)
            have hbp : backF ks key l (p + 1) = backF ks key l p := by rw [backF, if_pos hs]
            have HBP := Lib.hid hbp; clear hbp
            generalize l.getD p 0 = x at *
            have f3 := (HS.out.cell _).trans (EC.out x (by omega))
            generalize ks.getD x ByteArray.empty = k2 at *
            have i2 : IntKind.i64.wrap ((p : Int) + 1 - 1) = (p : Int) := by rw [Int.add_sub_cancel]; exact IntWalk.i64_in _ (by omega)
            have i3' : IntKind.i64.wrap (p : Int) = (p : Int) := IntWalk.i64_in _ (by omega)
            have i4 : (0 : Int) ≤ (p : Int) := by omega
            have i5 : (p : Int) < (i : Int) := by omega
            have i6 : (0 : Int) ≤ (x : Int) := by omega
            have i7 : (x : Int) < (n : Int) := by omega
            go_wp2
            go_quiet ((go_at_call 128; exact Calls.quiet_of_same (short_t _ _ true hs _)))
            go_wp2
            go_roundg p
            case measure => omega
            case rel => exact ⟨p, by omega, rfl, HB.out.trans HBP.out, by simp, ⟨HS.out.heap, HS.out.os, HS.out.tape, HS.out.output⟩⟩
          · have hfin : backF ks key l gk = gk := by
              rcases hway with rfl | ⟨p, rfl⟩
              · rfl
              · rw [backF, if_neg (fun e => hst ⟨p, rfl, e⟩)]
            have HF := Lib.hid (HB.out.trans hfin); clear hfin
            have hsl0 : ∀ p, gk = p + 1 → shortB key (ks.getD (l.getD p 0) ByteArray.empty) = false := fun p e => by
              cases h : shortB key (ks.getD (l.getD p 0) ByteArray.empty) with
              | false => rfl
              | true => exact absurd ⟨p, e, h⟩ hst
            clear hst
            rcases hway with rfl | ⟨p, rfl⟩
            clear hsl0
            go_wp2
            go_quiet (fail)
            rotate_left
            have hs := hsl0 p rfl
            have f2 := (HS.out.cell _).trans (EL.out p (by omega))
            rw [iv_at l p (by rw [HLN.out]; omega)] at f2
            have hx : l.getD p 0 < i := HME.out _ (by rw [List.getD_eq_getElem?_getD, List.getElem?_eq_getElem (by rw [HLN.out]; omega)]; exact List.getElem_mem _)
            clear hsl0
            generalize l.getD p 0 = x at *
            have f3 := (HS.out.cell _).trans (EC.out x (by omega))
            generalize ks.getD x ByteArray.empty = k2 at *
            have i2 : IntKind.i64.wrap ((p : Int) + 1 - 1) = (p : Int) := by rw [Int.add_sub_cancel]; exact IntWalk.i64_in _ (by omega)
            have i3' : IntKind.i64.wrap (p : Int) = (p : Int) := IntWalk.i64_in _ (by omega)
            have i4 : (0 : Int) ≤ (p : Int) := by omega
            have i5 : (p : Int) < (i : Int) := by omega
            have i6 : (0 : Int) ≤ (x : Int) := by omega
            have i7 : (x : Int) < (n : Int) := by omega
            go_wp2
            go_quiet ((go_at_call 128; exact Calls.quiet_of_same (short_t _ _ false hs _)))
            · have HSW : Same wo (wr.drewN nq) := ⟨HS.out.heap, HS.out.os, HS.out.tape, HS.out.output⟩
              have HG := Lib.hid (Same.g HGr.out HSW)
              have HL := Lib.hid (HSW.own HLr.out)
              have hgW : g < (wr.drewN nq).heap.size := by rw [HSW.heap]; exact hgl
              clear HSW
              generalize wr.drewN nq = W at *
              clear HGr HLr HS EC EL HME HB f1 e1
              have j1 : ¬ c0 = 0 := by omega
              have j2 : (0 : Int) ≤ (c0 : Int) := by omega
              have j4 : (0 : Int) ≤ (i : Int) := by omega
              by_cases hcp : c0 = p + 1
              · obtain rfl : i = p + 1 := by omega
                subst hcp
                have j10 : (0 : Int) ≤ (p : Int) + 1 := by omega
                go_wp2_with (at_builtin; refine wpList_append_src _ rfl (.const (.slice none 0 0)) (.tmp 60) 22 22 rfl W.heap.size 3 i3 (.int .i64 0) 1 8 Tryz.underlying22 hi3 K3.out.1 K3.out.2.1 K3.out.2.2 rfl (by decide) (.slice none 0 0) 0 [] rfl (World.ownsRow_nil _ _ _ _) (.slice (some ⟨g, 0, none⟩) (p + 1) (p + 1)) (p + 1) ((iv l).take (p + 1)) rfl (Src.ofSlice _ Tryz.underlying22 ⟨g, 0, none⟩ (p + 1) (p + 1) _ (by rw [List.length_take, iv_len, HLN.out]; omega) (own_to HL.out (p + 1)) (fun u hu => iv_one l u (List.mem_of_mem_take hu))) (by unfold maxLen; omega) (by omega) (Nat.le_refl _) ?_; intro A1 c1 W1 hM hg1; rw [Nat.zero_add] at hM; have HM := Lib.hid hM; have HG1 := Lib.hid (HG.out.grown hg1 HG.out.size (fun k hk => by cases hk)); have HL1 := Lib.hid (HL.out.kept hg1 (by simp [Value.ownBlock])); have hz1 := hg1.size; clear hM hg1; try rw [Nat.zero_add])
                go_region_law (first | (refine step_append_src rfl (.tmp 62) (.tmp 64) 22 22 rfl W.heap.size 3 i3 (.int .i64 0) 1 8 Tryz.underlying22 hi3 K3.out.1 K3.out.2.1 K3.out.2.2 rfl (by decide) (.slice A1 (p + 1) c1) (p + 1) ((iv l).take (p + 1)) rfl ?_ (.slice (some ⟨W1.heap.size, 0, none⟩) 1 1) 1 [.int .i64 ((p + 1 : Nat) : Int)] rfl (Src.ofSlice _ Tryz.underlying22 ⟨W1.heap.size, 0, none⟩ 1 1 _ rfl (one_news (cell_new _ _ _)) (one_oneCell rfl)) ?_ ?_ ?_ ?_; exact HM.out.drew.alloc _; (unfold maxLen; omega); omega; (simp; omega); intro A2 c2 W2 hN hg2; have HN := Lib.hid hN; have HG2 := Lib.hid ((HG1.out.drew.alloc _ HG1.out.size).grown hg2 (by have := HG1.out.size; simp; omega) (fun k hk => .inl (by have := (HM.out.lt k hk).1; have := HG.out.size; omega))); have HL2 := Lib.hid ((HL1.out.drew.alloc _).kept hg2 (.inr (fun e => by have h1 := (HM.out.lt g e.symm).1; have h2 := (HL.out.lt g rfl).2; omega))); have hz2 : W.heap.size ≤ W2.heap.size := (by have h := hg2.size; simp at h; omega); clear hN hg2) | (refine step_append_src rfl (.tmp 65) (.tmp 68) 22 22 rfl W.heap.size 3 i3 (.int .i64 0) 1 8 Tryz.underlying22 hi3 K3.out.1 K3.out.2.1 K3.out.2.2 rfl (by decide) (.slice A2 ((p + 1) + 1) c2) ((p + 1) + 1) _ rfl HN.out (.slice (some ⟨g, 0, none⟩) 0 0) 0 [] rfl (Src.ofSlice _ Tryz.underlying22 ⟨g, 0, none⟩ 0 0 _ rfl (fun j u h => by cases h) (fun u h => by cases h)) ?_ ?_ ?_ ?_; (unfold maxLen; omega); omega; exact hz2; intro A3 c3 W3 hO hg3; have HO3 := Lib.hid hO; have HG3 := Lib.hid (HG2.out.grown hg3 HG2.out.size (fun k hk => .inl (by have := (HN.out.lt k hk).1; have := HG.out.size; omega))); clear hO hg3))
                all_goals
                  go_wp2
                  go_roundg (n - (p + 1 + 1))
                  case measure => have := HK.out; omega
                  case rel => exact ⟨p + 1 + 1, A3, c3, by omega, rfl, slice_n (by omega), by simp, fun h => absurd h (by omega), by rw [HINS.out, HF.out]; have h := HO3.out; simp only [iv, List.map_append, List.map_take, List.map_drop, List.map_cons, List.map_nil] at h ⊢; rw [List.drop_of_length_le (by rw [List.length_map, HLN.out]; exact Nat.le_refl _)]; exact own_mono h HG.out.size, HG3.out⟩
              · have j8 : (p : Int) + 1 ≤ (c0 : Int) := by omega
                have j9 : (p : Int) + 1 ≤ (i : Int) := by omega
                have j10 : (0 : Int) ≤ (p : Int) + 1 := by omega
                have j5 : ((p + 1 : Nat) : Int) ≤ (c0 : Int) := by omega
                have j6 : ((p + 1 : Nat) : Int) ≤ (i : Int) := by omega
                have j7 : (0 : Int) ≤ ((p + 1 : Nat) : Int) := by omega
                go_wp2_with (at_builtin; refine wpList_append_src _ rfl (.const (.slice none 0 0)) (.tmp 60) 22 22 rfl W.heap.size 3 i3 (.int .i64 0) 1 8 Tryz.underlying22 hi3 K3.out.1 K3.out.2.1 K3.out.2.2 rfl (by decide) (.slice none 0 0) 0 [] rfl (World.ownsRow_nil _ _ _ _) (.slice (some ⟨g, 0, none⟩) (p + 1) c0) (p + 1) ((iv l).take (p + 1)) rfl (Src.ofSlice _ Tryz.underlying22 ⟨g, 0, none⟩ (p + 1) c0 _ (by rw [List.length_take, iv_len, HLN.out]; omega) (own_to HL.out (p + 1)) (fun u hu => iv_one l u (List.mem_of_mem_take hu))) (by unfold maxLen; omega) (by omega) (Nat.le_refl _) ?_; intro A1 c1 W1 hM hg1; rw [Nat.zero_add] at hM; have HM := Lib.hid hM; have HG1 := Lib.hid (HG.out.grown hg1 HG.out.size (fun k hk => by cases hk)); have HL1 := Lib.hid (HL.out.kept hg1 (by simp [Value.ownBlock])); have hz1 := hg1.size; clear hM hg1; try rw [Nat.zero_add])
                go_region_law (first | (refine step_append_src rfl (.tmp 62) (.tmp 64) 22 22 rfl W.heap.size 3 i3 (.int .i64 0) 1 8 Tryz.underlying22 hi3 K3.out.1 K3.out.2.1 K3.out.2.2 rfl (by decide) (.slice A1 (p + 1) c1) (p + 1) ((iv l).take (p + 1)) rfl ?_ (.slice (some ⟨W1.heap.size, 0, none⟩) 1 1) 1 [.int .i64 (i : Nat)] rfl (Src.ofSlice _ Tryz.underlying22 ⟨W1.heap.size, 0, none⟩ 1 1 _ rfl (one_news (cell_new _ _ _)) (one_oneCell rfl)) ?_ ?_ ?_ ?_; exact HM.out.drew.alloc _; (unfold maxLen; omega); omega; (simp; omega); intro A2 c2 W2 hN hg2; have HN := Lib.hid hN; have HG2 := Lib.hid ((HG1.out.drew.alloc _ HG1.out.size).grown hg2 (by have := HG1.out.size; simp; omega) (fun k hk => .inl (by have := (HM.out.lt k hk).1; have := HG.out.size; omega))); have HL2 := Lib.hid ((HL1.out.drew.alloc _).kept hg2 (.inr (fun e => by have h1 := (HM.out.lt g e.symm).1; have h2 := (HL.out.lt g rfl).2; omega))); have hz2 : W.heap.size ≤ W2.heap.size := (by have h := hg2.size; simp at h; omega); clear hN hg2) | (refine step_append_src rfl (.tmp 65) (.tmp 68) 22 22 rfl W.heap.size 3 i3 (.int .i64 0) 1 8 Tryz.underlying22 hi3 K3.out.1 K3.out.2.1 K3.out.2.2 rfl (by decide) (.slice A2 ((p + 1) + 1) c2) ((p + 1) + 1) _ rfl HN.out (.slice (some ⟨g, (p + 1), none⟩) (i - (p + 1)) (c0 - (p + 1))) (i - (p + 1)) ((iv l).drop (p + 1)) rfl (Src.ofSlice _ Tryz.underlying22 ⟨g, (p + 1), none⟩ (i - (p + 1)) (c0 - (p + 1)) _ (by rw [List.length_drop, iv_len, HLN.out]; omega) (own_from HL2.out (p + 1)) (fun u hu => iv_one l u (List.mem_of_mem_drop hu))) ?_ ?_ ?_ ?_; (unfold maxLen; omega); omega; exact hz2; intro A3 c3 W3 hO hg3; have HO3 := Lib.hid hO; have HG3 := Lib.hid (HG2.out.grown hg3 HG2.out.size (fun k hk => .inl (by have := (HN.out.lt k hk).1; have := HG.out.size; omega))); clear hO hg3))
                all_goals
                  go_wp2
                  go_roundg (n - (i + 1))
                  case measure => have := HK.out; omega
                  case rel => exact ⟨i + 1, A3, c3, by omega, rfl, slice_n (by omega), by simp, fun h => absurd h (by omega), by rw [HINS.out, HF.out]; have h := HO3.out; simp only [iv, List.map_append, List.map_take, List.map_drop, List.map_cons, List.map_nil] at h ⊢; rw [show p + 1 + 1 + (i - (p + 1)) = i + 1 by omega] at h; exact own_mono h HG.out.size, HG3.out⟩
            · have HSW : Same wo (wr.drewN nq) := ⟨HS.out.heap, HS.out.os, HS.out.tape, HS.out.output⟩
              have HG := Lib.hid (Same.g HGr.out HSW)
              have HL := Lib.hid (HSW.own HLr.out)
              have hgW : g < (wr.drewN nq).heap.size := by rw [HSW.heap]; exact hgl
              clear HSW
              generalize wr.drewN nq = W at *
              clear HGr HLr HS EC EL HME HB f1 e1
              have j1 : ¬ c0 = 0 := by omega
              have j2 : (0 : Int) ≤ (c0 : Int) := by omega
              have j4 : (0 : Int) ≤ (i : Int) := by omega
              go_wp2
              go_region_law (first | (refine step_append_src rfl (.tmp 62) (.tmp 64) 22 22 rfl W.heap.size 3 i3 (.int .i64 0) 1 8 Tryz.underlying22 hi3 K3.out.1 K3.out.2.1 K3.out.2.2 rfl (by decide) (.slice none 0 0) 0 [] rfl (World.ownsRow_nil _ _ _ _) (.slice (some ⟨W.heap.size, 0, none⟩) 1 1) 1 [.int .i64 (i : Nat)] rfl (Src.ofSlice _ Tryz.underlying22 ⟨W.heap.size, 0, none⟩ 1 1 _ rfl (one_news (cell_new _ _ _)) (one_oneCell rfl)) ?_ ?_ ?_ ?_; (unfold maxLen; omega); omega; (simp; try omega); intro A2 c2 W2 hN hg2; have HN := Lib.hid hN; have HG2 := Lib.hid ((HG.out.drew.alloc _ HG.out.size).grown hg2 (by have := HG.out.size; simp; omega) (fun k hk => by cases hk)); have HL2 := Lib.hid ((HL.out.drew.alloc _).kept hg2 (.inr (by simp [Value.ownBlock]))); have hz2 : W.heap.size ≤ W2.heap.size := (by have h := hg2.size; simp at h; omega); clear hN hg2) | (refine step_append_src rfl (.tmp 65) (.tmp 68) 22 22 rfl W.heap.size 3 i3 (.int .i64 0) 1 8 Tryz.underlying22 hi3 K3.out.1 K3.out.2.1 K3.out.2.2 rfl (by decide) (.slice A2 (0 + 1) c2) (0 + 1) _ rfl HN.out (.slice (some ⟨g, 0, none⟩) i c0) i (iv l) rfl (Src.ofSlice _ Tryz.underlying22 ⟨g, 0, none⟩ i c0 _ (by rw [iv_len, HLN.out]; omega) (own_from HL2.out 0) (iv_one l)) ?_ ?_ ?_ ?_; (unfold maxLen; omega); omega; exact hz2; intro A3 c3 W3 hO hg3; have HO3 := Lib.hid hO; have HG3 := Lib.hid (HG2.out.grown hg3 HG2.out.size (fun k hk => .inl (by have := (HN.out.lt k hk).1; have := HG.out.size; omega))); clear hO hg3))
              all_goals
                go_wp2
                go_roundg (n - (i + 1))
                case measure => have := HK.out; omega
                case rel => exact ⟨i + 1, A3, c3, by omega, rfl, slice_n (by omega), by simp, fun h => absurd h (by omega), by rw [HINS.out, HF.out]; have h := HO3.out; simp only [iv, List.map_append, List.map_take, List.map_drop, List.map_cons, List.map_nil, List.take_zero, List.nil_append, List.drop_zero] at h ⊢; rw [show 0 + 1 + i = i + 1 by omega] at h; exact own_mono h HG.out.size, HG3.out⟩
    · obtain rfl : i = n := by omega
      go_wp2
      go_ret
      exact ⟨A0, c0, rfl, HLr.out, HGr.out⟩
end Go.Proofs.YtcfjiaogdmjlbaaGreat
