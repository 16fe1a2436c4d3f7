/- The walk of an object made of its members. -/
import Derived.Test.YtcfjiaogdmjlbaaGreatA7
namespace Go.Proofs.YtcfjiaogdmjlbaaGreat
open Go.RowKit
theorem info30 : (Tryz.prog.info? 30).map (fun i => (i.zero, i.size, i.bytes)) = some (some (.agg #[.int .i64 0, .bool false, .bool false, .slice none 0 0, .int .i64 0, .string ByteArray.empty, .slice none 0 0, .slice none 0 0]), 8, 120) := by kernel_rfl
theorem sort_any (A : Option Addr) (n c : Nat) (ks : List ByteArray) (w : World) (h : SR w A n c ks) (hn : n ≤ 500000) :
    Calls Tryz.prog 218 #[.slice A n c] w fun e w' => ∃ A' c', e = .returned (.slice A' n c') ∧ IR w' A' n c' (sortF (ltK ks) (upto n)) ∧ G w.heap.size none w w' := by
  have H := Lib.hid (places_any A n c ks w h hn); clear h
  go_enter Tryz.func218, Tryz.ntmps218
  go_wp2_with (go_at_call 227; refine H.out.mono ?_; rintro e w' ⟨A', c', rfl, h1, h2⟩)
  go_ret
  exact ⟨A', c', rfl, h1, h2⟩
theorem upto_mem {n : Nat} {x : Int} (h : x ∈ upto n) : 0 ≤ x ∧ x < n := by simp [upto] at h; omega
theorem own_ne {w : World} {base : Nat} {e : TypeId} {size n : Nat} {v : Value} {xs : List Value} (h : w.ownsRow base e size v n xs) {b : Nat} (hb : b < base) : ∀ k, v.ownBlock = some k → b ≠ k := by
  intro k hk
  have := (h.lt k hk).1
  omega
theorem grown_alloc_cell {w w' : World} {o : Obj} {row : Option Nat} (hg : (w.alloc o).grownBy w' row) {b i : Nat} (hb : b < w.heap.size) (hr : some b ≠ row) : w'.cell? ⟨b, i, none⟩ = w.cell? ⟨b, i, none⟩ :=
  (World.cell?_of_block (hg.block b (by simp; omega) hr)).trans (World.cell?_of_block (Below.heap_alloc w o b hb))
theorem grown_alloc_froz {w w' : World} {o : Obj} {row : Option Nat} (hg : (w.alloc o).grownBy w' row) {b i : Nat} (hb : b < w.heap.size) (hr : some b ≠ row) : w'.frozen? ⟨b, i, none⟩ = w.frozen? ⟨b, i, none⟩ :=
  (World.frozen?_of_block (hg.block b (by simp; omega) hr)).trans (World.frozen?_of_block (Below.heap_alloc w o b hb))
theorem own_type_ne {w : World} {b b' : Nat} {e e' : TypeId} {s s' n n' : Nat} {v v' : Value} {xs xs' : List Value} (h : w.ownsRow b e s v n xs) (h' : w.ownsRow b' e' s' v' n' xs') (hne : e ≠ e') : v.ownBlock = none ∨ v.ownBlock ≠ v'.ownBlock := by
  rcases h.2 with ⟨rfl, _⟩ | ⟨g, cap, cur, rfl, _, hh, _⟩
  · exact .inl rfl
  · refine .inr fun hk => ?_
    rcases h'.2 with ⟨rfl, _⟩ | ⟨g', cap', cur', rfl, _, hh', _⟩
    · simp [Value.ownBlock] at hk
    · have : g = g' := by simpa [Value.ownBlock] using hk
      subst this
      rw [hh] at hh'
      injection hh' with hh'
      injection hh' with _ ht
      exact hne ht
theorem eight (l : List Value) (h : l.length = 8) : ∃ c0 c1 c2 c3 c4 c5 c6 c7, l = [c0, c1, c2, c3, c4, c5, c6, c7] := by
  match l, h with
  | [c0, c1, c2, c3, c4, c5, c6, c7], _ => exact ⟨c0, c1, c2, c3, c4, c5, c6, c7, rfl⟩
theorem many_news (w : World) (l : List Value) (T : TypeId) : ∀ j u, l[j]? = some u → (w.alloc (.cells l.toArray T)).cell? ((⟨w.heap.size, 0, none⟩ : Addr).add j) = some u := by
  intro j u hu
  rw [add_plain, Nat.zero_add, cell_heap (show (w.alloc (.cells l.toArray T)).heap[w.heap.size]? = some (.cells l.toArray T) by show (w.heap.push _)[_]? = _; simp)]
  simpa using hu
theorem of_drew {w w' : World} {row : Option Nat} (h : w.drew.grownBy w' row) : w.grownBy w' row := ⟨h.os, h.tape, h.output, h.size, h.block⟩
theorem own_ne' {w : World} {base : Nat} {e : TypeId} {size n : Nat} {v : Value} {xs : List Value} (h : w.ownsRow base e size v n xs) {b : Nat} (hb : b < base) : some b ≠ v.ownBlock := by
  intro hk
  exact own_ne h hb b hk.symm rfl
/-- The object's fields under way. -/
def treeCells (kind : Int) (vK vV : Value) : Array Value := #[.int .i64 kind, .bool false, .bool false, .slice none 0 0, .int .i64 0, .string ByteArray.empty, vK, vV]
def keyAt (ks : List ByteArray) (x : Int) : Value := .string (ks.getD x.toNat ByteArray.empty)
def valAt (vs : List Value) (x : Int) : List Value := (vs.drop (x.toNat * 8)).take 8
/-- The filling loop of 'Object': what holds at a round's head. -/
def ORel (w2 : World) (N1 n : Nat) (l : List Int) (ks : List ByteArray) (vs : List Value) (k : Nat) (i : Value) (wr : World) : Prop :=
  ∃ (j : Nat) (vK vV : Value), i = .int .i64 (j : Nat) ∧ j ≤ n ∧ k = n - j ∧ wr.heap[N1]? = some (.cells (treeCells 7 vK vV) 30 (0, 0)) ∧
    wr.ownsRow w2.heap.size 9 1 vK j ((l.take j).map (keyAt ks)) ∧ wr.ownsRow w2.heap.size 30 8 vV j ((l.take j).flatMap (valAt vs)) ∧ G w2.heap.size (some N1) w2 wr
set_option maxRecDepth 20000 in
set_option maxHeartbeats 2000000 in
theorem object_ok (A AV : Option Addr) (n c cv : Nat) (ks : List ByteArray) (vs : List Value) (w : World) (h : SR w A n c ks) (hv : AR 8 w AV n cv vs) (hn : n ≤ 500000) (htw : twAux [] ks 0 = (0, false)) :
    Calls Tryz.prog 211 #[.slice A n c, .slice AV n cv] w fun e w' => ∃ AK cK AV' cV, e = .returned (.tuple #[.agg #[.int .i64 7, .bool false, .bool false, .slice none 0 0, .int .i64 0, .string ⟨#[]⟩, .slice AK n cK, .slice AV' n cV], .int .i64 0, .bool true]) ∧ G w.heap.size none w w' := by
  have hlen := h.le
  have hcap := h.cap
  have hvle := hv.le
  have hvcap := hv.cap
  have hb1 : (n : Int) ≤ (c : Int) := by omega
  have H := Lib.hid h; clear h
  have HV := Lib.hid hv; clear hv
  have HT := Lib.hid htw; clear htw
  go_enter Tryz.func211, Tryz.ntmps211
  go_wp2_with (go_at_call 217; go_loud (refine (twice_any A n c ks _ (H.out.g ((G.refl _ _ _).alloc _ (Nat.le_refl _)) rfl)).mono ?_); rw [HT.out]; rintro e w1 ⟨rfl, hg1⟩)
  have hsz1 := hg1.size
  simp only [World.size_alloc] at hsz1
  have HG1 := Lib.hid hg1; clear hg1
  refine (sort_any A n c ks _ ((H.out.g ((G.refl _ _ _).alloc _ (Nat.le_refl _)) rfl).g HG1.out rfl |>.g ((G.refl _ _ _).alloc _ (Nat.le_refl _)) rfl) hn).mono ?_
  rintro e w2 ⟨A2, c2, rfl, hI, hg2⟩
  have hsz2 := hg2.size
  simp only [World.size_alloc] at hsz2
  have hN1 : w2.heap[w1.heap.size]? = some (.cells (treeCells 7 (.slice none 0 0) (.slice none 0 0)) 30 (0, 0)) :=
    (hg2.block w1.heap.size (by simp) (by simp)).trans (by show (w1.heap.push _)[_]? = _; simp; rfl)
  have E := Lib.hid (show ORel w2 w1.heap.size n (sortF (ltK ks) (upto n)) ks vs n (.int .i64 0) w2 from
    ⟨0, .slice none 0 0, .slice none 0 0, rfl, Nat.zero_le _, rfl, hN1, World.ownsRow_nil _ _ _ _, World.ownsRow_nil _ _ _ _, G.refl _ _ _⟩)
  have HI := Lib.hid hI; clear hI
  have HW := Lib.hid (show G w.heap.size none w w2 from (((G.refl _ _ _).alloc _ (Nat.le_refl _)).trans (HG1.out.mono (by simp))).alloc _ (by omega) |>.trans (hg2.mono (by simp; omega)))
  have HN2 := Lib.hid hN1; clear hN1
  have HG2 := Lib.hid hg2; clear hg2
  go_wp2_with fail
  go_loopg [34] n (fun k i wr => ORel w2 w1.heap.size n (sortF (ltK ks) (upto n)) ks vs k i wr)
  case atStart => exact E.out
  case round =>
    clear E
    obtain ⟨j, vK, vV, rfl, hj, hk, hN, hK, hV, hg⟩ := hrel
    have HK := Lib.hid hK; clear hK
    have HVV := Lib.hid hV; clear hV
    have HG := Lib.hid hg; clear hg
    have HK2 := Lib.hid hk; clear hk
    by_cases hlt : j < n
    · obtain ⟨i9, hi9, hz9, hs9, hb9⟩ := info_parts info9
      obtain ⟨i30, hi30, hz30, hs30, hb30⟩ := info_parts info30
      have K9 := Lib.hid (And.intro hz9 (And.intro hs9 hb9)); clear hz9 hs9 hb9
      have K30 := Lib.hid (And.intro hz30 (And.intro hs30 hb30)); clear hz30 hs30 hb30
      obtain ⟨B2, o2, rfl, hB2, hc2, hT2⟩ := HI.out.cells (by omega)
      obtain ⟨BK, oK, rfl, hBK, hcK⟩ := H.out.cells (by omega)
      obtain ⟨BV, oV, rfl, hBV, hcV⟩ := HV.out.cells (by omega)
      have hx : (sortF (ltK ks) (upto n)).getD j 0 ∈ upto n := sortF_mem (ltK ks) _ _ (by
        have hl : j < (sortF (ltK ks) (upto n)).length := by rw [HI.out.len]; exact hlt
        rw [List.getD_eq_getElem?_getD, List.getElem?_eq_getElem hl]; exact List.getElem_mem hl)
      obtain ⟨hx0, hx1⟩ := upto_mem hx
      have htk : (sortF (ltK ks) (upto n)).take (j + 1) = (sortF (ltK ks) (upto n)).take j ++ [(sortF (ltK ks) (upto n)).getD j 0] := by
        have hl : j < (sortF (ltK ks) (upto n)).length := by rw [HI.out.len]; exact hlt
        rw [List.take_add_one]; simp [List.getD, hl]
      have HTK := Lib.hid htk; clear htk hx
      have eI : wr.cell? ⟨B2, o2 + j, none⟩ = some (.int .i64 ((sortF (ltK ks) (upto n)).getD j 0)) := by
        refine (HG.out.cell hB2 (some_ne ?_)).trans (hc2 j hlt)
        exact hT2.ne HN2.out (by decide)
      generalize (sortF (ltK ks) (upto n)).getD j 0 = x at *
      obtain ⟨key, hkey⟩ : ∃ key, ks.getD x.toNat ByteArray.empty = key := ⟨_, rfl⟩
      have eK : wr.cell? ⟨BK, oK + x.toNat, none⟩ = some (.string key) := by
        rw [HG.out.cell (by have := HW.out.size; omega) (some_ne (by omega)), HW.out.cell hBK (by simp), hcK _ (by omega), hkey]
      have HKEY := Lib.hid hkey; clear hkey
      have hvl : (valAt vs x).length = 8 := by
        have := HV.out.len
        simp only [valAt, List.length_take, List.length_drop]; omega
      obtain ⟨c0, c1, c2, c3, c4, c5, c6, c7, h8⟩ := eight _ hvl
      have hv8 : ∀ t u, (valAt vs x)[t]? = some u → w2.cell? ⟨BV, oV + x.toNat * 8 + t, none⟩ = some u := by
        intro t u hu
        have ht : t < 8 := by rw [← hvl]; exact (List.getElem?_eq_some_iff.1 hu).1
        rw [Nat.add_assoc, HW.out.cell hBV (by simp), hcV _ (by omega), ← hu]
        have hl := HV.out.len
        simp [valAt, List.getElem?_take, ht, List.getElem?_drop, List.getD, show x.toNat * 8 + t < vs.length by omega]
      have one8 : ∀ u ∈ valAt vs x, u.oneCell' = true := fun u hu => HV.out.one u (List.mem_of_mem_drop (List.mem_of_mem_take hu))
      rw [h8] at hv8 one8
      have H8 := Lib.hid h8
      have HV8 := Lib.hid hv8
      have ONE8 := Lib.hid one8
      clear h8 hv8 one8 hvl
      have n6 : wr.cell? ⟨w1.heap.size, 6, none⟩ = some vK := by rw [cell_heap hN]; rfl
      have f6 : wr.frozen? ⟨w1.heap.size, 6, none⟩ = false := froz_heap hN 6
      clear hc2 hcK hcV hT2
      have hNlt := lt_heap hN
      have hN12 : w1.heap.size < w2.heap.size := by omega
      have HN := Lib.hid hN; clear hN
      go_wp2_with fail
      go_region_law (first
        | (refine step_append_own rfl (.tmp 39) (.tmp 44) 27 rfl 9 i9 (.string ByteArray.empty) 1 16 Tryz.underlying27 hi9 K9.out.1 K9.out.2.1 K9.out.2.2 rfl (by decide) w2.heap.size vK j (((sortF (ltK ks) (upto n)).take j).map (keyAt ks)) rfl ?_ ?_ ⟨wr.heap.size, 0, none⟩ 1 1 [.string key] rfl rfl ?_ (one_oneCell rfl) ?_ ?_ ?_; exact HK.out.drew.alloc _; (have := HG.out.size; simp; omega); exact one_news (cell_new _ _ _); (unfold maxLen; omega); omega; intro AK cK w4 hK4 hg4; replace hg4 := of_drew hg4; have m6 : w4.cell? ⟨w1.heap.size, 6, none⟩ = some vK := Eq.trans (grown_alloc_cell hg4 hNlt (own_ne' HK.out hN12)) n6; have g6 : w4.frozen? ⟨w1.heap.size, 6, none⟩ = false := Eq.trans (grown_alloc_froz hg4 hNlt (own_ne' HK.out hN12)) f6; have HK4 := Lib.hid hK4; have HG4 := Lib.hid hg4; clear hK4 hg4))
      all_goals
        have V4 : w4.ownsRow w2.heap.size 30 8 vV j _ := (HVV.out.alloc _).kept HG4.out (own_type_ne HVV.out HK.out (by decide))
        have V5 := ownsRow_setCell_below V4 (a := ⟨w1.heap.size, 6, none⟩) hN12 (.slice AK (j + 1) cK)
        have K5 := ownsRow_setCell_below HK4.out (a := ⟨w1.heap.size, 6, none⟩) hN12 (.slice AK (j + 1) cK)
        have hN4 : w4.heap[w1.heap.size]? = some (.cells (treeCells 7 vK vV) 30 (0, 0)) := (HG4.out.block _ (by simp; omega) (own_ne' HK.out hN12)).trans ((Below.heap_alloc _ _ _ hNlt).trans HN.out)
        have hN5 : (w4.setCell ⟨w1.heap.size, 6, none⟩ (.slice AK (j + 1) cK)).heap[w1.heap.size]? = some (.cells (treeCells 7 (.slice AK (j + 1) cK) vV) 30 (0, 0)) := heap_set hN4 _
        have G5 : G w2.heap.size (some w1.heap.size) w2 (w4.setCell ⟨w1.heap.size, 6, none⟩ (.slice AK (j + 1) cK)) := ((HG.out.alloc _ HG.out.size).grown HG4.out (by have := HG.out.size; simp; omega) (fun k hk => .inl (HK.out.lt k hk).1)).set _ _
        clear V4 hN4 n6 f6 m6 g6 HG4 HK4 HG HK HVV HN eK eI
        generalize w4.setCell ⟨w1.heap.size, 6, none⟩ (.slice AK (j + 1) cK) = w5 at *
        have n7 : w5.cell? ⟨w1.heap.size, 7, none⟩ = some vV := by rw [cell_heap hN5]; rfl
        have f7 : w5.frozen? ⟨w1.heap.size, 7, none⟩ = false := froz_heap hN5 7
        have w5lt := lt_heap hN5
        have e8 : ∀ t u, [c0, c1, c2, c3, c4, c5, c6, c7][t]? = some u → w5.cell? ⟨BV, oV + x.toNat * 8 + t, none⟩ = some u := fun t u hu => (G5.cell (by have := HW.out.size; omega) (some_ne (by omega))).trans (HV8.out t u hu)
        have x0 : w5.cell? ⟨BV, oV + x.toNat * 8, none⟩ = some c0 := e8 0 c0 rfl
        have x1 := e8 1 c1 rfl
        have x2 := e8 2 c2 rfl
        have x3 := e8 3 c3 rfl
        have x4 := e8 4 c4 rfl
        have x5 := e8 5 c5 rfl
        have x6 := e8 6 c6 rfl
        have x7 := e8 7 c7 rfl
        have V5 := Lib.hid V5
        have K5 := Lib.hid K5
        have N5 := Lib.hid hN5; clear hN5
        have G5 := Lib.hid G5
        clear e8
        go_wp2_with fail
        go_region_law (first
          | (refine step_append_own rfl (.tmp 48) (.tmp 53) 28 rfl 30 i30 _ 8 120 Tryz.underlying28 hi30 K30.out.1 K30.out.2.1 K30.out.2.2 rfl (by decide) w2.heap.size vV j (((sortF (ltK ks) (upto n)).take j).flatMap (valAt vs)) rfl ?_ ?_ ⟨w5.heap.size, 0, none⟩ 1 1 [c0, c1, c2, c3, c4, c5, c6, c7] rfl rfl ?_ ?_ ?_ ?_ ?_; exact V5.out.drew.alloc _; (have := G5.out.size; simp; omega); exact many_news _ [c0, c1, c2, c3, c4, c5, c6, c7] 30; exact ONE8.out; (unfold maxLen; omega); omega; intro AV6 cV6 w6 hV6 hg6; replace hg6 := of_drew hg6; have m7 : w6.cell? ⟨w1.heap.size, 7, none⟩ = some vV := Eq.trans (grown_alloc_cell hg6 w5lt (own_ne' V5.out hN12)) n7; have g7 : w6.frozen? ⟨w1.heap.size, 7, none⟩ = false := Eq.trans (grown_alloc_froz hg6 w5lt (own_ne' V5.out hN12)) f7; have HV6 := Lib.hid hV6; have HG6 := Lib.hid hg6; clear hV6 hg6))
        all_goals
          have K6 := (K5.out.alloc _).kept HG6.out (own_type_ne K5.out V5.out (by decide))
          have K7 := ownsRow_setCell_below K6 (a := ⟨w1.heap.size, 7, none⟩) hN12 (.slice AV6 (j + 1) cV6)
          have V7 := ownsRow_setCell_below HV6.out (a := ⟨w1.heap.size, 7, none⟩) hN12 (.slice AV6 (j + 1) cV6)
          have hN6 : w6.heap[w1.heap.size]? = some (.cells (treeCells 7 (.slice AK (j + 1) cK) vV) 30 (0, 0)) := (HG6.out.block _ (by simp; omega) (own_ne' V5.out hN12)).trans ((Below.heap_alloc _ _ _ w5lt).trans N5.out)
          have hN7 : (w6.setCell ⟨w1.heap.size, 7, none⟩ (.slice AV6 (j + 1) cV6)).heap[w1.heap.size]? = some (.cells (treeCells 7 (.slice AK (j + 1) cK) (.slice AV6 (j + 1) cV6)) 30 (0, 0)) := heap_set hN6 _
          have G7 : G w2.heap.size (some w1.heap.size) w2 (w6.setCell ⟨w1.heap.size, 7, none⟩ (.slice AV6 (j + 1) cV6)) := ((G5.out.alloc _ G5.out.size).grown HG6.out (by have := G5.out.size; simp; omega) (fun k hk => .inl (V5.out.lt k hk).1)).set _ _
          clear K6 hN6 m7 g7 HG6 HV6 x0 x1 x2 x3 x4 x5 x6 x7 n7 f7
          generalize w6.setCell ⟨w1.heap.size, 7, none⟩ (.slice AV6 (j + 1) cV6) = w7 at *
          have K7 := Lib.hid K7
          have V7 := Lib.hid V7
          have N7 := Lib.hid hN7; clear hN7
          have G7 := Lib.hid G7
          go_wp2
          go_roundg (n - (j + 1))
          case measure => have := HK2.out; omega
          case rel =>
            refine ⟨j + 1, .slice AK (j + 1) cK, .slice AV6 (j + 1) cV6, by simp, by omega, rfl, N7.out, ?_, ?_, G7.out⟩
            · rw [HTK.out, List.map_append, List.map_singleton, keyAt, HKEY.out]; exact K7.out
            · rw [HTK.out, List.flatMap_append, List.flatMap_singleton, H8.out]; exact V7.out
    · obtain rfl : j = n := by omega
      obtain ⟨AK, cK, rfl⟩ : ∃ A c, vK = .slice A j c := by
        rcases HK.out.2 with ⟨rfl, e⟩ | ⟨g, cap, cur, rfl, _⟩
        · exact ⟨none, 0, by rw [e]⟩
        · exact ⟨_, cap, rfl⟩
      obtain ⟨AV', cV, rfl⟩ : ∃ A c, vV = .slice A j c := by
        rcases HVV.out.2 with ⟨rfl, e⟩ | ⟨g, cap, cur, rfl, _⟩
        · exact ⟨none, 0, by rw [e]⟩
        · exact ⟨_, cap, rfl⟩
      have hN0 : wr.heap[w.heap.size]? = some (.cells #[.int .i64 0, .bool false, .bool false, .slice none 0 0, .int .i64 0, .string ByteArray.empty, .slice none 0 0, .slice none 0 0] 30 (0, 0)) :=
        (HG.out.block _ (by omega) (some_ne (by omega))).trans ((HG2.out.block _ (by simp; omega) (by simp)).trans ((Below.heap_alloc _ _ _ (by omega)).trans ((HG1.out.block _ (by simp) (by simp)).trans (by show (w.heap.push _)[_]? = _; simp; rfl))))
      have N0 := Lib.hid hN0
      have p0 := cell_heap hN0 0
      have p1 := cell_heap hN0 1
      have p2 := cell_heap hN0 2
      have p3 := cell_heap hN0 3
      have p4 := cell_heap hN0 4
      have p5 := cell_heap hN0 5
      have p6 := cell_heap hN0 6
      have p7 := cell_heap hN0 7
      have q0 := cell_heap hN 0
      have q1 := cell_heap hN 1
      have q2 := cell_heap hN 2
      have q3 := cell_heap hN 3
      have q4 := cell_heap hN 4
      have q5 := cell_heap hN 5
      have q6 := cell_heap hN 6
      have q7 := cell_heap hN 7
      simp only [treeCells, List.getElem?_toArray, List.getElem?_cons_zero, List.getElem?_cons_succ] at p0 p1 p2 p3 p4 p5 p6 p7 q0 q1 q2 q3 q4 q5 q6 q7
      have fz := fun i => froz_heap hN0 i
      clear hN0 hN
      go_wp2
      have hW := set8_heap N0.out rfl (.int .i64 7) (.bool false) (.bool false) (.slice none 0 0) (.int .i64 0) (.string ByteArray.empty) (.slice AK j cK) (.slice AV' j cV)
      have GW : G w.heap.size none w (set8 wr w.heap.size (.int .i64 7) (.bool false) (.bool false) (.slice none 0 0) (.int .i64 0) (.string ByteArray.empty) (.slice AK j cK) (.slice AV' j cV)) :=
        (HW.out.trans ⟨HG.out.os, HG.out.tape, HG.out.output, HG.out.size, fun k hk _ => HG.out.block k (by have := HW.out.size; omega) (some_ne (by omega))⟩).set8 _ _ _ _ _ _ _ _ _ (Nat.le_refl _)
      show bodyPost _ _ _ _ _ (set8 wr w.heap.size (.int .i64 7) (.bool false) (.bool false) (.slice none 0 0) (.int .i64 0) (.string ByteArray.empty) (.slice AK j cK) (.slice AV' j cV))
      generalize set8 wr w.heap.size (.int .i64 7) (.bool false) (.bool false) (.slice none 0 0) (.int .i64 0) (.string ByteArray.empty) (.slice AK j cK) (.slice AV' j cV) = W at *
      have r0 : W.cell? ⟨w.heap.size, 0, none⟩ = some _ := cell_heap hW 0
      have r1 : W.cell? ⟨w.heap.size, 1, none⟩ = some _ := cell_heap hW 1
      have r2 : W.cell? ⟨w.heap.size, 2, none⟩ = some _ := cell_heap hW 2
      have r3 : W.cell? ⟨w.heap.size, 3, none⟩ = some _ := cell_heap hW 3
      have r4 : W.cell? ⟨w.heap.size, 4, none⟩ = some _ := cell_heap hW 4
      have r5 : W.cell? ⟨w.heap.size, 5, none⟩ = some _ := cell_heap hW 5
      have r6 : W.cell? ⟨w.heap.size, 6, none⟩ = some _ := cell_heap hW 6
      have r7 : W.cell? ⟨w.heap.size, 7, none⟩ = some _ := cell_heap hW 7
      refine bodyPost_ret (v := .tuple #[.agg #[.int .i64 7, .bool false, .bool false, .slice none 0 0, .int .i64 0, .string ByteArray.empty, .slice AK j cK, .slice AV' j cV], .int .i64 0, .bool true]) (by simp [results, Tryz.results211, go_sem, r0, r1, r2, r3, r4, r5, r6, r7]) rfl ⟨AK, cK, AV', cV, rfl, GW⟩
end Go.Proofs.YtcfjiaogdmjlbaaGreat
