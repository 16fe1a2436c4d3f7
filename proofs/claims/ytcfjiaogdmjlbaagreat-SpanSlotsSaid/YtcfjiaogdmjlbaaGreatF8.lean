/- The reference's Pack encoder over an object of nulls; Encode. -/
import Derived.Test.YtcfjiaogdmjlbaaGreatF7
namespace Go.Proofs.YtcfjiaogdmjlbaaGreat
open Go.RowKit
theorem pB {w wr X X' : World} {T KB ok : Nat} {vK vV : Value} {key : ByteArray} (h : G w.heap.size none w X ∧ wr.heap.size ≤ X.heap.size ∧ X.cell? ⟨T, 0, none⟩ = some (.int .i64 7) ∧ X.cell? ⟨T, 6, none⟩ = some vK ∧ X.cell? ⟨T, 7, none⟩ = some vV ∧ X.cell? ⟨KB, ok, none⟩ = some (.string key)) (hg : G w.heap.size none w X') (hz : X.heap.size ≤ X'.heap.size)
    (hk : ∀ k, k = T ∨ k = KB → X'.heap[k]? = X.heap[k]?) : G w.heap.size none w X' ∧ wr.heap.size ≤ X'.heap.size ∧ X'.cell? ⟨T, 0, none⟩ = some (.int .i64 7) ∧ X'.cell? ⟨T, 6, none⟩ = some vK ∧ X'.cell? ⟨T, 7, none⟩ = some vV ∧ X'.cell? ⟨KB, ok, none⟩ = some (.string key) := by
  obtain ⟨h01, h02, h1, h2, h3, h4⟩ := h
  have a1 := fun i => World.cell?_of_block (a := ⟨T, i, none⟩) (hk T (.inl rfl))
  have a3 := fun i => World.cell?_of_block (a := ⟨KB, i, none⟩) (hk KB (.inr rfl))
  exact ⟨hg, Nat.le_trans h02 hz, (a1 _).trans h1, (a1 _).trans h2, (a1 _).trans h3, (a3 _).trans h4⟩
theorem pG {w wr X X' : World} {T KB ok : Nat} {vK vV : Value} {key : ByteArray} (h : G w.heap.size none w X ∧ wr.heap.size ≤ X.heap.size ∧ X.cell? ⟨T, 0, none⟩ = some (.int .i64 7) ∧ X.cell? ⟨T, 6, none⟩ = some vK ∧ X.cell? ⟨T, 7, none⟩ = some vV ∧ X.cell? ⟨KB, ok, none⟩ = some (.string key)) (hg : G X.heap.size none X X') (hw : w.heap.size ≤ wr.heap.size) (hT : T < wr.heap.size) (hK : KB < wr.heap.size) : G w.heap.size none w X' ∧ wr.heap.size ≤ X'.heap.size ∧ X'.cell? ⟨T, 0, none⟩ = some (.int .i64 7) ∧ X'.cell? ⟨T, 6, none⟩ = some vK ∧ X'.cell? ⟨T, 7, none⟩ = some vV ∧ X'.cell? ⟨KB, ok, none⟩ = some (.string key) :=
  pB h (h.1.trans (hg.mono (Nat.le_trans hw h.2.1))) hg.size (fun k hk => hg.block k (Nat.lt_of_lt_of_le (by rcases hk with rfl | rfl <;> assumption) h.2.1) (by simp))
theorem pA {w wr X X' : World} {T KB ok : Nat} {vK vV : Value} {key : ByteArray} {gb : Nat} (h : G w.heap.size none w X ∧ wr.heap.size ≤ X.heap.size ∧ X.cell? ⟨T, 0, none⟩ = some (.int .i64 7) ∧ X.cell? ⟨T, 6, none⟩ = some vK ∧ X.cell? ⟨T, 7, none⟩ = some vV ∧ X.cell? ⟨KB, ok, none⟩ = some (.string key)) (hg : X.grownBy X' (some gb)) (hw : w.heap.size ≤ wr.heap.size) (hT : T < wr.heap.size) (hK : KB < wr.heap.size)
    (b0 : w.heap.size ≤ gb) (b1 : gb ≠ T) (b3 : gb ≠ KB) : G w.heap.size none w X' ∧ wr.heap.size ≤ X'.heap.size ∧ X'.cell? ⟨T, 0, none⟩ = some (.int .i64 7) ∧ X'.cell? ⟨T, 6, none⟩ = some vK ∧ X'.cell? ⟨T, 7, none⟩ = some vV ∧ X'.cell? ⟨KB, ok, none⟩ = some (.string key) :=
  pB h (h.1.grown hg (Nat.le_trans hw h.2.1) (fun k hk => .inl (by cases hk; exact b0))) hg.size (fun k hk => hg.block k (Nat.lt_of_lt_of_le (by rcases hk with rfl | rfl <;> assumption) h.2.1) (fun e => by cases e; rcases hk with rfl | rfl <;> contradiction))
def PRel2 (w : World) (n : Nat) (ks : List ByteArray) (vK vV : Value) (k : Nat) (vB vI : Value) (wr : World) : Prop :=
  ∃ (j : Nat) (Ab : Option Addr) (cb : Nat), j ≤ n ∧ k = n - j ∧ vI = .int .i64 (j : Nat) ∧ vB = .slice Ab (UInt8.ofNat (128 + n) :: body 160 192 (ks.take j)).length cb ∧
    wr.ownsRow (w.heap.size + 1) 5 1 vB (UInt8.ofNat (128 + n) :: body 160 192 (ks.take j)).length (bv (UInt8.ofNat (128 + n) :: body 160 192 (ks.take j))) ∧
    (wr.cell? ⟨w.heap.size, 0, none⟩ = some (.int .i64 7) ∧ wr.cell? ⟨w.heap.size, 6, none⟩ = some vK ∧ wr.cell? ⟨w.heap.size, 7, none⟩ = some vV ∧ w.heap.size < wr.heap.size) ∧ G w.heap.size none w wr
set_option maxRecDepth 20000 in
set_option maxHeartbeats 4000000 in
theorem mput_obj (A AV : Option Addr) (n c cv : Nat) (ks : List ByteArray) (w : World) (h : SR w A n c ks) (hv : NV w AV n cv) (hn : n < 16) (hi : Inc ks) :
    Calls Tryz.prog 51 #[tre 7 (.slice A n c) (.slice AV n cv)] w (BOut w (UInt8.ofNat (128 + n) :: body 160 192 ks)) := by
  obtain ⟨i5, hi5, hz5, hs5, hb5⟩ := info_parts info5
  have K5 := Lib.hid (And.intro hz5 (And.intro hs5 hb5)); clear hz5 hs5 hb5
  have HP := Lib.hid (mput10 n hn (w.alloc (treO 7 (.slice A n c) (.slice AV n cv))))
  have HV := Lib.hid hv
  have H := Lib.hid h
  have HI := Lib.hid hi
  have hle := h.le
  have hcap := h.cap
  have hvle := hv.le
  have hvcap := hv.cap
  have hlenK := h.len
  clear h hv hi
  go_enter Tryz.func51, Tryz.ntmps51
  go_wp2_with fail
  refine HP.out.mono ?_
  rintro e w1 ⟨Ab, cb, rfl, hb, hg1⟩
  have HT1 := Lib.hid (hg1.newest (by simp))
  have HG1 := Lib.hid hg1.past
  rw [World.size_alloc] at hb
  have HB1 := Lib.hid hb
  clear hg1 hb
  go_wp2_with fail
  go_loopg [4, 5] n (fun k vB vI wr => PRel2 w n ks (.slice A n c) (.slice AV n cv) k vB vI wr)
  case atStart => exact ⟨0, Ab, cb, Nat.zero_le _, rfl, rfl, rfl, HB1.out, ⟨(cells8' HT1.out).1, (cells8' HT1.out).2.2.2.2.2.2.1, (cells8' HT1.out).2.2.2.2.2.2.2, lt_heap HT1.out⟩, HG1.out⟩
  case round =>
    obtain ⟨j, Ab0, cb0, hj, hk, rfl, rfl, hO, hT, hg⟩ := hrel
    have HK := Lib.hid hk; clear hk
    have HG := Lib.hid hg; clear hg
    obtain ⟨c0, c6, c7, hT⟩ := hT
    by_cases hlt : j < n
    · obtain ⟨KB, ok, rfl, hKB0, hcK⟩ := H.out.cells (by omega)
      obtain ⟨VB, ov, rfl, hVB0, hcV⟩ := HV.out.cells (by omega)
      obtain ⟨gb, hab, hgb1, hgb2, hgb3, hgb4, _⟩ := own_at hO (by simp)
      subst hab
      have hbt := body_take 160 192 ks j (by omega)
      have hKx := (HG.out.cell hKB0 (by simp)).trans (hcK j hlt)
      have hasc := HI.out.1 (ks.getD j ByteArray.empty) (by rw [List.getD_eq_getElem?_getD, List.getElem?_eq_getElem (by omega)]; exact List.getElem_mem _)
      generalize ks.getD j ByteArray.empty = key at *
      have HBT := Lib.hid hbt
      have HT := Lib.hid (fun W => mput7 key.size hasc.1 W)
      have ksz := hasc.1
      have HVC := Lib.hid (hcV j hlt)
      have hbl : (body 160 192 (ks.take j)).length ≤ 10000 := by have := body_le 160 192 (ks.take j) (fun k hk => (HI.out.1 k (List.mem_of_mem_take hk)).1); rw [List.length_take] at this; omega
      generalize hLb : UInt8.ofNat (128 + n) :: body 160 192 (ks.take j) = Lb at *
      obtain ⟨nb, hnb⟩ : ∃ nb, Lb.length = nb := ⟨_, rfl⟩
      have hnb1 : nb ≤ 10001 := by rw [← hnb, ← hLb]; simp; omega
      have hnb0 : 0 < nb := by rw [← hnb, ← hLb]; simp
      rw [hnb] at hO hgb3 ⊢
      have HNB := Lib.hid hnb; clear hnb
      have HLB := Lib.hid hLb; clear hLb
      have hw := HG.out.size
      have hKB : KB < wr.heap.size := by omega
      have gbw : w.heap.size ≤ gb := by omega
      have gbT : gb ≠ w.heap.size := by omega
      have gbK : gb ≠ KB := by omega
      clear hcK hcV hbt hasc hbl
      have hO0 : wr.drew.ownsRow (w.heap.size + 1) 5 1 (.slice (some ⟨gb, 0, none⟩) nb cb0) nb (bv Lb) := hO
      clear hO
      obtain ⟨hb, hhb⟩ : ∃ hb, UInt8.ofNat (160 + key.size) = hb := ⟨_, rfl⟩
      rw [hhb] at HT
      have hS0 : G w.heap.size none w wr.drew ∧ wr.heap.size ≤ wr.drew.heap.size ∧ wr.drew.cell? ⟨w.heap.size, 0, none⟩ = some (.int .i64 7) ∧ wr.drew.cell? ⟨w.heap.size, 6, none⟩ = some (.slice (some ⟨KB, ok, none⟩) n c) ∧ wr.drew.cell? ⟨w.heap.size, 7, none⟩ = some (.slice (some ⟨VB, ov, none⟩) n cv) ∧ wr.drew.cell? ⟨KB, ok + j, none⟩ = some (.string key) := ⟨HG.out.drew, Nat.le_refl _, c0, c6, c7, hKx⟩
      have i1 : (0 : Int) ≤ (j : Int) := by omega
      have i9 : IntKind.u64.wrap (key.size : Int) = (key.size : Int) := IntWalk.u64_in _ (by omega)
      have i2 : (j : Int) < (n : Int) := by omega
      go_wp2_with fail
      clear c0 c6 c7 hKx
      go_region_held3 (fun w' => G w.heap.size none w w' ∧ wr.heap.size ≤ w'.heap.size ∧ w'.cell? ⟨w.heap.size, 0, none⟩ = some (.int .i64 7) ∧ w'.cell? ⟨w.heap.size, 6, none⟩ = some (.slice (some ⟨KB, ok, none⟩) n c) ∧ w'.cell? ⟨w.heap.size, 7, none⟩ = some (.slice (some ⟨VB, ov, none⟩) n cv) ∧ w'.cell? ⟨KB, ok + j, none⟩ = some (.string key)) (with_reducible assumption)
        (first
          | (go_at_call 77; (with_reducible refine (HT.out _).mono ?_); rintro e wt ⟨At, ct, rfl, ht, hgt⟩; obtain ⟨gt, hat, hgt1, hgt2, _, _, _⟩ := own_at ht (by simp); subst hat; have hSt := pG (by assumption) hgt hw hT hKB; have hbt : wt.ownsRow (w.heap.size + 1) 5 1 (.slice (some ⟨gb, 0, none⟩) nb cb0) nb (bv Lb) := own_g0 (by assumption) hgt)
          | (refine step_append_src rfl (.tmp 61) (.tmp 69) 59 59 rfl (w.heap.size + 1) 5 i5 (.int .u8 0) 1 1 Tryz.underlying59 hi5 K5.out.1 K5.out.2.1 K5.out.2.2 rfl (by decide) (.slice (some ⟨gb, 0, none⟩) nb cb0) nb (bv Lb) rfl (by assumption) (.slice (some ⟨gt, 0, none⟩) 1 ct) 1 (bv [hb]) rfl (own_src (by assumption)) ?_ ?_ (own_base (g := gb) (by assumption)) ?_; (unfold maxLen; omega); omega; intro A2 ca wa ha hga; obtain ⟨ga, haa, hga1, hga2, _, _, _⟩ := own_at ha (by omega); subst haa; have hSa := pA (gb := gb) (by assumption) hga hw hT hKB gbw gbT gbK)
          | (refine step_append_src rfl (.tmp 70) (.tmp 75) 59 9 rfl (w.heap.size + 1) 5 i5 (.int .u8 0) 1 1 Tryz.underlying59 hi5 K5.out.1 K5.out.2.1 K5.out.2.2 rfl (by decide) (.slice (some ⟨ga, 0, none⟩) (nb + 1) ca) (nb + 1) (bv Lb ++ bv [hb]) rfl (by assumption) (.string key) key.size (byteCells key) rfl (Src.ofString _ Tryz.underlying9 key) ?_ ?_ (own_base (g := ga) (by assumption)) ?_; (unfold maxLen; omega); omega; intro A3 c3 wb hb3 hgb3; have hSb := pA (gb := ga) (by assumption) hgb3 hw hT hKB (by omega) (by omega) (by omega)))
      all_goals
        obtain ⟨g3, hg3e, hg31, hg32, hg33, hg34, _⟩ := own_at hb3 (by omega)
        subst hg3e
        have HO3 := Lib.hid hb3
        obtain ⟨s1, s2, s3, s4, s5, s6⟩ := hSb
        have HS1 := Lib.hid s1
        clear hO0 hS0 hb3 s1
        have e8 := fun q u hu => (HS1.out.cell (o := ov + j * 8 + q) hVB0 (by simp)).trans (HVC.out q u hu)
        have x0 : wb.cell? ⟨VB, ov + j * 8, none⟩ = some _ := e8 0 _ rfl
        have x1 := e8 1 _ rfl
        have x2 := e8 2 _ rfl
        have x3 := e8 3 _ rfl
        have x4 := e8 4 _ rfl
        have x5 := e8 5 _ rfl
        have x6 := e8 6 _ rfl
        have x7 := e8 7 _ rfl
        clear e8
        go_wp2_with fail
        refine (mput_null wb).mono ?_
        rintro e wp ⟨Ap, cp, rfl, hp, hgp⟩
        obtain ⟨gp, hap, hgp1, hgp2, _, _, _⟩ := own_at hp (by simp)
        subst hap
        have HOp := Lib.hid (own_g0 HO3.out hgp)
        have HPp := Lib.hid hp
        have HSp := Lib.hid (HS1.out.trans (hgp.mono HS1.out.size))
        have t3 := (hgp.cell (o := 0) (by omega : w.heap.size < wb.heap.size) (by simp)).trans s3
        have t4 := (hgp.cell (o := 6) (by omega : w.heap.size < wb.heap.size) (by simp)).trans s4
        have t5 := (hgp.cell (o := 7) (by omega : w.heap.size < wb.heap.size) (by simp)).trans s5
        have hzp := hgp.size
        clear hp hgp s3 s4 s5 s6 x0 x1 x2 x3 x4 x5 x6 x7
        go_wp2_with (at_builtin; refine wpList_append_src _ rfl (.tmp 77) (.tmp 83) 59 59 rfl (w.heap.size + 1) 5 i5 (.int .u8 0) 1 1 Tryz.underlying59 hi5 K5.out.1 K5.out.2.1 K5.out.2.2 rfl (by decide) (.slice (some ⟨g3, 0, none⟩) (nb + 1 + key.size) c3) (nb + 1 + key.size) _ rfl HOp.out (.slice (some ⟨gp, 0, none⟩) 1 cp) 1 (bv [192]) rfl (own_src HPp.out) (by unfold maxLen; omega) (by omega) (own_base (g := g3) HOp.out) ?_; intro A4 c4 w4 hO4 hg4; have HO4 := Lib.hid hO4; have HG4 := Lib.hid (HSp.out.grown hg4 HSp.out.size (fun k hk => .inl (by have := (HOp.out.lt k hk).1; omega))); have hne : some w.heap.size ≠ Value.ownBlock (.slice (some ⟨g3, 0, none⟩) (nb + 1 + key.size) c3) := (fun e => by have := (HOp.out.lt w.heap.size e.symm).1; omega); have u3 := Eq.trans (World.cell?_of_block (a := ⟨w.heap.size, 0, none⟩) (hg4.block w.heap.size (by omega) hne)) t3; have u4 := Eq.trans (World.cell?_of_block (a := ⟨w.heap.size, 6, none⟩) (hg4.block w.heap.size (by omega) hne)) t4; have u5 := Eq.trans (World.cell?_of_block (a := ⟨w.heap.size, 7, none⟩) (hg4.block w.heap.size (by omega) hne)) t5; have hz4 := hg4.size; clear hO4 hg4 t3 t4 t5)
        go_roundg (n - (j + 1))
        case measure => have := HK.out; omega
        case rel =>
          have hfin : UInt8.ofNat (128 + n) :: body 160 192 (ks.take (j + 1)) = Lb ++ [hb] ++ key.data.toList ++ [192] := by rw [HBT.out, hhb, ← HLB.out]; simp
          have hlen3 : (UInt8.ofNat (128 + n) :: body 160 192 (ks.take (j + 1))).length = nb + 1 + key.size + 1 := by rw [hfin]; simp [HNB.out]; omega
          refine ⟨j + 1, A4, c4, hlt, rfl, by simp, by rw [hlen3], ?_, ⟨u3, u4, u5, by omega⟩, HG4.out⟩
          have h := HO4.out
          rw [hlen3, hfin, bv_app, bv_app, bv_app, ← byteCells_bv]
          exact h
    · obtain rfl : j = n := by omega
      go_wp2
      go_ret
      rw [List.take_of_length_le (by omega)] at hO ⊢
      exact ⟨Ab0, cb0, rfl, own_mono hO (Nat.le_succ _), HG.out⟩
set_option maxRecDepth 20000 in
set_option maxHeartbeats 1000000 in
theorem enc_pack (A AV : Option Addr) (n c cv : Nat) (ks : List ByteArray) (w : World) (h : SR w A n c ks) (hv : NV w AV n cv) (hn : n < 16) (hi : Inc ks) :
    Calls Tryz.prog 25 #[tre 7 (.slice A n c) (.slice AV n cv)] w (EOut w (UInt8.ofNat (128 + n) :: body 160 192 ks)) := by
  have ga : G w.heap.size none w (w.alloc (treO 7 (.slice A n c) (.slice AV n cv))) := (G.refl _ _ _).alloc _ (Nat.le_refl _)
  have HC := Lib.hid (check_obj A AV n c cv ks _ (h.g ga rfl) (hv.g ga) (by omega) hi)
  have HU := Lib.hid (fun W g => unrep_obj (.slice A n c) AV n cv W (hv.g g) (by omega))
  have HP := Lib.hid (fun W g => mput_obj A AV n c cv ks W (h.g (R := none) g rfl) (hv.g g) hn hi)
  have hL : (UInt8.ofNat (128 + n) :: body 160 192 ks).length ≤ 32768 := by
    have := body_le 160 192 ks (fun k hk => (hi.1 k hk).1)
    rw [h.len] at this
    simp only [List.length_cons]; omega
  generalize UInt8.ofNat (128 + n) :: body 160 192 ks = L at *
  have hq : decide (32768 < L.length) = false := by simp; omega
  have hq2 : decide ((32768 : Int) < (L.length : Int)) = false := by simp; omega
  clear h hv hi ga
  go_enter Tryz.func25, Tryz.ntmps25
  go_wp2_with fail
  refine HC.out.mono ?_
  rintro e w1 ⟨rfl, hg1⟩
  have hT := hg1.newest (by simp)
  have HG := Lib.hid hg1.past
  have HT := Lib.hid hT
  obtain ⟨c0, c1, c2, c3, c4, c5, c6, c7⟩ := cells8' hT
  clear hg1 hT
  go_wp2_with fail
  refine (HU.out w1 HG.out).mono ?_
  rintro e w2 ⟨rfl, hg2⟩
  have HG2 := Lib.hid (HG.out.trans (hg2.mono HG.out.size))
  have hT2 := (hg2.block _ (lt_heap HT.out) (by simp)).trans HT.out
  clear hg2 c0 c1 c2 c3 c4 c5 c6 c7
  obtain ⟨c0, c1, c2, c3, c4, c5, c6, c7⟩ := cells8' hT2
  clear hT2
  go_wp2_with fail
  refine (HP.out w2 HG2.out).mono ?_
  rintro e w3 ⟨A2, c2', rfl, hO, hg3⟩
  have HO := Lib.hid (own_mono hO HG2.out.size)
  have HG3 := Lib.hid (HG2.out.trans (hg3.mono HG2.out.size))
  clear hO hg3 c0 c1 c2 c3 c4 c5 c6 c7
  go_wp2
  go_ret2
  exact ⟨A2, c2', rfl, HO.out, HG3.out⟩
/-- Bytes of the call's own, as a string. -/
theorem conv_own {w : World} {B : Nat} {A : Option Addr} {c : Nat} {L : List UInt8} (h : w.ownsRow B 5 1 (.slice A L.length c) L.length (bv L)) (h0 : 0 < L.length) :
    (convert 59 9 (.slice A L.length c)).run Tryz.prog w = .ok (.string ⟨L.toArray⟩) w := by
  obtain ⟨g, rfl, _, hl, _, _, hc⟩ := own_at h h0
  have hB : BY w g L := ⟨hl, fun i hi => by rw [hc i hi]; simp [bv, List.getD, hi]⟩
  have := conv_sub hB 0 L.length c (by omega)
  rw [this]
  simp [sub]
set_option maxRecDepth 20000 in
set_option maxHeartbeats 1000000 in
theorem encode_ok (f : Int) (K V : Value) (L : List UInt8) (w : World) (h0 : 0 < L.length)
    (h : (f = 2 ∧ ∀ W, G w.heap.size none w W → Calls Tryz.prog 24 #[tre 7 K V] W (EOut W L)) ∨ (f = 3 ∧ ∀ W, G w.heap.size none w W → Calls Tryz.prog 25 #[tre 7 K V] W (EOut W L))) :
    Calls Tryz.prog 9 #[.int .i64 f, tre 7 K V] w fun e w' => e = .returned (.tuple #[.string ⟨L.toArray⟩, .int .i64 0]) ∧ G w.heap.size none w w' := by
  have ga : G w.heap.size none w (w.alloc (treO 7 K V)) := (G.refl _ _ _).alloc _ (Nat.le_refl _)
  rcases h with ⟨rfl, h⟩ | ⟨rfl, h⟩
  all_goals
    have HE := Lib.hid (h _ ga)
    clear h
    go_enter Tryz.func9, Tryz.ntmps9
    go_wp2_with fail
    refine HE.out.mono ?_
    rintro e w1 ⟨A2, c2, rfl, hO, hg⟩
    have hcv := conv_own hO h0
    have HG := Lib.hid hg.past
    clear hO hg
    go_wp2
    go_ret2
    exact ⟨rfl, HG.out⟩
end Go.Proofs.YtcfjiaogdmjlbaaGreat
