/- The walk of the making of a number. -/
import Derived.Test.YtcfjiaogdmjlbaaGreatB2
namespace Go.Proofs.YtcfjiaogdmjlbaaGreat
open Go.RowKit
theorem heap_new (w : World) (o : Obj) : (w.alloc o).heap[w.heap.size]? = some o := by show (w.heap.push o)[_]? = _; simp
theorem G.newest {w w1 : World} {o : Obj} {R : Option Nat} (h : G (w.alloc o).heap.size R (w.alloc o) w1) (hr : some w.heap.size ≠ R) : w1.heap[w.heap.size]? = some o :=
  (h.block w.heap.size (by simp) hr).trans (heap_new w o)
theorem G.past {w w1 : World} {o : Obj} {R : Option Nat} (h : G (w.alloc o).heap.size R (w.alloc o) w1) : G w.heap.size R w w1 :=
  ((G.refl _ _ _).alloc o (Nat.le_refl _)).trans (h.mono (by simp))
def set3 (w : World) (b : Nat) (c0 c1 c2 : Value) : World := ((w.setCell ⟨b, 0, none⟩ c0).setCell ⟨b, 1, none⟩ c1).setCell ⟨b, 2, none⟩ c2
theorem set3_heap {w : World} {b : Nat} {a0 a1 a2 : Value} {T : TypeId} {fz : Nat × Nat} (h : w.heap[b]? = some (.cells #[a0, a1, a2] T fz)) (c0 c1 c2 : Value) :
    (set3 w b c0 c1 c2).heap[b]? = some (.cells #[c0, c1, c2] T fz) := heap_set (j := 2) (heap_set (j := 1) (heap_set (j := 0) h c0) c1) c2
theorem G.set3 {B0 : Nat} {R : Option Nat} {a w : World} (h : G B0 R a w) (b : Nat) (c0 c1 c2 : Value) (hb : B0 ≤ b) : G B0 R a (set3 w b c0 c1 c2) :=
  ((h.put b 0 c0 hb).put b 1 c1 hb).put b 2 c2 hb
set_option maxRecDepth 20000 in
set_option maxHeartbeats 2000000 in
theorem make_zero (neg : Bool) (A : Option Addr) (n c : Nat) (xs : List Nat) (e : Int) (w : World) (h : NR w A n c xs) (hv : val xs = 0) :
    Calls Tryz.prog 233 #[.bool neg, .slice A n c, .int .i64 e] w fun r w' => r = .returned (.tuple #[.agg #[.bool false, .slice none 0 0, .int .i64 0], .bool true]) ∧ G w.heap.size none w w' := by
  have ht := fun W hW => trim_any A n c xs W hW
  simp only [hv, trimN_stop (n := 0) (.inl rfl), limbs_zero, List.length_nil] at ht
  have HT := Lib.hid ht; clear ht hv
  have H := Lib.hid h; clear h
  go_enter Tryz.func233, Tryz.ntmps233
  go_wp2_with fail
  refine (HT.out _ (H.out.g ((G.refl _ _ _).alloc _ (Nat.le_refl _)))).mono ?_
  rintro r w1 ⟨A1, c1, rfl, h1, hg1⟩
  have hN := hg1.newest (by simp)
  have p0 := cell_heap hN 0
  have p1 := cell_heap hN 1
  have p2 := cell_heap hN 2
  simp only [List.getElem?_toArray, List.getElem?_cons_zero, List.getElem?_cons_succ] at p0 p1 p2
  have fz := fun i => froz_heap hN i
  have HG := Lib.hid hg1.past
  have HN := Lib.hid hN
  clear hN hg1 h1
  go_wp2
  show bodyPost _ _ _ _ _ (set3 w1 w.heap.size _ _ _)
  have hW := set3_heap HN.out (.bool false) (.slice none 0 0) (.int .i64 0)
  have GW := HG.out.set3 w.heap.size (.bool false) (.slice none 0 0) (.int .i64 0) (Nat.le_refl _)
  generalize set3 w1 w.heap.size (.bool false) (.slice none 0 0) (.int .i64 0) = W at *
  have r0 : W.cell? ⟨w.heap.size, 0, none⟩ = some _ := cell_heap hW 0
  have r1 : W.cell? ⟨w.heap.size, 1, none⟩ = some _ := cell_heap hW 1
  have r2 : W.cell? ⟨w.heap.size, 2, none⟩ = some _ := cell_heap hW 2
  exact bodyPost_ret (v := .tuple #[.agg #[.bool false, .slice none 0 0, .int .i64 0], .bool true]) (by simp [results, Tryz.results233, go_sem, r0, r1, r2]) rfl ⟨rfl, GW⟩
set_option maxRecDepth 20000 in
set_option maxHeartbeats 2000000 in
theorem make_ok (neg : Bool) (A : Option Addr) (n c : Nat) (xs : List Nat) (e : Int) (w : World) (h : NR w A n c xs) (hv : val xs ≠ 0) (hl : (limbs (trimN (val xs)).1).length ≤ 90) (he : -1200 ≤ e + ((trimN (val xs)).2 : Nat)) (he2 : e + ((trimN (val xs)).2 : Nat) ≤ 1200) (hm0 : 0 < (limbs (trimN (val xs)).1).length) (ht0 : (trimN (val xs)).2 ≤ 100000000) :
    Calls Tryz.prog 233 #[.bool neg, .slice A n c, .int .i64 e] w fun r w' => ∃ A' c', r = .returned (.tuple #[.agg #[.bool neg, .slice A' (limbs (trimN (val xs)).1).length c', .int .i64 (e + ((trimN (val xs)).2 : Nat))], .bool true]) ∧
      NR w' A' (limbs (trimN (val xs)).1).length c' (limbs (trimN (val xs)).1) ∧ G w.heap.size none w w' := by
  have ht := fun W hW => trim_any A n c xs W hW
  generalize trimN (val xs) = mt at *
  have HT := Lib.hid ht; clear ht hv
  have H := Lib.hid h; clear h
  obtain ⟨l, hll⟩ : ∃ l, (limbs mt.1).length = l := ⟨_, rfl⟩
  obtain ⟨t, htt⟩ : ∃ t, mt.2 = t := ⟨_, rfl⟩
  rw [hll] at hl hm0 ⊢
  rw [htt] at he he2 ht0 ⊢
  have HLL := Lib.hid hll; clear hll
  have HTT := Lib.hid htt; clear htt
  have b1 : ((l : Int) == 0) = false := by rw [beq_eq_false_iff_ne]; omega
  have b2 : decide ((l : Int) > 90) = false := by simp; omega
  have b3 : decide (e > 1200 - (t : Int)) = false := by simp; omega
  have b4 : decide (e < -1200 - (t : Int)) = false := by simp; omega
  go_enter Tryz.func233, Tryz.ntmps233
  go_wp2_with fail
  refine (HT.out _ (H.out.g ((G.refl _ _ _).alloc _ (Nat.le_refl _)))).mono ?_
  rw [HLL.out, HTT.out]
  rintro r w1 ⟨A1, c1, rfl, h1, hg1⟩
  have hN := hg1.newest (by simp)
  have p0 := cell_heap hN 0
  have p1 := cell_heap hN 1
  have p2 := cell_heap hN 2
  simp only [List.getElem?_toArray, List.getElem?_cons_zero, List.getElem?_cons_succ] at p0 p1 p2
  have fz := fun i => froz_heap hN i
  have HG := Lib.hid hg1.past
  have HN := Lib.hid hN
  have H1 := Lib.hid h1
  clear hN hg1 h1
  go_wp2
  show bodyPost _ _ _ _ _ (set3 w1 w.heap.size _ _ _)
  have hW := set3_heap HN.out (.bool neg) (.slice A1 l c1) (.int .i64 (e + (t : Int)))
  have GW := HG.out.set3 w.heap.size (.bool neg) (.slice A1 l c1) (.int .i64 (e + (t : Int))) (Nat.le_refl _)
  have GN : G w1.heap.size none w1 w1 := G.refl _ _ _
  have H2 : NR (set3 w1 w.heap.size (.bool neg) (.slice A1 l c1) (.int .i64 (e + (t : Int)))) A1 l c1 (limbs mt.1) := by
    have hA := H1.out
    refine ⟨hA.len, hA.le, hA.cap, hA.sm, hA.nil_, hA.bd, fun h0 => ?_⟩
    obtain ⟨B, off, rfl, hB, hc, hT⟩ := hA.cells h0
    have hne : B ≠ w.heap.size := hT.ne HN.out (by decide)
    refine ⟨B, off, rfl, by simpa [set3] using hB, fun i hi => ?_, ?_⟩
    rotate_left
    · obtain ⟨cs, fz, h⟩ := hT
      refine ⟨cs, fz, ?_⟩
      unfold set3
      rw [Below.heap_setCell _ _ _ _ (by simpa using hne), Below.heap_setCell _ _ _ _ (by simpa using hne), Below.heap_setCell _ _ _ _ (by simpa using hne)]
      exact h
    unfold set3
    rw [cell_other _ _ _ _ _ _ hne, cell_other _ _ _ _ _ _ hne, cell_other _ _ _ _ _ _ hne]
    exact hc i hi
  generalize set3 w1 w.heap.size (.bool neg) (.slice A1 l c1) (.int .i64 (e + (t : Int))) = W at *
  have r0 : W.cell? ⟨w.heap.size, 0, none⟩ = some _ := cell_heap hW 0
  have r1 : W.cell? ⟨w.heap.size, 1, none⟩ = some _ := cell_heap hW 1
  have r2 : W.cell? ⟨w.heap.size, 2, none⟩ = some _ := cell_heap hW 2
  exact bodyPost_ret (v := .tuple #[.agg #[.bool neg, .slice A1 l c1, .int .i64 (e + (t : Int))], .bool true]) (by simp [results, Tryz.results233, go_sem, r0, r1, r2]) rfl ⟨A1, c1, rfl, H2, GW⟩
end Go.Proofs.YtcfjiaogdmjlbaaGreat
