/- The walks of Pack values that are null, and of small whole numbers. -/
import Derived.Test.YtcfjiaogdmjlbaaGreatC2
namespace Go.Proofs.YtcfjiaogdmjlbaaGreat
open Go.RowKit
set_option maxRecDepth 20000 in
set_option maxHeartbeats 800000 in
theorem pwhole (k : Nat) (hk : 0 < k ∧ k < 10) (w : World) :
    Calls Tryz.prog 335 #[.bool false, .int .u64 (k : Nat)] w fun e w' => ∃ v, e = .returned v ∧ Eight v ∧ G w.heap.size none w w' := by
  go_enter Tryz.func335, Tryz.ntmps335
  go_wp2_with fail
  have hz : (k : Int) / 4294967296 = 0 := by omega
  rw [hz]
  have hv : val [k, 0] = k := by simp only [val]; omega
  have hlk : limbs k = [k] := by rw [limbs_pos (by omega), show k / 4294967296 = 0 by omega, limbs_zero, show k % 4294967296 = k by omega]
  have htr : trimN k = (k, 0) := trimN_stop (.inr (by omega))
  have hNR : ∀ W : World, NR (W.alloc (.cells #[.int .u32 (k : Nat), .int .u32 0] 106)) (some ⟨W.heap.size, 0, none⟩) 2 2 [k, 0] := fun W => by
    refine ⟨rfl, Nat.le_refl _, by omega, by omega, fun e => (by cases e), ?_, fun _ => ⟨W.heap.size, 0, rfl, by simp, ?_, _, _, heap_new _ _⟩⟩
    · intro x hx; simp at hx; rcases hx with rfl | rfl <;> omega
    · intro i hi
      rw [Nat.zero_add, cell_heap (heap_new _ _)]
      match i, hi with
      | 0, _ => simp
      | 1, _ => simp
  have hmk := make_ok false _ 2 2 [k, 0] 0 _ (hNR (w.alloc zero8)) (by rw [hv]; omega) (by rw [hv, htr, hlk]; simp) (by rw [hv, htr]; simp) (by rw [hv, htr]; simp) (by rw [hv, htr, hlk]; simp) (by rw [hv, htr]; simp)
  rw [hv, htr, hlk, show (w.alloc zero8).heap.size = w.heap.size + 1 by simp] at hmk
  refine hmk.mono ?_
  rintro e w5 ⟨A5, c5, rfl, h5, hg5⟩
  have hN5 : w5.heap[w.heap.size]? = some zero8 := (hg5.block w.heap.size (by simp <;> omega) (by simp)).trans ((Below.heap_alloc _ _ _ (by simp)).trans (heap_new w zero8))
  have HG5 := Lib.hid ((((G.refl w.heap.size none w).alloc zero8 (Nat.le_refl _)).alloc (.cells #[.int .u32 (k : Nat), .int .u32 0] 106) (by simp)).trans (hg5.mono (by simp; omega)))
  have hlt5 := lt_heap hN5
  have hne5 : ¬ w.heap.size = w5.heap.size := by omega
  obtain ⟨p0, p1, p2, p3, p4, p5, p6, p7⟩ := cells8 hN5
  have fz := fun i => froz_heap hN5 i
  have HN5 := Lib.hid hN5
  clear hN5 hg5 h5 hmk hv hlk htr hNR
  go_wp2
  show bodyPost _ _ _ _ _ ((set8 w5 w.heap.size _ _ _ _ _ _ _ _).alloc _)
  have hW := set8_heap HN5.out rfl (.int .i64 3) (.bool false) (.bool false) (.slice A5 1 c5) (.int .i64 0) (.string ⟨#[]⟩) (.slice none 0 0) (.slice none 0 0)
  have GW := HG5.out.set8 w.heap.size (.int .i64 3) (.bool false) (.bool false) (.slice A5 1 c5) (.int .i64 0) (.string ⟨#[]⟩) (.slice none 0 0) (.slice none 0 0) (Nat.le_refl _)
  generalize set8 w5 w.heap.size (.int .i64 3) (.bool false) (.bool false) (.slice A5 1 c5) (.int .i64 0) (.string ⟨#[]⟩) (.slice none 0 0) (.slice none 0 0) = W0 at *
  have hW := (Below.heap_alloc W0 (.cells #[.bool false, .slice A5 1 c5, .int .i64 0] 26) _ (lt_heap hW)).trans hW
  have GW := GW.alloc (.cells #[.bool false, .slice A5 1 c5, .int .i64 0] 26) GW.size
  generalize W0.alloc (.cells #[.bool false, .slice A5 1 c5, .int .i64 0] 26) = W at *
  obtain ⟨x0, x1, x2, x3, x4, x5, x6, x7⟩ := cells8 hW
  exact bodyPost_ret (v := .agg #[.int .i64 3, .bool false, .bool false, .slice A5 1 c5, .int .i64 0, .string ⟨#[]⟩, .slice none 0 0, .slice none 0 0]) (by simp [results, Tryz.results335, go_sem, x0, x1, x2, x3, x4, x5, x6, x7]) rfl
    ⟨_, rfl, ⟨_, _, _, _, _, _, _, _, _, _, _, _, _, _, rfl⟩, GW⟩
set_option maxRecDepth 20000 in
set_option maxHeartbeats 400000 in
theorem pvalue_null (R B n cap : Nat) (L : List UInt8) (a nd deep : Int) (w : World) (h0 : 0 ≤ a) (h1 : a < n) (hL : L.length = n) (hn : n ≤ 1000000) (hcap : n ≤ cap) (hcap2 : cap ≤ 9223372036854775807)
    (hd : deep ≤ 64) (hnd0 : 0 ≤ nd) (hnd : nd < 2000) (hr : Rdr 351 w R B n cap a nd) (hB : BY w B L) (hBR : B ≠ R) (hc : byt L a = 192) :
    Calls Tryz.prog 333 #[.pointer (some ⟨R, 0, none⟩), .int .i64 deep] w fun e w' => ∃ v, e = .returned v ∧ Eight v ∧ G w.heap.size (some R) w w' ∧ Rdr 351 w' R B n cap (a + 1) (nd + 1) := by
  have hb := hB.at_ a h0 (by omega)
  rw [hc] at hb
  have hRlt := hr.lt
  have hBlt := hB.1
  have hne : ¬ R = w.heap.size := by omega
  have hne2 : ¬ w.heap.size = R := by omega
  have HR := Lib.hid (hr.alloc zero8)
  have HB := Lib.hid hB; clear hB
  have Hb := Lib.hid (show (w.alloc zero8).cell? ⟨B, a.toNat, none⟩ = some (.int .u8 192) from (World.cell?_of_block (Below.heap_alloc w zero8 B hBlt)).trans hb); clear hb hr
  go_enter Tryz.func333, Tryz.ntmps333
  go_wp2_with fail
  refine (phead R B n cap a nd 192 1 0 _ h0 h1 hn hcap hcap2 (by simp; omega) (by unfold Hd; omega) HR.out Hb.out).mono ?_
  rintro e w2 ⟨rfl, hg2, hr2⟩
  have hN2 : w2.heap[w.heap.size]? = some zero8 := (hg2.block w.heap.size (by simp) (some_ne hne2)).trans (heap_new w zero8)
  have hGw : G w.heap.size (some R) w w2 := ((G.refl w.heap.size (some R) w).alloc zero8 (Nat.le_refl _)).trans (hg2.mono (by simp))
  have HG3 := Lib.hid (hGw.set 2 (.int .i64 (nd + 1)))
  have r2 := hr2.c2
  have f2 := hr2.fz 2
  have HR3 := Lib.hid (hr2.set2 (nd + 1))
  have HN3 := Lib.hid ((Below.heap_setCell w2 ⟨R, 2, none⟩ (.int .i64 (nd + 1)) _ hne2).trans hN2)
  obtain ⟨p0, p1, p2, p3, p4, p5, p6, p7⟩ := cells8 hN2
  have fz := fun i => froz_heap hN2 i
  clear hg2 hr2 hN2 hGw
  go_wp2_with (go_at_call 332; refine (pmust _ (by first | rfl | (simp; omega)) _ _).mono ?_; rintro e w' ⟨rfl, rfl⟩)
  have HG4 := HG3
  generalize hw3 : w2.setCell ⟨R, 2, none⟩ (.int .i64 (nd + 1)) = w3 at *
  show bodyPost _ _ _ _ _ (set8 w3 w.heap.size _ _ _ _ _ _ _ _)
  have hW := set8_heap HN3.out rfl (.int .i64 1) (.bool false) (.bool false) (.slice none 0 0) (.int .i64 0) (.string ⟨#[]⟩) (.slice none 0 0) (.slice none 0 0)
  have GW := HG3.out.set8 w.heap.size (.int .i64 1) (.bool false) (.bool false) (.slice none 0 0) (.int .i64 0) (.string ⟨#[]⟩) (.slice none 0 0) (.slice none 0 0) (Nat.le_refl _)
  have RW : Rdr 351 (set8 w3 w.heap.size (.int .i64 1) (.bool false) (.bool false) (.slice none 0 0) (.int .i64 0) (.string ⟨#[]⟩) (.slice none 0 0) (.slice none 0 0)) R B n cap (a + 1) (nd + 1) := (set8_other _ _ _ _ _ _ _ _ _ _ _ hne).trans HR3.out
  generalize set8 w3 w.heap.size (.int .i64 1) (.bool false) (.bool false) (.slice none 0 0) (.int .i64 0) (.string ⟨#[]⟩) (.slice none 0 0) (.slice none 0 0) = W at *
  obtain ⟨x0, x1, x2, x3, x4, x5, x6, x7⟩ := cells8 hW
  exact bodyPost_ret (v := .agg #[.int .i64 1, .bool false, .bool false, .slice none 0 0, .int .i64 0, .string ⟨#[]⟩, .slice none 0 0, .slice none 0 0]) (by simp [results, Tryz.results333, go_sem, x0, x1, x2, x3, x4, x5, x6, x7]) rfl
    ⟨_, rfl, ⟨_, _, _, _, _, _, _, _, _, _, _, _, _, _, rfl⟩, GW, RW⟩
end Go.Proofs.YtcfjiaogdmjlbaaGreat
