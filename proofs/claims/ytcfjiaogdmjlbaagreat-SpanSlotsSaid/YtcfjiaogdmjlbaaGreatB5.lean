/- The walk of a CBOR value that is a small whole number. -/
import Derived.Test.YtcfjiaogdmjlbaaGreatB4
namespace Go.Proofs.YtcfjiaogdmjlbaaGreat
open Go.RowKit
theorem split_any (v : Nat) (hv : v < 18446744073709551616) (w : World) :
    Calls Tryz.prog 299 #[.int .u64 (v : Nat)] w fun e w' => ∃ A c, e = .returned (.slice A 2 c) ∧ NR w' A 2 c [v % 4294967296, v / 4294967296] ∧ G w.heap.size none w w' := by
  go_enter Tryz.func299, Tryz.ntmps299
  go_wp2
  go_ret
  refine ⟨_, _, rfl, ⟨rfl, Nat.le_refl _, by omega, by omega, fun e => (by cases e), ?_, fun _ => ⟨w.heap.size, 0, rfl, by simp, ?_, _, _, heap_new _ _⟩⟩, (G.refl _ _ _).alloc _ (Nat.le_refl _)⟩
  · intro x hx; simp at hx; rcases hx with rfl | rfl <;> omega
  · intro i hi
    rw [Nat.zero_add, cell_heap (heap_new _ _)]
    match i, hi with
    | 0, _ => simp
    | 1, _ => simp
theorem of_pos (A : Option Addr) (n c : Nat) (xs : List Nat) (w : World) (h : NR w A n c xs) :
    Calls Tryz.prog 298 #[.bool false, .slice A n c] w fun e w' => ∃ A' c', e = .returned (.tuple #[.bool false, .slice A' (limbs (val xs)).length c']) ∧ NR w' A' (limbs (val xs)).length c' (limbs (val xs)) ∧ G w.heap.size none w w' := by
  have HN := Lib.hid (norm_val A n c xs w h); clear h
  go_enter Tryz.func298, Tryz.ntmps298
  go_wp2_with (go_at_call 257; refine HN.out.mono ?_; rintro e w1 ⟨A1, c1, rfl, h1, hg1⟩)
  go_ret2
  exact ⟨A1, c1, rfl, h1, hg1⟩
set_option maxRecDepth 20000 in
set_option maxHeartbeats 800000 in
theorem value_small (R B n cap : Nat) (L : List UInt8) (a nd deep : Int) (k : Nat) (w : World) (h0 : 0 ≤ a) (h1 : a < n) (hL : L.length = n) (hn : n ≤ 1000000) (hcap : n ≤ cap) (hcap2 : cap ≤ 9223372036854775807)
    (hd : deep ≤ 64) (hnd0 : 0 ≤ nd) (hnd : nd < 2000) (hr : Rdr 330 w R B n cap a nd) (hB : BY w B L) (hBR : B ≠ R) (hk : 0 < k ∧ k < 10) (hc : byt L a = (k : Nat)) :
    Calls Tryz.prog 294 #[.pointer (some ⟨R, 0, none⟩), .int .i64 deep] w fun e w' => ∃ v, e = .returned v ∧ Eight v ∧ G w.heap.size (some R) w w' ∧ Rdr 330 w' R B n cap (a + 1) (nd + 1) := by
  have hb := hB.at_ a h0 (by omega)
  rw [hc] at hb
  have hRlt := hr.lt
  have hBlt := hB.1
  have hne : ¬ R = w.heap.size := by omega
  have hne2 : ¬ w.heap.size = R := by omega
  have HR := Lib.hid (hr.alloc zero8)
  have HB := Lib.hid hB; clear hB hc
  have Hb := Lib.hid (show (w.alloc zero8).cell? ⟨B, a.toNat, none⟩ = some (.int .u8 (k : Nat)) from (World.cell?_of_block (Below.heap_alloc w zero8 B hBlt)).trans hb); clear hb hr
  have r2 := HR.out.c2
  have f2 := HR.out.fz 2
  have m1 : ((k : Int) == 31) = false := by rw [beq_eq_false_iff_ne]; omega
  go_enter Tryz.func294, Tryz.ntmps294
  go_wp2_with fail
  refine (first_ok R B n cap a nd (k : Nat) _ h0 h1 hn (by omega) HR.out Hb.out).mono ?_
  rw [show ((k : Nat) : Int) / 32 = 0 by omega, show ((k : Nat) : Int) % 32 = (k : Nat) by omega]
  rintro e w1 ⟨rfl, q, rfl⟩
  go_wp2_with (go_at_call 293; refine (must_k _ (by first | rfl | (simp; omega)) _ _).mono ?_; rintro e w' ⟨rfl, rfl⟩)
  refine (head_small R B n cap a (nd + 1) (k : Nat) _ h0 h1 hn hcap hcap2 (by omega) (by omega) ((HR.out.drewN q).set2 _) ((cell_other _ _ _ _ _ _ hBR).trans Hb.out)).mono ?_
  rw [show ((k : Nat) : Int) % 32 = (k : Nat) by omega]
  rintro e w2 ⟨rfl, hg2, hr2⟩
  have hN2 : w2.heap[w.heap.size]? = some zero8 := (hg2.block w.heap.size (by simp) (some_ne hne2)).trans ((Below.heap_setCell _ _ _ _ hne2).trans (heap_new w zero8))
  have hGw : G w.heap.size (some R) w w2 := (((((G.refl w.heap.size (some R) w).alloc zero8 (Nat.le_refl _)).drewN q).set 2 (.int .i64 (nd + 1)))).trans (hg2.mono (by simp))
  have HG2 := Lib.hid hGw
  have HR2 := Lib.hid hr2
  have HN2 := Lib.hid hN2
  clear hg2 hr2 hN2 hGw
  go_wp2_with (first | (go_at_call 293; refine (must_k _ (by first | rfl | (simp; omega)) _ _).mono ?_; rintro e w' ⟨rfl, rfl⟩) | (go_at_call 299; refine (split_any k (by omega) _).mono ?_; rintro e w3 ⟨A3, c3, rfl, h3, hg3⟩) | (go_at_call 298; refine (of_pos A3 2 c3 _ _ h3).mono ?_; rintro e w4 ⟨A4, c4, rfl, h4, hg4⟩))
  have hv : val [k % 4294967296, k / 4294967296] = k := by simp only [val]; omega
  have hlk : limbs k = [k] := by rw [limbs_pos (by omega), show k / 4294967296 = 0 by omega, limbs_zero, show k % 4294967296 = k by omega]
  rw [hv, hlk] at h4
  rw [hv, hlk]
  have hvk : val [k] = k := by simp [val]
  have htr : trimN k = (k, 0) := trimN_stop (.inr (by omega))
  have hmk := make_ok false A4 1 c4 [k] 0 w4 h4 (by rw [hvk]; omega) (by rw [hvk, htr, hlk]; simp) (by rw [hvk, htr]; simp) (by rw [hvk, htr]; simp) (by rw [hvk, htr, hlk]; simp) (by rw [hvk, htr]; simp)
  rw [hvk, htr, hlk] at hmk
  refine hmk.mono ?_
  rintro e w5 ⟨A5, c5, rfl, h5, hg5⟩
  have hN3 : w3.heap[w.heap.size]? = some zero8 := (hg3.block w.heap.size (lt_heap HN2.out) (by simp)).trans HN2.out
  have hN4 : w4.heap[w.heap.size]? = some zero8 := (hg4.block w.heap.size (lt_heap hN3) (by simp)).trans hN3
  have hN5 : w5.heap[w.heap.size]? = some zero8 := (hg5.block w.heap.size (lt_heap hN4) (by simp)).trans hN4
  have g25 : G w2.heap.size none w2 w5 := (hg3.trans (hg4.mono hg3.size)).trans (hg5.mono (Nat.le_trans hg3.size hg4.size))
  have HR5 := Lib.hid (HR2.out.g g25 HR2.out.lt (by simp))
  have HG5 := Lib.hid (HG2.out.trans ((g25.wide (some R)).mono HG2.out.size))
  have hlt5 := lt_heap hN5
  have hne5 : ¬ w.heap.size = w5.heap.size := by omega
  obtain ⟨p0, p1, p2, p3, p4, p5, p6, p7⟩ := cells8 hN5
  have fz := fun i => froz_heap hN5 i
  have HN5 := Lib.hid hN5
  clear hN3 hN4 hN5 hg3 hg4 hg5 g25 h3 h4 h5 HR2 HG2 HN2 hmk hv hlk hvk htr
  go_wp2
  show bodyPost _ _ _ _ _ ((set8 w5 w.heap.size _ _ _ _ _ _ _ _).alloc _)
  have hW := set8_heap HN5.out rfl (.int .i64 3) (.bool false) (.bool false) (.slice A5 1 c5) (.int .i64 0) (.string ⟨#[]⟩) (.slice none 0 0) (.slice none 0 0)
  have GW := HG5.out.set8 w.heap.size (.int .i64 3) (.bool false) (.bool false) (.slice A5 1 c5) (.int .i64 0) (.string ⟨#[]⟩) (.slice none 0 0) (.slice none 0 0) (Nat.le_refl _)
  have RW : Rdr 330 (set8 w5 w.heap.size (.int .i64 3) (.bool false) (.bool false) (.slice A5 1 c5) (.int .i64 0) (.string ⟨#[]⟩) (.slice none 0 0) (.slice none 0 0)) R B n cap (a + 1) (nd + 1) := (set8_other _ _ _ _ _ _ _ _ _ _ _ hne).trans HR5.out
  generalize set8 w5 w.heap.size (.int .i64 3) (.bool false) (.bool false) (.slice A5 1 c5) (.int .i64 0) (.string ⟨#[]⟩) (.slice none 0 0) (.slice none 0 0) = W0 at *
  have hW := (Below.heap_alloc W0 (.cells #[.bool false, .slice A5 1 c5, .int .i64 0] 26) _ (lt_heap hW)).trans hW
  have GW := GW.alloc (.cells #[.bool false, .slice A5 1 c5, .int .i64 0] 26) GW.size
  have RW := RW.alloc (.cells #[.bool false, .slice A5 1 c5, .int .i64 0] 26)
  generalize W0.alloc (.cells #[.bool false, .slice A5 1 c5, .int .i64 0] 26) = W at *
  obtain ⟨x0, x1, x2, x3, x4, x5, x6, x7⟩ := cells8 hW
  exact bodyPost_ret (v := .agg #[.int .i64 3, .bool false, .bool false, .slice A5 1 c5, .int .i64 0, .string ⟨#[]⟩, .slice none 0 0, .slice none 0 0]) (by simp [results, Tryz.results294, go_sem, x0, x1, x2, x3, x4, x5, x6, x7]) rfl
    ⟨_, rfl, ⟨_, _, _, _, _, _, _, _, _, _, _, _, _, _, rfl⟩, GW, RW⟩
end Go.Proofs.YtcfjiaogdmjlbaaGreat
