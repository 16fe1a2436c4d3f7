/- The walk of a Pack value that is an object of members of which each value is of one byte. -/
import Derived.Test.YtcfjiaogdmjlbaaGreatC5
namespace Go.Proofs.YtcfjiaogdmjlbaaGreat
open Go.RowKit
set_option maxRecDepth 20000 in
set_option maxHeartbeats 800000 in
theorem pvalue_object (R B n cap : Nat) (L : List UInt8) (a z : Nat) (nd deep : Int) (ks : List ByteArray) (w : World) (hz : z ≤ n) (han : a < n) (hL : L.length = n) (hn : n ≤ 1000000) (hcap : n ≤ cap) (hcap2 : cap ≤ 9223372036854775807)
    (hd0 : 0 ≤ deep) (hd : deep ≤ 63) (hnd0 : 0 ≤ nd) (hnd : nd + 1 + ks.length ≤ 2000) (hr : Rdr 351 w R B n cap (a : Nat) nd) (hB : BY w B L) (hBR : B ≠ R) (hm : ks.length < 16) (hc : byt L a = 128 + (ks.length : Nat)) (hi : PItems L ks (a + 1) z) (htw : twAux [] ks 0 = (0, false)) :
    Calls Tryz.prog 333 #[.pointer (some ⟨R, 0, none⟩), .int .i64 deep] w fun e w' => ∃ v, e = .returned v ∧ Eight v ∧ G w.heap.size (some R) w w' ∧ Rdr 351 w' R B n cap (z : Nat) (nd + 1 + ks.length) := by
  have h0 : (0 : Int) ≤ ((a : Nat) : Int) := by omega
  have h1 : ((a : Nat) : Int) < n := by omega
  have hnd2 : nd < 2000 := by omega
  have HI := Lib.hid hi; clear hi
  have HT := Lib.hid htw; clear htw
  have HL := Lib.hid hL
  have HO := fun (W : World) h1 h2 => pobject R B n cap L (a + 1) z (nd + 1) deep ks W hz HL.out hn hcap hcap2 hd0 hd (by omega) (by omega) h1 h2 hBR HI.out HT.out
  obtain ⟨m, hmm⟩ : ∃ m, ks.length = m := ⟨_, rfl⟩
  rw [hmm] at hc hm hnd
  have HM := Lib.hid hmm
  simp only [hmm] at HO
  rw [hmm]
  clear hmm
  have HO := Lib.hid HO
  have hb := hB.at_ (a : Nat) h0 (by omega)
  rw [hc] at hb
  have hRlt := hr.lt
  have hBlt := hB.1
  have hne : ¬ R = w.heap.size := by omega
  have hne2 : ¬ w.heap.size = R := by omega
  have HR := Lib.hid (hr.alloc zero8)
  have HB := Lib.hid hB; clear hB hc
  have Hb := Lib.hid (show (w.alloc zero8).cell? ⟨B, (a : Int).toNat, none⟩ = some (.int .u8 (128 + (m : Nat))) from (World.cell?_of_block (Below.heap_alloc w zero8 B hBlt)).trans hb); clear hb hr
  go_enter Tryz.func333, Tryz.ntmps333
  go_wp2_with fail
  refine (phead R B n cap (a : Nat) nd (128 + (m : Nat)) 10 (m : Nat) _ h0 h1 hn hcap hcap2 (by simp; omega) (by unfold Hd; omega) HR.out Hb.out).mono ?_
  rintro e w2 ⟨rfl, hg2, hr2⟩
  have hN2 : w2.heap[w.heap.size]? = some zero8 := (hg2.block w.heap.size (by simp) (some_ne hne2)).trans (heap_new w zero8)
  have hGw : G w.heap.size (some R) w w2 := ((G.refl w.heap.size (some R) w).alloc zero8 (Nat.le_refl _)).trans (hg2.mono (by simp))
  have HG3 := Lib.hid (hGw.set 2 (.int .i64 (nd + 1)))
  have r2 := hr2.c2
  have f2 := hr2.fz 2
  have HR3 := Lib.hid (hr2.set2 (nd + 1))
  have HN3 := Lib.hid ((Below.heap_setCell w2 ⟨R, 2, none⟩ (.int .i64 (nd + 1)) _ hne2).trans hN2)
  clear hg2 hr2 hN2 hGw
  go_wp2_with (go_at_call 332; refine (pmust _ (by first | rfl | (simp; omega)) _ _).mono ?_; rintro e w' ⟨rfl, rfl⟩)
  generalize hw3 : w2.setCell ⟨R, 2, none⟩ (.int .i64 (nd + 1)) = w3 at *
  refine (HO.out w3 HR3.out (HB.out.g HG3.out hBlt (some_ne hBR))).mono ?_
  rintro e w4 ⟨v4, rfl, hv4, hg4, hr4⟩
  obtain ⟨k0, b0, g0, AM0, nM0, cM0, e0, s0, AK0, nK0, cK0, AV0, nV0, cV0, rfl⟩ := hv4
  have hN4 : w4.heap[w.heap.size]? = some zero8 := (hg4.block w.heap.size (lt_heap HN3.out) (some_ne hne2)).trans HN3.out
  have HR4 := Lib.hid (hr4)
  have HG4 := Lib.hid (HG3.out.trans (hg4.mono HG3.out.size))
  obtain ⟨p0, p1, p2, p3, p4, p5, p6, p7⟩ := cells8 hN4
  have fz := fun i => froz_heap hN4 i
  have HN4 := Lib.hid hN4
  clear hN4 hg4
  go_wp2
  show bodyPost _ _ _ _ _ (set8 w4 w.heap.size _ _ _ _ _ _ _ _)
  have hW := set8_heap HN4.out rfl (.int .i64 k0) (.bool b0) (.bool g0) (.slice AM0 nM0 cM0) (.int .i64 e0) (.string s0) (.slice AK0 nK0 cK0) (.slice AV0 nV0 cV0)
  have GW := HG4.out.set8 w.heap.size (.int .i64 k0) (.bool b0) (.bool g0) (.slice AM0 nM0 cM0) (.int .i64 e0) (.string s0) (.slice AK0 nK0 cK0) (.slice AV0 nV0 cV0) (Nat.le_refl _)
  have RW : Rdr 351 (set8 w4 w.heap.size (.int .i64 k0) (.bool b0) (.bool g0) (.slice AM0 nM0 cM0) (.int .i64 e0) (.string s0) (.slice AK0 nK0 cK0) (.slice AV0 nV0 cV0)) R B n cap (z : Nat) (nd + 1 + m) := (set8_other _ _ _ _ _ _ _ _ _ _ _ hne).trans HR4.out
  generalize set8 w4 w.heap.size (.int .i64 k0) (.bool b0) (.bool g0) (.slice AM0 nM0 cM0) (.int .i64 e0) (.string s0) (.slice AK0 nK0 cK0) (.slice AV0 nV0 cV0) = W at *
  obtain ⟨x0, x1, x2, x3, x4, x5, x6, x7⟩ := cells8 hW
  exact bodyPost_ret (v := .agg #[.int .i64 k0, .bool b0, .bool g0, .slice AM0 nM0 cM0, .int .i64 e0, .string s0, .slice AK0 nK0 cK0, .slice AV0 nV0 cV0]) (by simp [results, Tryz.results333, go_sem, x0, x1, x2, x3, x4, x5, x6, x7]) rfl
    ⟨_, rfl, ⟨_, _, _, _, _, _, _, _, _, _, _, _, _, _, rfl⟩, GW, RW⟩
end Go.Proofs.YtcfjiaogdmjlbaaGreat
