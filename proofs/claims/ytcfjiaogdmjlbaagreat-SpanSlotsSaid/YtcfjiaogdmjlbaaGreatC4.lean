/- The walks of Pack values of one byte. -/
import Derived.Test.YtcfjiaogdmjlbaaGreatC3
namespace Go.Proofs.YtcfjiaogdmjlbaaGreat
open Go.RowKit
set_option maxRecDepth 20000 in
set_option maxHeartbeats 800000 in
theorem pvalue_small (R B n cap : Nat) (L : List UInt8) (a nd deep : Int) (k : Nat) (w : World) (h0 : 0 ≤ a) (h1 : a < n) (hL : L.length = n) (hn : n ≤ 1000000) (hcap : n ≤ cap) (hcap2 : cap ≤ 9223372036854775807)
    (hd : deep ≤ 64) (hnd0 : 0 ≤ nd) (hnd : nd < 2000) (hr : Rdr 351 w R B n cap a nd) (hB : BY w B L) (hBR : B ≠ R) (hk : 0 < k ∧ k < 10) (hc : byt L a = (k : Nat)) :
    Calls Tryz.prog 333 #[.pointer (some ⟨R, 0, none⟩), .int .i64 deep] w fun e w' => ∃ v, e = .returned v ∧ Eight v ∧ G w.heap.size (some R) w w' ∧ Rdr 351 w' R B n cap (a + 1) (nd + 1) := by
  have hb := hB.at_ a h0 (by omega)
  rw [hc] at hb
  have hRlt := hr.lt
  have hBlt := hB.1
  have hne : ¬ R = w.heap.size := by omega
  have hne2 : ¬ w.heap.size = R := by omega
  have HR := Lib.hid (hr.alloc zero8)
  have HB := Lib.hid hB; clear hB hc
  have Hb := Lib.hid (show (w.alloc zero8).cell? ⟨B, a.toNat, none⟩ = some (.int .u8 ((k : Nat))) from (World.cell?_of_block (Below.heap_alloc w zero8 B hBlt)).trans hb); clear hb hr
  go_enter Tryz.func333, Tryz.ntmps333
  go_wp2_with fail
  refine (phead R B n cap a nd ((k : Nat)) 4 (k : Nat) _ h0 h1 hn hcap hcap2 (by simp; omega) (by unfold Hd; omega) HR.out Hb.out).mono ?_
  rintro e w2 ⟨rfl, hg2, hr2⟩
  have hN2 : w2.heap[w.heap.size]? = some zero8 := (hg2.block w.heap.size (by simp) (some_ne hne2)).trans (heap_new w zero8)
  have hGw : G w.heap.size (some R) w w2 := ((G.refl w.heap.size (some R) w).alloc zero8 (Nat.le_refl _)).trans (hg2.mono (by simp))
  have HG3 := Lib.hid (hGw.set 2 (.int .i64 (nd + 1)))
  have r2 := hr2.c2
  have f2 := hr2.fz 2
  have HR3 := Lib.hid (hr2.set2 (nd + 1))
  have HN3 := Lib.hid ((Below.heap_setCell w2 ⟨R, 2, none⟩ (.int .i64 (nd + 1)) _ hne2).trans hN2)
  clear hg2 hr2 hN2 hGw
  go_wp2_with (go_at_call 332; refine (pmust _ (by first | rfl | (simp; omega)) _ _).mono ?_; rintro e w' ⟨rfl, rfl⟩)
  refine (pwhole k hk _).mono ?_
  generalize hw3 : w2.setCell ⟨R, 2, none⟩ (.int .i64 (nd + 1)) = w3 at *
  rintro e w4 ⟨v4, rfl, hv4, hg4⟩
  obtain ⟨k0, b0, g0, AM0, nM0, cM0, e0, s0, AK0, nK0, cK0, AV0, nV0, cV0, rfl⟩ := hv4
  have hN4 : w4.heap[w.heap.size]? = some zero8 := (hg4.block w.heap.size (lt_heap HN3.out) (by simp)).trans HN3.out
  have HR4 := Lib.hid (HR3.out.g hg4 HR3.out.lt (by simp))
  have HG4 := Lib.hid (HG3.out.trans ((hg4.wide (some R)).mono HG3.out.size))
  obtain ⟨p0, p1, p2, p3, p4, p5, p6, p7⟩ := cells8 hN4
  have fz := fun i => froz_heap hN4 i
  have HN4 := Lib.hid hN4
  clear hN4 hg4
  go_wp2
  show bodyPost _ _ _ _ _ (set8 w4 w.heap.size _ _ _ _ _ _ _ _)
  have hW := set8_heap HN4.out rfl (.int .i64 k0) (.bool b0) (.bool g0) (.slice AM0 nM0 cM0) (.int .i64 e0) (.string s0) (.slice AK0 nK0 cK0) (.slice AV0 nV0 cV0)
  have GW := HG4.out.set8 w.heap.size (.int .i64 k0) (.bool b0) (.bool g0) (.slice AM0 nM0 cM0) (.int .i64 e0) (.string s0) (.slice AK0 nK0 cK0) (.slice AV0 nV0 cV0) (Nat.le_refl _)
  have RW : Rdr 351 (set8 w4 w.heap.size (.int .i64 k0) (.bool b0) (.bool g0) (.slice AM0 nM0 cM0) (.int .i64 e0) (.string s0) (.slice AK0 nK0 cK0) (.slice AV0 nV0 cV0)) R B n cap (a + 1) (nd + 1) := (set8_other _ _ _ _ _ _ _ _ _ _ _ hne).trans HR4.out
  generalize set8 w4 w.heap.size (.int .i64 k0) (.bool b0) (.bool g0) (.slice AM0 nM0 cM0) (.int .i64 e0) (.string s0) (.slice AK0 nK0 cK0) (.slice AV0 nV0 cV0) = W at *
  obtain ⟨x0, x1, x2, x3, x4, x5, x6, x7⟩ := cells8 hW
  exact bodyPost_ret (v := .agg #[.int .i64 k0, .bool b0, .bool g0, .slice AM0 nM0 cM0, .int .i64 e0, .string s0, .slice AK0 nK0 cK0, .slice AV0 nV0 cV0]) (by simp [results, Tryz.results333, go_sem, x0, x1, x2, x3, x4, x5, x6, x7]) rfl
    ⟨_, rfl, ⟨_, _, _, _, _, _, _, _, _, _, _, _, _, _, rfl⟩, GW, RW⟩
/-- A value of one byte stands there in Pack. -/
def PLeaf (L : List UInt8) (a : Nat) : Prop := byt L a = 192 ∨ ∃ k : Nat, (0 < k ∧ k < 10) ∧ byt L a = (k : Nat)
/-- Members in Pack, one behind the other: a short name, a value of one byte. -/
def PItems (L : List UInt8) : List ByteArray → Nat → Nat → Prop
  | [], a, z => a = z
  | k :: ks, a, z => k.size < 24 ∧ byt L a = 160 + (k.size : Nat) ∧ sub L (a + 1) k.size = k ∧ (∀ i (h : i < k.size), (k[i]'h).toNat < 128) ∧ PLeaf L (a + 1 + k.size) ∧ PItems L ks (a + 2 + k.size) z
theorem PItems.le {L : List UInt8} : ∀ {ks : List ByteArray} {a z : Nat}, PItems L ks a z → a + 2 * ks.length ≤ z
  | [], a, z, h => by have : a = z := h; simp [this]
  | k :: ks, a, z, h => by
    have := PItems.le h.2.2.2.2.2
    simp only [List.length_cons]; omega
theorem pvalue_leaf (R B n cap : Nat) (L : List UInt8) (a : Nat) (nd deep : Int) (w : World) (h1 : a < n) (hL : L.length = n) (hn : n ≤ 1000000) (hcap : n ≤ cap) (hcap2 : cap ≤ 9223372036854775807)
    (hd : deep ≤ 64) (hnd0 : 0 ≤ nd) (hnd : nd < 2000) (hr : Rdr 351 w R B n cap (a : Nat) nd) (hB : BY w B L) (hBR : B ≠ R) (hc : PLeaf L a) :
    Calls Tryz.prog 333 #[.pointer (some ⟨R, 0, none⟩), .int .i64 deep] w fun e w' => ∃ v, e = .returned v ∧ Eight v ∧ G w.heap.size (some R) w w' ∧ Rdr 351 w' R B n cap ((a : Int) + 1) (nd + 1) := by
  rcases hc with hc | ⟨k, hk, hc⟩
  · exact pvalue_null R B n cap L a nd deep w (by omega) (by omega) hL hn hcap hcap2 hd hnd0 hnd hr hB hBR hc
  · exact pvalue_small R B n cap L a nd deep k w (by omega) (by omega) hL hn hcap hcap2 hd hnd0 hnd hr hB hBR hk hc
end Go.Proofs.YtcfjiaogdmjlbaaGreat
