/- The walk of a CBOR value that is an object of members of which each value is of one byte. -/
import Derived.Test.YtcfjiaogdmjlbaaGreatB7
namespace Go.Proofs.YtcfjiaogdmjlbaaGreat
open Go.RowKit
set_option maxRecDepth 20000 in
set_option maxHeartbeats 800000 in
theorem value_object (R B n cap : Nat) (L : List UInt8) (a z : Nat) (nd deep : Int) (ks : List ByteArray) (w : World) (hz : z ≤ n) (han : a < n) (hL : L.length = n) (hn : n ≤ 1000000) (hcap : n ≤ cap) (hcap2 : cap ≤ 9223372036854775807)
    (hd0 : 0 ≤ deep) (hd : deep ≤ 63) (hnd0 : 0 ≤ nd) (hnd : nd + 1 + ks.length ≤ 2000) (hr : Rdr 330 w R B n cap (a : Nat) nd) (hB : BY w B L) (hBR : B ≠ R) (hm : ks.length < 24) (hc : byt L a = 160 + (ks.length : Nat)) (hi : Items L ks (a + 1) z) (htw : twAux [] ks 0 = (0, false)) :
    Calls Tryz.prog 294 #[.pointer (some ⟨R, 0, none⟩), .int .i64 deep] w fun e w' => ∃ v, e = .returned v ∧ Eight v ∧ G w.heap.size (some R) w w' ∧ Rdr 330 w' R B n cap (z : Nat) (nd + 1 + ks.length) := by
  have hb := hB.at_ (a : Nat) (by omega) (by omega)
  rw [hc] at hb
  have hRlt := hr.lt
  have hBlt := hB.1
  have hne : ¬ R = w.heap.size := by omega
  have hne2 : ¬ w.heap.size = R := by omega
  have HR := Lib.hid (hr.alloc zero8)
  have HB := Lib.hid hB; clear hB hc
  have HI := Lib.hid hi; clear hi
  have HT := Lib.hid htw; clear htw
  have HL := Lib.hid hL; clear hL
  have HO := fun (W : World) h1 h2 => object_items R B n cap L (a + 1) z (nd + 1) deep ks W hz HL.out hn hcap hcap2 hd0 hd (by omega) (by omega) h1 h2 hBR HI.out HT.out
  obtain ⟨m, hmm⟩ : ∃ m, ks.length = m := ⟨_, rfl⟩
  rw [hmm] at hb hm hnd
  have HM := Lib.hid hmm
  simp only [hmm] at HO
  rw [hmm]
  clear hmm
  have HO := Lib.hid HO
  have Hb := Lib.hid (show (w.alloc zero8).cell? ⟨B, a, none⟩ = some (.int .u8 (160 + (m : Nat))) from (World.cell?_of_block (Below.heap_alloc w zero8 B hBlt)).trans (by simpa using hb)); clear hb hr
  have r2 := HR.out.c2
  have f2 := HR.out.fz 2
  have m1 : ((m : Int) == 31) = false := by rw [beq_eq_false_iff_ne]; omega
  go_enter Tryz.func294, Tryz.ntmps294
  go_wp2_with fail
  refine (first_ok R B n cap (a : Nat) nd (160 + (m : Nat)) _ (by omega) (by omega) hn (by omega) HR.out (by simpa using Hb.out)).mono ?_
  rw [show (160 + ((m : Nat) : Int)) / 32 = 5 by omega, show (160 + ((m : Nat) : Int)) % 32 = (m : Nat) by omega]
  rintro e w1 ⟨rfl, q, rfl⟩
  go_wp2_with (go_at_call 293; refine (must_k _ (by first | rfl | (simp; omega)) _ _).mono ?_; rintro e w' ⟨rfl, rfl⟩)
  refine (head_small R B n cap (a : Nat) (nd + 1) (160 + (m : Nat)) _ (by omega) (by omega) hn hcap hcap2 (by omega) (by omega) ((HR.out.drewN q).set2 _) ((cell_other _ _ _ _ _ _ hBR).trans (by simpa using Hb.out))).mono ?_
  rw [show (160 + ((m : Nat) : Int)) % 32 = (m : Nat) by omega]
  rintro e w2 ⟨rfl, hg2, hr2⟩
  have hN2 : w2.heap[w.heap.size]? = some zero8 := (hg2.block w.heap.size (by simp) (some_ne hne2)).trans ((Below.heap_setCell _ _ _ _ hne2).trans (heap_new w zero8))
  have hGw : G w.heap.size (some R) w w2 := (((((G.refl w.heap.size (some R) w).alloc zero8 (Nat.le_refl _)).drewN q).set 2 (.int .i64 (nd + 1)))).trans (hg2.mono (by simp))
  have HG2 := Lib.hid hGw
  have HR2 := Lib.hid hr2
  have HN2 := Lib.hid hN2
  clear hg2 hr2 hN2 hGw
  go_wp2_with (go_at_call 293; refine (must_k _ (by first | rfl | (simp; omega)) _ _).mono ?_; rintro e w' ⟨rfl, rfl⟩)
  have hR2' := HR2.out
  rw [show ((a : Nat) : Int) + 1 = ((a + 1 : Nat) : Int) by omega] at hR2'
  refine (HO.out w2 hR2' (HB.out.g HG2.out hBlt (some_ne hBR))).mono ?_
  rintro e w3 ⟨v3, rfl, hv3, hg3, hr3⟩
  obtain ⟨k0, b0, g0, AM0, nM0, cM0, e0, s0, AK0, nK0, cK0, AV0, nV0, cV0, rfl⟩ := hv3
  have hN3 : w3.heap[w.heap.size]? = some zero8 := (hg3.block w.heap.size (lt_heap HN2.out) (some_ne hne2)).trans HN2.out
  have HR3 := Lib.hid hr3
  have HG3 := Lib.hid (HG2.out.trans (hg3.mono HG2.out.size))
  obtain ⟨p0, p1, p2, p3, p4, p5, p6, p7⟩ := cells8 hN3
  have fz := fun i => froz_heap hN3 i
  have HN3 := Lib.hid hN3
  clear hN3 hg3 hr3 HR2 HG2 HN2 hR2' HO
  go_wp2
  show bodyPost _ _ _ _ _ (set8 w3 w.heap.size _ _ _ _ _ _ _ _)
  have hW := set8_heap HN3.out rfl (.int .i64 k0) (.bool b0) (.bool g0) (.slice AM0 nM0 cM0) (.int .i64 e0) (.string s0) (.slice AK0 nK0 cK0) (.slice AV0 nV0 cV0)
  have GW := HG3.out.set8 w.heap.size (.int .i64 k0) (.bool b0) (.bool g0) (.slice AM0 nM0 cM0) (.int .i64 e0) (.string s0) (.slice AK0 nK0 cK0) (.slice AV0 nV0 cV0) (Nat.le_refl _)
  have RW : Rdr 330 (set8 w3 w.heap.size (.int .i64 k0) (.bool b0) (.bool g0) (.slice AM0 nM0 cM0) (.int .i64 e0) (.string s0) (.slice AK0 nK0 cK0) (.slice AV0 nV0 cV0)) R B n cap (z : Nat) (nd + 1 + m) := (set8_other _ _ _ _ _ _ _ _ _ _ _ hne).trans HR3.out
  generalize set8 w3 w.heap.size (.int .i64 k0) (.bool b0) (.bool g0) (.slice AM0 nM0 cM0) (.int .i64 e0) (.string s0) (.slice AK0 nK0 cK0) (.slice AV0 nV0 cV0) = W at *
  obtain ⟨x0, x1, x2, x3, x4, x5, x6, x7⟩ := cells8 hW
  exact bodyPost_ret (v := .agg #[.int .i64 k0, .bool b0, .bool g0, .slice AM0 nM0 cM0, .int .i64 e0, .string s0, .slice AK0 nK0 cK0, .slice AV0 nV0 cV0]) (by simp [results, Tryz.results294, go_sem, x0, x1, x2, x3, x4, x5, x6, x7]) rfl
    ⟨_, rfl, ⟨_, _, _, _, _, _, _, _, _, _, _, _, _, _, rfl⟩, GW, RW⟩
end Go.Proofs.YtcfjiaogdmjlbaaGreat
