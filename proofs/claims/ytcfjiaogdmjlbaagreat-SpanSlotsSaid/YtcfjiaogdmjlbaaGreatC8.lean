/- The walks that join the reading of Pack to the codec. -/
import Derived.Test.YtcfjiaogdmjlbaaGreatC7
import Derived.Test.YtcfjiaogdmjlbaaGreatC1
namespace Go.Proofs.YtcfjiaogdmjlbaaGreat
open Go.RowKit
/-- Bytes that the Pack reader reads as one value, to their end. -/
def PVal (L : List UInt8) (n : Nat) : Prop := ∀ (R B cap : Nat) (W : World), n ≤ cap → cap ≤ 9223372036854775807 → Rdr 351 W R B n cap ((0 : Nat) : Int) 0 → BY W B L → B ≠ R →
  Calls Tryz.prog 333 #[.pointer (some ⟨R, 0, none⟩), .int .i64 1] W fun e w' => ∃ v, ∃ nd' : Int, e = .returned v ∧ Eight v ∧ G W.heap.size (some R) W w' ∧ Rdr 351 w' R B n cap (n : Nat) nd'
theorem pcatch_idle (p : Value) (w : World) :
    CallsD Tryz.prog 331 #[p] .returning w fun e u' w' => e = .returned (.tuple #[]) ∧ u' = .returning ∧ w' = w := by
  refine callsD_of_wpS Tryz.func331 rfl fun c₀ cs hu => ?_
  apply wpS_seq
  apply wpS_region
  simp [wpOpsS, go_sem, recoverD, hu, Tryz.ntmps331, Exit.thenS]
  apply wpS_seq
  refine wpS_of_wp ?_
  go_wp2
  simp only [Exit.thenS]
  refine wpS_cond (t := false) (by simp [Act.eval]) ?_
  simp only [Bool.false_eq_true, if_false]
  refine wpS_of_wp (wp_skip ?_)
  cases c₀
  simp_all [bodyPostS, results, Tryz.results331]
set_option maxRecDepth 20000 in
set_option maxHeartbeats 2000000 in
theorem pall (B n cap : Nat) (L : List UInt8) (w : World) (hn : n ≤ 32768) (hcap : n ≤ cap) (hcap2 : cap ≤ 9223372036854775807)
    (hB : BY w B L) (hv : PVal L n) :
    Calls Tryz.prog 330 #[.slice (some ⟨B, 0, none⟩) n cap] w fun e w' => ∃ v, e = .returned (.tuple #[v, .int .i64 0]) ∧ Eight v ∧ G w.heap.size none w w' := by
  have hBlt := hB.1
  have HB := Lib.hid hB; clear hB
  have HV := Lib.hid (fun (W : World) (R : Nat) h1 h2 h3 => hv R B cap W hcap hcap2 h1 h2 h3)
  clear hv
  have hmf : ∀ (fn : Fn) (first cap : Array Value) (w : World), (Instr.makeFunc fn first cap).run Tryz.prog w = .ok (.func fn first cap) w := fun _ _ _ _ => rfl
  go_enter_defers Tryz.func330, Tryz.ntmps330
  go_wp2_with (go_at_call 332; refine (pmust _ (by first | rfl | (simp; omega)) _ _).mono ?_; rintro e w' ⟨rfl, rfl⟩)
  have hsz : ((w.alloc zero8).alloc (.cells #[.int .i64 0] 33)).heap.size = w.heap.size + 1 + 1 := by simp
  have hrd : Rdr 351 (((w.alloc zero8).alloc (.cells #[.int .i64 0] 33)).alloc (.cells #[.slice (some ⟨B, 0, none⟩) n cap, .int .i64 0, .int .i64 0] 351)) (w.heap.size + 1 + 1) B n cap ((0 : Nat) : Int) 0 := by
    have h := heap_new ((w.alloc zero8).alloc (.cells #[.int .i64 0] 33)) (.cells #[.slice (some ⟨B, 0, none⟩) n cap, .int .i64 0, .int .i64 0] 351)
    rw [hsz] at h
    exact h
  have gW : G w.heap.size none w (((w.alloc zero8).alloc (.cells #[.int .i64 0] 33)).alloc (.cells #[.slice (some ⟨B, 0, none⟩) n cap, .int .i64 0, .int .i64 0] 351)) :=
    (((G.refl _ _ _).alloc _ (Nat.le_refl _)).alloc _ (by simp)).alloc _ (by simp; omega)
  refine (HV.out _ (w.heap.size + 1 + 1) hrd (HB.out.g gW hBlt (by simp)) (by omega)).mono ?_
  rintro e w4 ⟨v4, nd4, rfl, hv4, hg4, hr4⟩
  obtain ⟨k0, b0, g0, AM0, nM0, cM0, e0, s0, AK0, nK0, cK0, AV0, nV0, cV0, rfl⟩ := hv4
  have hN0 : w4.heap[w.heap.size]? = some zero8 := (hg4.block w.heap.size (by simp; omega) (by simp; omega)).trans
    ((Below.heap_alloc _ _ _ (by simp; omega)).trans ((Below.heap_alloc _ _ _ (by simp)).trans (heap_new w zero8)))
  have hN1 : w4.heap[w.heap.size + 1]? = some (.cells #[.int .i64 0] 33 (0, 0)) := (hg4.block (w.heap.size + 1) (by simp) (by simp)).trans
    ((Below.heap_alloc _ _ _ (by simp)).trans (by have h := heap_new (w.alloc zero8) (.cells #[.int .i64 0] 33); simpa using h))
  have G4 := Lib.hid (show G w.heap.size none w w4 from gW.trans ⟨hg4.os, hg4.tape, hg4.output, hg4.size, fun k hk _ => hg4.block k (by simp; omega) (some_ne (by omega))⟩)
  obtain ⟨p0, p1, p2, p3, p4, p5, p6, p7⟩ := cells8 hN0
  have y0 := cell_heap hN1 0
  simp only [List.getElem?_toArray, List.getElem?_cons_zero] at y0
  have fz := fun i => froz_heap hN0 i
  have fy := fun i => froz_heap hN1 i
  have q0 := hr4.c0
  have q1 := hr4.c1
  have HN0 := Lib.hid hN0
  have HN1 := Lib.hid hN1
  have u1 : ¬ w.heap.size + 1 + 1 = w.heap.size := by omega
  clear hN0 hN1 hg4 hr4 gW hrd hsz HV
  go_wp2_with (go_at_call 332; refine (pmust _ (by first | rfl | (simp; omega)) _ _).mono ?_; rintro e w' ⟨rfl, rfl⟩)
  show bodyPostD _ _ _ _ _ ((set8 (set8 w4 w.heap.size _ _ _ _ _ _ _ _) w.heap.size _ _ _ _ _ _ _ _).setCell ⟨w.heap.size + 1, 0, none⟩ _)
  have hW := set8_heap (set8_heap HN0.out rfl (.int .i64 k0) (.bool b0) (.bool g0) (.slice AM0 nM0 cM0) (.int .i64 e0) (.string s0) (.slice AK0 nK0 cK0) (.slice AV0 nV0 cV0)) rfl (.int .i64 k0) (.bool b0) (.bool g0) (.slice AM0 nM0 cM0) (.int .i64 e0) (.string s0) (.slice AK0 nK0 cK0) (.slice AV0 nV0 cV0)
  have GW := (G4.out.set8 w.heap.size (.int .i64 k0) (.bool b0) (.bool g0) (.slice AM0 nM0 cM0) (.int .i64 e0) (.string s0) (.slice AK0 nK0 cK0) (.slice AV0 nV0 cV0) (Nat.le_refl _)).set8 w.heap.size (.int .i64 k0) (.bool b0) (.bool g0) (.slice AM0 nM0 cM0) (.int .i64 e0) (.string s0) (.slice AK0 nK0 cK0) (.slice AV0 nV0 cV0) (Nat.le_refl _)
  have hY : (set8 (set8 w4 w.heap.size (.int .i64 k0) (.bool b0) (.bool g0) (.slice AM0 nM0 cM0) (.int .i64 e0) (.string s0) (.slice AK0 nK0 cK0) (.slice AV0 nV0 cV0)) w.heap.size (.int .i64 k0) (.bool b0) (.bool g0) (.slice AM0 nM0 cM0) (.int .i64 e0) (.string s0) (.slice AK0 nK0 cK0) (.slice AV0 nV0 cV0)).heap[w.heap.size + 1]? = some (.cells #[.int .i64 0] 33 (0, 0)) :=
    (set8_other _ _ _ _ _ _ _ _ _ _ _ (by omega)).trans ((set8_other _ _ _ _ _ _ _ _ _ _ _ (by omega)).trans HN1.out)
  generalize set8 (set8 w4 w.heap.size (.int .i64 k0) (.bool b0) (.bool g0) (.slice AM0 nM0 cM0) (.int .i64 e0) (.string s0) (.slice AK0 nK0 cK0) (.slice AV0 nV0 cV0)) w.heap.size (.int .i64 k0) (.bool b0) (.bool g0) (.slice AM0 nM0 cM0) (.int .i64 e0) (.string s0) (.slice AK0 nK0 cK0) (.slice AV0 nV0 cV0) = W0 at *
  have hW := (Below.heap_setCell W0 ⟨w.heap.size + 1, 0, none⟩ (.int .i64 0) w.heap.size (by simp)).trans hW
  have hY : (W0.setCell ⟨w.heap.size + 1, 0, none⟩ (.int .i64 0)).heap[w.heap.size + 1]? = some (.cells #[.int .i64 0] 33 (0, 0)) := heap_set hY _
  have GW := GW.put (w.heap.size + 1) 0 (.int .i64 0) (by omega)
  generalize W0.setCell ⟨w.heap.size + 1, 0, none⟩ (.int .i64 0) = W at *
  obtain ⟨x0, x1, x2, x3, x4, x5, x6, x7⟩ := cells8 hW
  have y1 := cell_heap hY 0
  simp only [List.getElem?_toArray, List.getElem?_cons_zero] at y1
  refine leaves_cons (f := 331) (args := #[.pointer (some ⟨w.heap.size + 1, 0, none⟩)]) (by simp) (by simp [go_sem]) ?_
  refine (pcatch_idle _ _).mono ?_
  rintro e u' w'' ⟨rfl, rfl, rfl⟩
  refine ⟨.tuple #[.agg #[.int .i64 k0, .bool b0, .bool g0, .slice AM0 nM0 cM0, .int .i64 e0, .string s0, .slice AK0 nK0 cK0, .slice AV0 nV0 cV0], .int .i64 0], by simp [results, Tryz.results330, go_sem, x0, x1, x2, x3, x4, x5, x6, x7, y1], ?_⟩
  exact ⟨_, rfl, ⟨_, _, _, _, _, _, _, _, _, _, _, _, _, _, rfl⟩, GW⟩
set_option maxRecDepth 20000 in
set_option maxHeartbeats 800000 in
theorem pdecode (B n cap : Nat) (L : List UInt8) (w : World) (hn : n ≤ 32768) (hcap : n ≤ cap) (hcap2 : cap ≤ 9223372036854775807)
    (hB : BY w B L) (hv : PVal L n) :
    Calls Tryz.prog 329 #[.slice (some ⟨B, 0, none⟩) n cap] w fun e w' => ∃ v, e = .returned (.tuple #[v, .int .i64 0]) ∧ Eight v ∧ G w.heap.size none w w' := by
  have HA := Lib.hid (pall B n cap L (w.alloc zero8) hn hcap hcap2 (hB.g (R := none) ((G.refl w.heap.size none w).alloc zero8 (Nat.le_refl _)) hB.1 (by simp)) hv)
  clear hB hv
  go_enter Tryz.func329, Tryz.ntmps329
  go_wp2_with fail
  refine HA.out.mono ?_
  rintro e w1 ⟨v, rfl, hv, hg1⟩
  obtain ⟨k0, b0, g0, AM0, nM0, cM0, e0, s0, AK0, nK0, cK0, AV0, nV0, cV0, rfl⟩ := hv
  have hN1 := hg1.newest (by simp)
  have HG := Lib.hid hg1.past
  have hlt1 := lt_heap hN1
  have hne1 : ¬ w.heap.size = w1.heap.size := by omega
  obtain ⟨p0, p1, p2, p3, p4, p5, p6, p7⟩ := cells8 hN1
  have fz := fun i => froz_heap hN1 i
  have HN1 := Lib.hid hN1
  clear hN1 hg1 HA
  go_wp2
  show bodyPost _ _ _ _ _ ((set8 w1 w.heap.size _ _ _ _ _ _ _ _).alloc (.cells #[.int .i64 k0, .bool b0, .bool g0, .slice AM0 nM0 cM0, .int .i64 e0, .string s0, .slice AK0 nK0 cK0, .slice AV0 nV0 cV0] 30))
  have hW := set8_heap HN1.out rfl (.int .i64 k0) (.bool b0) (.bool g0) (.slice AM0 nM0 cM0) (.int .i64 e0) (.string s0) (.slice AK0 nK0 cK0) (.slice AV0 nV0 cV0)
  have GW := HG.out.set8 w.heap.size (.int .i64 k0) (.bool b0) (.bool g0) (.slice AM0 nM0 cM0) (.int .i64 e0) (.string s0) (.slice AK0 nK0 cK0) (.slice AV0 nV0 cV0) (Nat.le_refl _)
  generalize set8 w1 w.heap.size (.int .i64 k0) (.bool b0) (.bool g0) (.slice AM0 nM0 cM0) (.int .i64 e0) (.string s0) (.slice AK0 nK0 cK0) (.slice AV0 nV0 cV0) = W0 at *
  have hW := (Below.heap_alloc W0 (.cells #[.int .i64 k0, .bool b0, .bool g0, .slice AM0 nM0 cM0, .int .i64 e0, .string s0, .slice AK0 nK0 cK0, .slice AV0 nV0 cV0] 30) _ (lt_heap hW)).trans hW
  have GW := GW.alloc (.cells #[.int .i64 k0, .bool b0, .bool g0, .slice AM0 nM0 cM0, .int .i64 e0, .string s0, .slice AK0 nK0 cK0, .slice AV0 nV0 cV0] 30) GW.size
  generalize W0.alloc (.cells #[.int .i64 k0, .bool b0, .bool g0, .slice AM0 nM0 cM0, .int .i64 e0, .string s0, .slice AK0 nK0 cK0, .slice AV0 nV0 cV0] 30) = W at *
  obtain ⟨x0, x1, x2, x3, x4, x5, x6, x7⟩ := cells8 hW
  exact bodyPost_ret (v := .tuple #[.agg #[.int .i64 k0, .bool b0, .bool g0, .slice AM0 nM0 cM0, .int .i64 e0, .string s0, .slice AK0 nK0 cK0, .slice AV0 nV0 cV0], .int .i64 0]) (by simp [results, Tryz.results329, go_sem, x0, x1, x2, x3, x4, x5, x6, x7]) rfl
    ⟨_, rfl, ⟨_, _, _, _, _, _, _, _, _, _, _, _, _, _, rfl⟩, GW⟩
set_option maxRecDepth 20000 in
set_option maxHeartbeats 800000 in
theorem packed_decode (s : ByteArray) (w : World) (hn : s.size ≤ 32768) (hv : PVal s.data.toList s.size) :
    Calls Tryz.prog 327 #[.agg #[], .string s] w fun e w' => ∃ v, e = .returned (.tuple #[v, .int .i64 0]) ∧ Eight v ∧ G w.heap.size none w w' := by
  have HA := Lib.hid (fun (B cap : Nat) (W : World) h1 h2 h3 => pdecode B s.size cap s.data.toList W hn h1 h2 h3 hv)
  clear hv
  obtain ⟨W, cap, hcv, hBY, hg, hc1, hc2⟩ := conv_bytes ((w.alloc (.cells #[] 154)).alloc zero8) s (by omega)
  have hsz : ((w.alloc (.cells #[] 154)).alloc zero8).heap.size = w.heap.size + 1 + 1 := by simp
  rw [hsz] at hcv hBY
  change (convert 9 59 (.string s)).run Tryz.prog ((w.alloc (.cells #[] 154)).alloc (.cells #[.int .i64 0, .bool false, .bool false, .slice none 0 0, .int .i64 0, .string ⟨#[]⟩, .slice none 0 0, .slice none 0 0] 30)) = _ at hcv
  have hN : W.heap[w.heap.size + 1]? = some zero8 := (hg.block (w.heap.size + 1) (by simp) (by simp)).trans (by have h := heap_new (w.alloc (.cells #[] 154)) zero8; simpa using h)
  have gW : G w.heap.size none w W := (((G.refl w.heap.size none w).alloc _ (Nat.le_refl _)).alloc _ (by simp)).trans (hg.mono (by simp; omega))
  have HG := Lib.hid gW
  have HN := Lib.hid hN
  have HB := Lib.hid hBY
  clear hN gW hg hsz hBY
  go_enter Tryz.func327, Tryz.ntmps327
  go_wp2_with fail
  refine (HA.out (w.heap.size + 1 + 1) cap W hc1 hc2 HB.out).mono ?_
  rintro e w1 ⟨v, rfl, hv, hg1⟩
  obtain ⟨k0, b0, g0, AM0, nM0, cM0, e0, s0, AK0, nK0, cK0, AV0, nV0, cV0, rfl⟩ := hv
  have hN1 : w1.heap[w.heap.size + 1]? = some zero8 := (hg1.block _ (lt_heap HN.out) (by simp)).trans HN.out
  have HG1 := Lib.hid (HG.out.trans (hg1.mono HG.out.size))
  obtain ⟨p0, p1, p2, p3, p4, p5, p6, p7⟩ := cells8 hN1
  have fz := fun i => froz_heap hN1 i
  have HN1 := Lib.hid hN1
  clear hN1 hg1 HA HB hcv
  go_wp2
  show bodyPost _ _ _ _ _ (set8 w1 (w.heap.size + 1) _ _ _ _ _ _ _ _)
  have hW := set8_heap HN1.out rfl (.int .i64 k0) (.bool b0) (.bool g0) (.slice AM0 nM0 cM0) (.int .i64 e0) (.string s0) (.slice AK0 nK0 cK0) (.slice AV0 nV0 cV0)
  have GW := HG1.out.set8 (w.heap.size + 1) (.int .i64 k0) (.bool b0) (.bool g0) (.slice AM0 nM0 cM0) (.int .i64 e0) (.string s0) (.slice AK0 nK0 cK0) (.slice AV0 nV0 cV0) (by omega)
  generalize set8 w1 (w.heap.size + 1) (.int .i64 k0) (.bool b0) (.bool g0) (.slice AM0 nM0 cM0) (.int .i64 e0) (.string s0) (.slice AK0 nK0 cK0) (.slice AV0 nV0 cV0) = W0 at *
  obtain ⟨x0, x1, x2, x3, x4, x5, x6, x7⟩ := cells8 hW
  exact bodyPost_ret (v := .tuple #[.agg #[.int .i64 k0, .bool b0, .bool g0, .slice AM0 nM0 cM0, .int .i64 e0, .string s0, .slice AK0 nK0 cK0, .slice AV0 nV0 cV0], .int .i64 0]) (by simp [results, Tryz.results327, go_sem, x0, x1, x2, x3, x4, x5, x6, x7]) rfl
    ⟨_, rfl, ⟨_, _, _, _, _, _, _, _, _, _, _, _, _, _, rfl⟩, GW⟩
set_option maxRecDepth 20000 in
set_option maxHeartbeats 800000 in
theorem codec_pack (s : ByteArray) (w : World) (hn : s.size ≤ 32768) (hv : PVal s.data.toList s.size) :
    Calls Tryz.prog 52 #[.int .i64 3, .string s] w fun e w' => ∃ v, e = .returned (.tuple #[v, .int .i64 0]) ∧ Eight v ∧ G w.heap.size none w w' := by
  have HA := Lib.hid (packed_decode s (w.alloc zero8) hn hv)
  clear hv
  have hmt := method_pack
  go_enter Tryz.func52, Tryz.ntmps52
  go_wp2_with (go_at_call 79; refine (of_three _).mono ?_; rintro e w' ⟨rfl, rfl⟩)
  refine HA.out.mono ?_
  rintro e w1 ⟨v, rfl, hv, hg1⟩
  obtain ⟨k0, b0, g0, AM0, nM0, cM0, e0, s0, AK0, nK0, cK0, AV0, nV0, cV0, rfl⟩ := hv
  have hN1 := hg1.newest (by simp)
  have HG := Lib.hid hg1.past
  obtain ⟨p0, p1, p2, p3, p4, p5, p6, p7⟩ := cells8 hN1
  have fz := fun i => froz_heap hN1 i
  have HN1 := Lib.hid hN1
  clear hN1 hg1 HA hmt
  go_wp2
  show bodyPost _ _ _ _ _ (set8 w1 w.heap.size _ _ _ _ _ _ _ _)
  have hW := set8_heap HN1.out rfl (.int .i64 k0) (.bool b0) (.bool g0) (.slice AM0 nM0 cM0) (.int .i64 e0) (.string s0) (.slice AK0 nK0 cK0) (.slice AV0 nV0 cV0)
  have GW := HG.out.set8 w.heap.size (.int .i64 k0) (.bool b0) (.bool g0) (.slice AM0 nM0 cM0) (.int .i64 e0) (.string s0) (.slice AK0 nK0 cK0) (.slice AV0 nV0 cV0) (Nat.le_refl _)
  generalize set8 w1 w.heap.size (.int .i64 k0) (.bool b0) (.bool g0) (.slice AM0 nM0 cM0) (.int .i64 e0) (.string s0) (.slice AK0 nK0 cK0) (.slice AV0 nV0 cV0) = W0 at *
  obtain ⟨x0, x1, x2, x3, x4, x5, x6, x7⟩ := cells8 hW
  exact bodyPost_ret (v := .tuple #[.agg #[.int .i64 k0, .bool b0, .bool g0, .slice AM0 nM0 cM0, .int .i64 e0, .string s0, .slice AK0 nK0 cK0, .slice AV0 nV0 cV0], .int .i64 0]) (by simp [results, Tryz.results52, go_sem, x0, x1, x2, x3, x4, x5, x6, x7]) rfl
    ⟨_, rfl, ⟨_, _, _, _, _, _, _, _, _, _, _, _, _, _, rfl⟩, GW⟩
theorem pval_object (L : List UInt8) (ks : List ByteArray) (n : Nat) (hL : L.length = n) (hn0 : 0 < n) (hn : n ≤ 1000000) (hm : ks.length < 16) (hc : byt L 0 = 128 + (ks.length : Nat)) (hi : PItems L ks 1 n) (htw : twAux [] ks 0 = (0, false)) : PVal L n :=
  fun R B cap W h1 h2 h3 h4 h5 => (pvalue_object R B n cap L 0 n 0 1 ks W (Nat.le_refl _) hn0 hL hn h1 h2 (by omega) (by omega) (by omega) (by omega) h3 h4 h5 hm (by simpa using hc) (by simpa using hi) htw).mono fun _ _ ⟨v, a, b, c, d⟩ => ⟨v, _, a, b, c, d⟩
theorem pval_array (L : List UInt8) (m n : Nat) (hL : L.length = n) (he : n = 1 + m) (hn : n ≤ 1000000) (hm : m < 16) (hc : byt L 0 = 144 + (m : Nat)) (hi : ∀ i, i < m → PLeaf L (1 + i)) : PVal L n :=
  fun R B cap W h1 h2 h3 h4 h5 => (pvalue_array R B n cap L 0 m 0 1 W (by omega) hL hn h1 h2 (by omega) (by omega) (by omega) (by omega) h3 h4 h5 hm (by simpa using hc) (by simpa using hi)).mono fun _ _ ⟨v, a, b, c, d⟩ => ⟨v, _, a, b, c, by
    rw [show (n : Nat) = 0 + 1 + m by omega] at d ⊢; exact d⟩
end Go.Proofs.YtcfjiaogdmjlbaaGreat
