/- The walk of the reading of CBOR bytes that are such an object. -/
import Derived.Test.YtcfjiaogdmjlbaaGreatB8
import Derived.Defers
import Derived.Recover
namespace Go.Proofs.YtcfjiaogdmjlbaaGreat
open Go.RowKit
theorem catch_idle (p : Value) (w : World) :
    CallsD Tryz.prog 292 #[p] .returning w fun e u' w' => e = .returned (.tuple #[]) ∧ u' = .returning ∧ w' = w := by
  refine callsD_of_wpS Tryz.func292 rfl fun c₀ cs hu => ?_
  apply wpS_seq
  apply wpS_region
  simp [wpOpsS, go_sem, recoverD, hu, Tryz.ntmps292, Exit.thenS]
  apply wpS_seq
  refine wpS_of_wp ?_
  go_wp2
  simp only [Exit.thenS]
  refine wpS_cond (t := false) (by simp [Act.eval]) ?_
  simp only [Bool.false_eq_true, if_false]
  refine wpS_of_wp (wp_skip ?_)
  cases c₀
  simp_all [bodyPostS, results, Tryz.results292]
set_option maxRecDepth 20000 in
set_option maxHeartbeats 2000000 in
theorem all_object (B n cap : Nat) (L : List UInt8) (ks : List ByteArray) (w : World) (hn0 : 0 < n) (hL : L.length = n) (hn : n ≤ 32768) (hcap : n ≤ cap) (hcap2 : cap ≤ 9223372036854775807)
    (hB : BY w B L) (hm : ks.length < 24) (hc : byt L 0 = 160 + (ks.length : Nat)) (hi : Items L ks 1 n) (htw : twAux [] ks 0 = (0, false)) :
    Calls Tryz.prog 291 #[.slice (some ⟨B, 0, none⟩) n cap] w fun e w' => ∃ v, e = .returned (.tuple #[v, .int .i64 0]) ∧ Eight v ∧ G w.heap.size none w w' := by
  have hBlt := hB.1
  have HI := Lib.hid (And.intro hc hi); clear hc hi
  have HT := Lib.hid htw; clear htw
  have HL := Lib.hid hL; clear hL
  have HB := Lib.hid hB; clear hB
  have HV := Lib.hid (fun (W : World) (R : Nat) h1 h2 h3 => value_object R B n cap L 0 n 0 1 ks W (Nat.le_refl _) hn0 HL.out (by omega) hcap hcap2 (by omega) (by omega) (by omega) (by omega) h1 h2 h3 hm (by simpa using HI.out.1) (by simpa using HI.out.2) HT.out)
  have hmf : ∀ (fn : Fn) (first cap : Array Value) (w : World), (Instr.makeFunc fn first cap).run Tryz.prog w = .ok (.func fn first cap) w := fun _ _ _ _ => rfl
  go_enter_defers Tryz.func291, Tryz.ntmps291
  go_wp2_with (go_at_call 293; refine (must_k _ (by first | rfl | (simp; omega)) _ _).mono ?_; rintro e w' ⟨rfl, rfl⟩)
  have hsz : ((w.alloc zero8).alloc (.cells #[.int .i64 0] 33)).heap.size = w.heap.size + 1 + 1 := by simp
  have hrd : Rdr 330 (((w.alloc zero8).alloc (.cells #[.int .i64 0] 33)).alloc (.cells #[.slice (some ⟨B, 0, none⟩) n cap, .int .i64 0, .int .i64 0] 330)) (w.heap.size + 1 + 1) B n cap ((0 : Nat) : Int) 0 := by
    have h := heap_new ((w.alloc zero8).alloc (.cells #[.int .i64 0] 33)) (.cells #[.slice (some ⟨B, 0, none⟩) n cap, .int .i64 0, .int .i64 0] 330)
    rw [hsz] at h
    exact h
  have gW : G w.heap.size none w (((w.alloc zero8).alloc (.cells #[.int .i64 0] 33)).alloc (.cells #[.slice (some ⟨B, 0, none⟩) n cap, .int .i64 0, .int .i64 0] 330)) :=
    (((G.refl _ _ _).alloc _ (Nat.le_refl _)).alloc _ (by simp)).alloc _ (by simp; omega)
  refine (HV.out _ (w.heap.size + 1 + 1) hrd (HB.out.g gW hBlt (by simp)) (by omega)).mono ?_
  rintro e w4 ⟨v4, rfl, hv4, hg4, hr4⟩
  obtain ⟨k0, b0, g0, AM0, nM0, cM0, e0, s0, AK0, nK0, cK0, AV0, nV0, cV0, rfl⟩ := hv4
  have hN0 : w4.heap[w.heap.size]? = some zero8 := (hg4.block w.heap.size (by simp; omega) (by simp; omega)).trans
    ((Below.heap_alloc _ _ _ (by simp; omega)).trans ((Below.heap_alloc _ _ _ (by simp)).trans (heap_new w zero8)))
  have hN1 : w4.heap[w.heap.size + 1]? = some (.cells #[.int .i64 0] 33 (0, 0)) := (hg4.block (w.heap.size + 1) (by simp) (by simp)).trans
    ((Below.heap_alloc _ _ _ (by simp)).trans (by have h := heap_new (w.alloc zero8) (.cells #[.int .i64 0] 33); simpa using h))
  have G4 := Lib.hid (show G w.heap.size none w w4 from gW.trans ⟨hg4.os, hg4.tape, hg4.output, hg4.size, fun k hk _ => hg4.block k (by simp; omega) (some_ne (by omega))⟩)
  obtain ⟨p0, p1, p2, p3, p4, p5, p6, p7⟩ := cells8 hN0
  have y0 := cell_heap hN1 0
  simp only [List.getElem?_toArray, List.getElem?_cons_zero] at y0
  have fz := fun i => froz_heap hN0 i
  have fy := fun i => froz_heap hN1 i
  have q0 := hr4.c0
  have q1 := hr4.c1
  have HN0 := Lib.hid hN0
  have HN1 := Lib.hid hN1
  have u1 : ¬ w.heap.size + 1 + 1 = w.heap.size := by omega
  clear hN0 hN1 hg4 hr4 gW hrd hsz HV
  go_wp2_with (go_at_call 293; refine (must_k _ (by first | rfl | (simp; omega)) _ _).mono ?_; rintro e w' ⟨rfl, rfl⟩)
  show bodyPostD _ _ _ _ _ ((set8 (set8 w4 w.heap.size _ _ _ _ _ _ _ _) w.heap.size _ _ _ _ _ _ _ _).setCell ⟨w.heap.size + 1, 0, none⟩ _)
  have hW := set8_heap (set8_heap HN0.out rfl (.int .i64 k0) (.bool b0) (.bool g0) (.slice AM0 nM0 cM0) (.int .i64 e0) (.string s0) (.slice AK0 nK0 cK0) (.slice AV0 nV0 cV0)) rfl (.int .i64 k0) (.bool b0) (.bool g0) (.slice AM0 nM0 cM0) (.int .i64 e0) (.string s0) (.slice AK0 nK0 cK0) (.slice AV0 nV0 cV0)
  have GW := (G4.out.set8 w.heap.size (.int .i64 k0) (.bool b0) (.bool g0) (.slice AM0 nM0 cM0) (.int .i64 e0) (.string s0) (.slice AK0 nK0 cK0) (.slice AV0 nV0 cV0) (Nat.le_refl _)).set8 w.heap.size (.int .i64 k0) (.bool b0) (.bool g0) (.slice AM0 nM0 cM0) (.int .i64 e0) (.string s0) (.slice AK0 nK0 cK0) (.slice AV0 nV0 cV0) (Nat.le_refl _)
  have hY : (set8 (set8 w4 w.heap.size (.int .i64 k0) (.bool b0) (.bool g0) (.slice AM0 nM0 cM0) (.int .i64 e0) (.string s0) (.slice AK0 nK0 cK0) (.slice AV0 nV0 cV0)) w.heap.size (.int .i64 k0) (.bool b0) (.bool g0) (.slice AM0 nM0 cM0) (.int .i64 e0) (.string s0) (.slice AK0 nK0 cK0) (.slice AV0 nV0 cV0)).heap[w.heap.size + 1]? = some (.cells #[.int .i64 0] 33 (0, 0)) :=
    (set8_other _ _ _ _ _ _ _ _ _ _ _ (by omega)).trans ((set8_other _ _ _ _ _ _ _ _ _ _ _ (by omega)).trans HN1.out)
  generalize set8 (set8 w4 w.heap.size (.int .i64 k0) (.bool b0) (.bool g0) (.slice AM0 nM0 cM0) (.int .i64 e0) (.string s0) (.slice AK0 nK0 cK0) (.slice AV0 nV0 cV0)) w.heap.size (.int .i64 k0) (.bool b0) (.bool g0) (.slice AM0 nM0 cM0) (.int .i64 e0) (.string s0) (.slice AK0 nK0 cK0) (.slice AV0 nV0 cV0) = W0 at *
  have hW := (Below.heap_setCell W0 ⟨w.heap.size + 1, 0, none⟩ (.int .i64 0) w.heap.size (by simp)).trans hW
  have hY : (W0.setCell ⟨w.heap.size + 1, 0, none⟩ (.int .i64 0)).heap[w.heap.size + 1]? = some (.cells #[.int .i64 0] 33 (0, 0)) := heap_set hY _
  have GW := GW.put (w.heap.size + 1) 0 (.int .i64 0) (by omega)
  generalize W0.setCell ⟨w.heap.size + 1, 0, none⟩ (.int .i64 0) = W at *
  obtain ⟨x0, x1, x2, x3, x4, x5, x6, x7⟩ := cells8 hW
  have y1 := cell_heap hY 0
  simp only [List.getElem?_toArray, List.getElem?_cons_zero] at y1
  refine leaves_cons (f := 292) (args := #[.pointer (some ⟨w.heap.size + 1, 0, none⟩)]) (by simp) (by simp [go_sem]) ?_
  refine (catch_idle _ _).mono ?_
  rintro e u' w'' ⟨rfl, rfl, rfl⟩
  refine ⟨.tuple #[.agg #[.int .i64 k0, .bool b0, .bool g0, .slice AM0 nM0 cM0, .int .i64 e0, .string s0, .slice AK0 nK0 cK0, .slice AV0 nV0 cV0], .int .i64 0], by simp [results, Tryz.results291, go_sem, x0, x1, x2, x3, x4, x5, x6, x7, y1], ?_⟩
  exact ⟨_, rfl, ⟨_, _, _, _, _, _, _, _, _, _, _, _, _, _, rfl⟩, GW⟩
end Go.Proofs.YtcfjiaogdmjlbaaGreat
