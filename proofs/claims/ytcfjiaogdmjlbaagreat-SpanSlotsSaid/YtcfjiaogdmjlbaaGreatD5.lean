/- The walk of span's parent, over such elements. -/
import Derived.Test.YtcfjiaogdmjlbaaGreatD4
namespace Go.Proofs.YtcfjiaogdmjlbaaGreat
open Go.RowKit
/-- A place's nine cells: key, at, end, head, body, stop, many, open, index. -/
abbrev place (k a e h b s m : Int) (o : Bool) (i : Int) : Value := .agg #[.int .i64 k, .int .i64 a, .int .i64 e, .int .i64 h, .int .i64 b, .int .i64 s, .int .i64 m, .bool o, .int .i64 i]
abbrev zero9 : Obj := .cells #[.int .i64 0, .int .i64 0, .int .i64 0, .int .i64 0, .int .i64 0, .int .i64 0, .int .i64 0, .bool false, .int .i64 0] 38 (0, 0)
set_option maxRecDepth 20000 in
set_option maxHeartbeats 800000 in
theorem parent_row (f : Int) (B n cap : Nat) (L : List UInt8) (a : Nat) (kd : Int) (m N : Nat) (ps : Nat → Nat) (tx : Nat → ByteArray) (w : World)
    (hL : L.length = n) (hn : n ≤ 1000000) (hcap : n ≤ cap) (hcap2 : cap ≤ 9223372036854775807) (hkd : (kd = 7 ∧ N = 2 * m) ∨ (kd = 6 ∧ N = m)) (hm : m ≤ 1000) (ht : Tk f L n a kd (ps 0 : Nat) 0 (m : Nat) ⟨#[]⟩) (hrow : Row f L n ps tx N) (hB : BY w B L) :
    Calls Tryz.prog 59 #[scan f B n cap, .int .i64 (a : Nat)] w fun e w' => e = .returned (place (-1) 0 0 (a : Nat) (ps 0 : Nat) (ps N : Nat) (m : Nat) false 0) ∧ G w.heap.size none w w' := by
  have hBlt := hB.1
  have hg0 := ((G.refl w.heap.size none w).alloc (.cells #[.int .i64 f, .slice (some ⟨B, 0, none⟩) n cap] 67) (Nat.le_refl _)).alloc zero9 (by simp)
  have hN0 : ((w.alloc (.cells #[.int .i64 f, .slice (some ⟨B, 0, none⟩) n cap] 67)).alloc zero9).heap[w.heap.size + 1]? = some zero9 := by
    have h := heap_new (w.alloc (.cells #[.int .i64 f, .slice (some ⟨B, 0, none⟩) n cap] 67)) zero9
    simpa using h
  have hS0 : ((w.alloc (.cells #[.int .i64 f, .slice (some ⟨B, 0, none⟩) n cap] 67)).alloc zero9).heap[w.heap.size]? = some (.cells #[.int .i64 f, .slice (some ⟨B, 0, none⟩) n cap] 67 (0, 0)) := (Below.heap_alloc _ _ _ (by simp)).trans (heap_new w _)
  have HA := Lib.hid (at_any f B n cap L a kd (ps 0 : Nat) 0 (m : Nat) ⟨#[]⟩ _ hL hn hcap hcap2 (hB.g hg0 hBlt (by simp)) ht)
  have HI := Lib.hid (fun W h => inside_row f B n cap L kd m N ps tx W hL hn hcap hcap2 hkd hm hrow h)
  have HG := Lib.hid hg0
  have HN0 := Lib.hid hN0
  have HS0 := Lib.hid hS0
  have HB := Lib.hid hB
  clear hg0 hN0 hS0 hL ht hrow hB hkd
  go_enter Tryz.func59, Tryz.ntmps59
  go_wp2_with fail
  refine HA.out.mono ?_
  rintro e w1 ⟨rfl, hg1⟩
  have HG1 := Lib.hid (HG.out.trans (hg1.mono HG.out.size))
  have HN1 := Lib.hid ((hg1.block _ (by simp) (by simp)).trans HN0.out)
  have hS1 := (hg1.block _ (by simp; omega) (by simp)).trans HS0.out
  obtain ⟨s0, s1⟩ := cells2 hS1
  have hz1 := HG1.out.size
  have hl1 := lt_heap HN1.out
  clear hg1 HG HN0 HS0 HA
  have u1 : ¬ w.heap.size = w1.heap.size := by omega
  have u2 : ¬ w.heap.size = w1.heap.size + 1 := by omega
  have hg2 := ((G.refl w1.heap.size none w1).alloc (.cells #[.int .i64 kd, .int .i64 (ps 0 : Nat), .int .i64 0, .int .i64 (m : Nat), .bool false, .string ⟨#[]⟩] 78) (Nat.le_refl _)).alloc (.cells #[.int .i64 (-1), .int .i64 0, .int .i64 0, .int .i64 (a : Nat), .int .i64 (ps 0 : Nat), .int .i64 0, .int .i64 0, .bool false, .int .i64 0] 38) (by simp)
  have HI2 := Lib.hid (HI.out _ (HB.out.g (HG1.out.trans (hg2.mono hz1)) hBlt (by simp)))
  have HG2 := Lib.hid hg2
  have HP2 := Lib.hid (show ((w1.alloc (.cells #[.int .i64 kd, .int .i64 (ps 0 : Nat), .int .i64 0, .int .i64 (m : Nat), .bool false, .string ⟨#[]⟩] 78)).alloc (.cells #[.int .i64 (-1), .int .i64 0, .int .i64 0, .int .i64 (a : Nat), .int .i64 (ps 0 : Nat), .int .i64 0, .int .i64 0, .bool false, .int .i64 0] 38)).heap[w1.heap.size + 1]? = some (.cells #[.int .i64 (-1), .int .i64 0, .int .i64 0, .int .i64 (a : Nat), .int .i64 (ps 0 : Nat), .int .i64 0, .int .i64 0, .bool false, .int .i64 0] 38 (0, 0)) by
    have h := heap_new (w1.alloc (.cells #[.int .i64 kd, .int .i64 (ps 0 : Nat), .int .i64 0, .int .i64 (m : Nat), .bool false, .string ⟨#[]⟩] 78)) (.cells #[.int .i64 (-1), .int .i64 0, .int .i64 0, .int .i64 (a : Nat), .int .i64 (ps 0 : Nat), .int .i64 0, .int .i64 0, .bool false, .int .i64 0] 38)
    simpa using h)
  have d0 := (hg2.cell (b := w.heap.size) (o := 0) (by omega) (by simp)).trans s0
  have d1 := (hg2.cell (b := w.heap.size) (o := 1) (by omega) (by simp)).trans s1
  clear hg2 s0 s1
  go_wp2_with fail
  refine HI2.out.mono ?_
  rintro e w2 ⟨rfl, hg3⟩
  have hP3 := (hg3.block _ (by simp) (by simp)).trans HP2.out
  have HN3 := Lib.hid ((hg3.block _ (by simp; omega) (by simp)).trans ((HG2.out.block _ hl1 (by simp)).trans HN1.out))
  have HG3 := Lib.hid (HG1.out.trans (((HG2.out.trans (hg3.mono HG2.out.size))).mono hz1))
  obtain ⟨q0, q1, q2, q3, q4, q5, q6, q7, q8⟩ := cells9 hP3
  have fq := fun i => froz_heap hP3 i
  have HP3 := Lib.hid hP3
  clear hg3 hP3 HP2 HG2 HN1 HG1 HI HI2 d0 d1 hS1
  have u3 : ¬ w.heap.size + 1 = w1.heap.size + 1 := by omega
  obtain ⟨p0, p1, p2, p3, p4, p5, p6, p7, p8⟩ := cells9 HN3.out
  have fz := fun i => froz_heap HN3.out i
  go_wp2
  have HN4 := Lib.hid ((Below.heap_setCell (w2.setCell ⟨w1.heap.size + 1, 5, none⟩ (.int .i64 (ps N : Nat))) ⟨w1.heap.size + 1, 6, none⟩ (.int .i64 (m : Nat)) _ u3).trans ((Below.heap_setCell w2 ⟨w1.heap.size + 1, 5, none⟩ (.int .i64 (ps N : Nat)) _ u3).trans HN3.out))
  have HG4 := Lib.hid ((HG3.out.put (w1.heap.size + 1) 5 (.int .i64 (ps N : Nat)) (by omega)).put (w1.heap.size + 1) 6 (.int .i64 (m : Nat)) (by omega))
  clear HN3 HG3 HP3
  show bodyPost _ _ _ _ _ (set9 ((w2.setCell ⟨w1.heap.size + 1, 5, none⟩ (.int .i64 (ps N : Nat))).setCell ⟨w1.heap.size + 1, 6, none⟩ (.int .i64 (m : Nat))) (w.heap.size + 1) _ _ _ _ _ _ _ _ _)
  generalize (w2.setCell ⟨w1.heap.size + 1, 5, none⟩ (.int .i64 (ps N : Nat))).setCell ⟨w1.heap.size + 1, 6, none⟩ (.int .i64 (m : Nat)) = w4 at *
  have hW := set9_heap HN4.out rfl (.int .i64 (-1)) (.int .i64 0) (.int .i64 0) (.int .i64 (a : Nat)) (.int .i64 (ps 0 : Nat)) (.int .i64 (ps N : Nat)) (.int .i64 (m : Nat)) (.bool false) (.int .i64 0)
  have GW := HG4.out.set9 (w.heap.size + 1) (.int .i64 (-1)) (.int .i64 0) (.int .i64 0) (.int .i64 (a : Nat)) (.int .i64 (ps 0 : Nat)) (.int .i64 (ps N : Nat)) (.int .i64 (m : Nat)) (.bool false) (.int .i64 0) (by omega)
  generalize set9 w4 (w.heap.size + 1) (.int .i64 (-1)) (.int .i64 0) (.int .i64 0) (.int .i64 (a : Nat)) (.int .i64 (ps 0 : Nat)) (.int .i64 (ps N : Nat)) (.int .i64 (m : Nat)) (.bool false) (.int .i64 0) = W at *
  obtain ⟨x0, x1, x2, x3, x4, x5, x6, x7, x8⟩ := cells9 hW
  exact bodyPost_ret (v := place (-1) 0 0 (a : Nat) (ps 0 : Nat) (ps N : Nat) (m : Nat) false 0) (by simp [results, Tryz.results59, go_sem, x0, x1, x2, x3, x4, x5, x6, x7, x8]) rfl ⟨rfl, GW⟩
end Go.Proofs.YtcfjiaogdmjlbaaGreat
