/- Walks of span's Find and Slot. -/
import Derived.Test.YtcfjiaogdmjlbaaGreatE4
namespace Go.Proofs.YtcfjiaogdmjlbaaGreat
open Go.RowKit

set_option maxRecDepth 20000 in
set_option maxHeartbeats 1600000 in
theorem find_ok (f : Int) (s : ByteArray) (PB po c : Nat) (nm : ByteArray) (Q : Int → Int → Int → Int → Int → Int → Int → Int → Bool → Prop) (w : World) (hs : s.size ≤ 1000000) (hP : PB < w.heap.size) (hc : w.cell? ⟨PB, po, none⟩ = some (.string nm))
    (hr : ∀ W, Calls Tryz.prog 26 #[.int .i64 f, .string s] W fun e w' => e = .returned (.bool true) ∧ G W.heap.size none W w')
    (hN : ∀ B cap W, s.size ≤ cap → cap ≤ 9223372036854775807 → BY W B s.data.toList → Calls Tryz.prog 53 #[scan f B s.size cap, .int .i64 0, .string nm] W (Ans Q W)) :
    Calls Tryz.prog 11 #[.int .i64 f, .string s, .slice (some ⟨PB, po, none⟩) 1 c] w (Ans (fun k a z h b s m i x => (x = true → Q k a z h b s m i true) ∧ (x = false → ∃ k a z h b s m i, Q k a z h b s m i false)) w) := by
  have HC := Lib.hid hc
  have HR := Lib.hid hr
  have HN := Lib.hid hN
  clear hc hr hN
  go_enter Tryz.func11, Tryz.ntmps11
  go_wp2_with fail
  refine (HR.out _).mono ?_
  rintro e w1 ⟨rfl, hg1⟩
  have HG1 := Lib.hid hg1.past
  have HR1 := Lib.hid (hg1.newest (by simp))
  have HC1 := Lib.hid ((HG1.out.cell hP (by simp)).trans HC.out)
  obtain ⟨W, cap, hcv, hBY, hg, hc1, hc2⟩ := conv_bytes w1 s hs
  have HG2 := Lib.hid (HG1.out.trans (hg.mono HG1.out.size))
  have HR2 := Lib.hid ((hg.block _ (lt_heap HR1.out) (by simp)).trans HR1.out)
  have HC2 := Lib.hid ((hg.cell (Nat.lt_of_lt_of_le hP HG1.out.size) (by simp)).trans HC1.out)
  have HB := Lib.hid hBY
  have HP2 := Lib.hid (Nat.lt_of_lt_of_le hP HG2.out.size)
  clear hg1 hg hBY HG1 HR1 HC1 HC
  go_wp2_with fail
  refine (find_one f w1.heap.size s.size cap PB po c s.data.toList nm Q W hs HP2.out HC2.out HB.out (fun Z h => HN.out _ _ Z hc1 hc2 h)).mono ?_
  rintro e w2 ⟨hg2, k, a, z, h, b, s', m, i, x, rfl, hq⟩
  have HQ := Lib.hid hq
  have HG3 := Lib.hid (HG2.out.trans (hg2.mono HG2.out.size))
  have HR3 := Lib.hid ((hg2.block _ (lt_heap HR2.out) (by simp)).trans HR2.out)
  obtain ⟨r0, r1, r2, r3, r4, r5, r6, r7, r8⟩ := cells9 HR3.out
  have fr := fun i => froz_heap HR3.out i
  clear hq hg2 hcv HG2 HR2 HC2 HB
  go_wp2
  show bodyPost _ _ _ _ _ (set9 w2 (w.heap.size) _ _ _ _ _ _ _ _ _)
  have hW := set9_heap HR3.out rfl (.int .i64 k) (.int .i64 a) (.int .i64 z) (.int .i64 h) (.int .i64 b) (.int .i64 s') (.int .i64 m) (.bool false) (.int .i64 i)
  have GW := G.set9 HG3.out (w.heap.size) (.int .i64 k) (.int .i64 a) (.int .i64 z) (.int .i64 h) (.int .i64 b) (.int .i64 s') (.int .i64 m) (.bool false) (.int .i64 i) (Nat.le_refl _)
  generalize set9 w2 (w.heap.size) (.int .i64 k) (.int .i64 a) (.int .i64 z) (.int .i64 h) (.int .i64 b) (.int .i64 s') (.int .i64 m) (.bool false) (.int .i64 i) = W at *
  obtain ⟨x0, x1, x2, x3, x4, x5, x6, x7, x8⟩ := cells9 hW
  exact bodyPost_ret (v := .tuple #[.agg #[.int .i64 k, .int .i64 a, .int .i64 z, .int .i64 h, .int .i64 b, .int .i64 s', .int .i64 m, .bool false, .int .i64 i], .bool x]) (by simp [results, Tryz.results11, go_sem, x0, x1, x2, x3, x4, x5, x6, x7, x8]) rfl (⟨GW, k, a, z, h, b, s', m, i, x, rfl, HQ.out⟩)

theorem cell_alloc (w : World) (o : Obj) {b i : Nat} (h : b < w.heap.size) : (w.alloc o).cell? ⟨b, i, none⟩ = w.cell? ⟨b, i, none⟩ := World.cell?_of_block (Below.heap_alloc _ _ _ h)
set_option maxRecDepth 20000 in
set_option maxHeartbeats 1600000 in
theorem slot_ok (f : Int) (s : ByteArray) (PB po c : Nat) (m0 : Nat) (b0 : Int) (nm : ByteArray) (Q : Int → Int → Int → Int → Int → Int → Int → Int → Bool → Prop) (w : World) (hs : s.size ≤ 1000000) (hP : PB < w.heap.size) (hc : w.cell? ⟨PB, po, none⟩ = some (.string nm)) (hcc : 1 ≤ c ∧ c ≤ 9223372036854775807)
    (hr : ∀ W, Calls Tryz.prog 26 #[.int .i64 f, .string s] W fun e w' => e = .returned (.bool true) ∧ G W.heap.size none W w')
    (hp : Tk f s.data.toList s.size 0 7 b0 0 (m0 : Nat) ⟨#[]⟩)
    (hN : ∀ B cap W, s.size ≤ cap → cap ≤ 9223372036854775807 → BY W B s.data.toList → Calls Tryz.prog 34 #[scan f B s.size cap, .int .i64 0, .string nm] W (Ans Q W)) :
    Calls Tryz.prog 13 #[.int .i64 f, .string s, .slice (some ⟨PB, po, none⟩) 1 c] w (Ans (fun k a z h b s m i x => x = true ∧ ∃ x', Q k a z h b s m i x') w) := by
  have HC := Lib.hid hc
  have HR := Lib.hid hr
  have HN := Lib.hid hN
  have HPK := Lib.hid hp
  clear hc hr hN hp
  go_enter Tryz.func13, Tryz.ntmps13
  go_wp2_with fail
  refine (HR.out _).mono ?_
  rintro e w1 ⟨rfl, hg1⟩
  have HG1 := Lib.hid hg1.past
  have HR1 := Lib.hid (hg1.newest (by simp))
  have HC1 := Lib.hid ((HG1.out.cell hP (by simp)).trans HC.out)
  obtain ⟨W, cap, hcv, hBY, hg, hc1, hc2⟩ := conv_bytes w1 s hs
  have hg' := hg.alloc (.cells #[.int .i64 f, .slice (some ⟨w1.heap.size, 0, none⟩) s.size cap] 67) hg.size
  have hS := heap_new W (.cells #[.int .i64 f, .slice (some ⟨w1.heap.size, 0, none⟩) s.size cap] 67)
  have HG2 := Lib.hid (HG1.out.trans (hg'.mono HG1.out.size))
  have HR2 := Lib.hid ((hg'.block _ (lt_heap HR1.out) (by simp)).trans HR1.out)
  have hC2 := (hg'.cell (Nat.lt_of_lt_of_le hP HG1.out.size) (by simp)).trans HC1.out
  have HB := Lib.hid (hBY.g ((G.refl W.heap.size none W).alloc (.cells #[.int .i64 f, .slice (some ⟨w1.heap.size, 0, none⟩) s.size cap] 67) (Nat.le_refl _)) hBY.1 (by simp))
  have hzW := hg.size
  have lw := lt_heap HR1.out
  clear hg1 hg hg' hBY HG1 HR1 HC1 HC
  go_wp2_with fail
  generalize W.alloc (.cells #[.int .i64 f, .slice (some ⟨w1.heap.size, 0, none⟩) s.size cap] 67) = V at *
  obtain ⟨s0, s1⟩ := cells2 hS
  have HS := Lib.hid hS
  have uR : ¬ W.heap.size = w.heap.size := by omega
  obtain ⟨c1, c2⟩ := hcc
  have i1 : IntKind.i64.wrap (1 - 1) = 0 := by decide
  have i2 : (0 : Int) ≤ (c : Int) := by omega
  have i3 : ¬ c = 0 := by omega
  have i4 : ¬ 0 = c := by omega
  have i5 : ¬ (0 : Int) = (c : Int) := by omega
  have i6 : 0 < c := by omega
  have i7 : IntKind.i64.wrap (((1 : Nat) : Int) - 1) = 0 := by decide
  have i8 : IntKind.i64.wrap 0 = 0 := by decide
  clear hS
  have hlV : W.heap.size < V.heap.size := lt_heap HS.out
  have uV : W.heap.size ≠ V.heap.size := by omega
  have hK0 : (G V.heap.size none V V.drew ∧ V.drew.cell? ⟨W.heap.size, 0, none⟩ = some (.int .i64 f) ∧ V.drew.cell? ⟨W.heap.size, 1, none⟩ = some (.slice (some ⟨w1.heap.size, 0, none⟩) s.size cap)) := ⟨(G.refl _ _ _).drew, s0, s1⟩
  have hK1 : (G V.heap.size none V (V.alloc zero9).drew ∧ (V.alloc zero9).drew.cell? ⟨W.heap.size, 0, none⟩ = some (.int .i64 f) ∧ (V.alloc zero9).drew.cell? ⟨W.heap.size, 1, none⟩ = some (.slice (some ⟨w1.heap.size, 0, none⟩) s.size cap)) := ⟨((G.refl V.heap.size none V).alloc _ (Nat.le_refl _)).drew, (cell_alloc _ _ hlV).trans s0, (cell_alloc _ _ hlV).trans s1⟩
  go_region_held3 (fun w' => (G V.heap.size none V w' ∧ w'.cell? ⟨W.heap.size, 0, none⟩ = some (.int .i64 f) ∧ w'.cell? ⟨W.heap.size, 1, none⟩ = some (.slice (some ⟨w1.heap.size, 0, none⟩) s.size cap)))
    (with_reducible assumption)
    (first
      | (go_at_call 27; (with_reducible refine (find_nil f w1.heap.size s.size cap (some ⟨PB, po, none⟩) c V.drew hs).mono ?_); rintro e w2 ⟨rfl, hg2⟩; have hG2 : G V.heap.size none V w2 := ((G.refl V.heap.size none V).drew).trans hg2; have hl2 : W.heap.size < w2.heap.size := Nat.lt_of_lt_of_le (lt_heap HS.out) hG2.size; have hS2 := And.intro hG2 (cells2 ((hG2.block _ (lt_heap HS.out) (by simp)).trans HS.out)); have hS3 : (G V.heap.size none V (w2.alloc zero9) ∧ (w2.alloc zero9).cell? ⟨W.heap.size, 0, none⟩ = some (.int .i64 f) ∧ (w2.alloc zero9).cell? ⟨W.heap.size, 1, none⟩ = some (.slice (some ⟨w1.heap.size, 0, none⟩) s.size cap)) := ⟨hS2.1.alloc _ hS2.1.size, (cell_alloc _ _ hl2).trans hS2.2.1, (cell_alloc _ _ hl2).trans hS2.2.2⟩; have hS4 : (G V.heap.size none V (w2.alloc (.cells #[.int .i64 (-1), .int .i64 0, .int .i64 (s.size : Nat), .int .i64 (-1), .int .i64 (-1), .int .i64 (-1), .int .i64 0, .bool false, .int .i64 0] 38)) ∧ (w2.alloc (.cells #[.int .i64 (-1), .int .i64 0, .int .i64 (s.size : Nat), .int .i64 (-1), .int .i64 (-1), .int .i64 (-1), .int .i64 0, .bool false, .int .i64 0] 38)).cell? ⟨W.heap.size, 0, none⟩ = some (.int .i64 f) ∧ (w2.alloc (.cells #[.int .i64 (-1), .int .i64 0, .int .i64 (s.size : Nat), .int .i64 (-1), .int .i64 (-1), .int .i64 (-1), .int .i64 0, .bool false, .int .i64 0] 38)).cell? ⟨W.heap.size, 1, none⟩ = some (.slice (some ⟨w1.heap.size, 0, none⟩) s.size cap)) := ⟨hS2.1.alloc _ hS2.1.size, (cell_alloc _ _ hl2).trans hS2.2.1, (cell_alloc _ _ hl2).trans hS2.2.2⟩; clear hg2)
      | (go_at_call 27; (with_reducible refine (find_nil f w1.heap.size s.size cap (some ⟨PB, po, none⟩) c (V.alloc zero9).drew hs).mono ?_); rintro e w2 ⟨rfl, hg2⟩; have hz2 := Eq.trans (hg2.block V.heap.size (by simp) (by simp)) (heap_new V zero9); have hG2 : G V.heap.size none V w2 := ((((G.refl V.heap.size none V).alloc zero9 (Nat.le_refl _))).drew).trans (hg2.mono (by simp)); have hl2 : W.heap.size < w2.heap.size := Nat.lt_of_lt_of_le (lt_heap HS.out) hG2.size; have hS2 := And.intro hG2 (cells2 ((hG2.block _ (lt_heap HS.out) (by simp)).trans HS.out)); have hS5 : (G V.heap.size none V (((((((((w2.setCell ⟨V.heap.size, 0, none⟩ (.int .i64 (-1))).setCell ⟨V.heap.size, 1, none⟩ (.int .i64 0)).setCell ⟨V.heap.size, 2, none⟩ (.int .i64 (s.size : Nat))).setCell ⟨V.heap.size, 3, none⟩ (.int .i64 (-1))).setCell ⟨V.heap.size, 4, none⟩ (.int .i64 (-1))).setCell ⟨V.heap.size, 5, none⟩ (.int .i64 (-1))).setCell ⟨V.heap.size, 6, none⟩ (.int .i64 0)).setCell ⟨V.heap.size, 7, none⟩ (.bool false)).setCell ⟨V.heap.size, 8, none⟩ (.int .i64 0)) ∧ (((((((((w2.setCell ⟨V.heap.size, 0, none⟩ (.int .i64 (-1))).setCell ⟨V.heap.size, 1, none⟩ (.int .i64 0)).setCell ⟨V.heap.size, 2, none⟩ (.int .i64 (s.size : Nat))).setCell ⟨V.heap.size, 3, none⟩ (.int .i64 (-1))).setCell ⟨V.heap.size, 4, none⟩ (.int .i64 (-1))).setCell ⟨V.heap.size, 5, none⟩ (.int .i64 (-1))).setCell ⟨V.heap.size, 6, none⟩ (.int .i64 0)).setCell ⟨V.heap.size, 7, none⟩ (.bool false)).setCell ⟨V.heap.size, 8, none⟩ (.int .i64 0)).cell? ⟨W.heap.size, 0, none⟩ = some (.int .i64 f) ∧ (((((((((w2.setCell ⟨V.heap.size, 0, none⟩ (.int .i64 (-1))).setCell ⟨V.heap.size, 1, none⟩ (.int .i64 0)).setCell ⟨V.heap.size, 2, none⟩ (.int .i64 (s.size : Nat))).setCell ⟨V.heap.size, 3, none⟩ (.int .i64 (-1))).setCell ⟨V.heap.size, 4, none⟩ (.int .i64 (-1))).setCell ⟨V.heap.size, 5, none⟩ (.int .i64 (-1))).setCell ⟨V.heap.size, 6, none⟩ (.int .i64 0)).setCell ⟨V.heap.size, 7, none⟩ (.bool false)).setCell ⟨V.heap.size, 8, none⟩ (.int .i64 0)).cell? ⟨W.heap.size, 1, none⟩ = some (.slice (some ⟨w1.heap.size, 0, none⟩) s.size cap)) := ⟨(G.put (G.put (G.put (G.put (G.put (G.put (G.put (G.put (G.put hS2.1 V.heap.size 0 _ (Nat.le_refl _)) V.heap.size 1 _ (Nat.le_refl _)) V.heap.size 2 _ (Nat.le_refl _)) V.heap.size 3 _ (Nat.le_refl _)) V.heap.size 4 _ (Nat.le_refl _)) V.heap.size 5 _ (Nat.le_refl _)) V.heap.size 6 _ (Nat.le_refl _)) V.heap.size 7 _ (Nat.le_refl _)) V.heap.size 8 _ (Nat.le_refl _)), (((cell_other _ _ _ _ _ _ uV).trans ((cell_other _ _ _ _ _ _ uV).trans ((cell_other _ _ _ _ _ _ uV).trans ((cell_other _ _ _ _ _ _ uV).trans ((cell_other _ _ _ _ _ _ uV).trans ((cell_other _ _ _ _ _ _ uV).trans ((cell_other _ _ _ _ _ _ uV).trans ((cell_other _ _ _ _ _ _ uV).trans ((cell_other _ _ _ _ _ _ uV).trans (hS2.2.1))))))))))), (((cell_other _ _ _ _ _ _ uV).trans ((cell_other _ _ _ _ _ _ uV).trans ((cell_other _ _ _ _ _ _ uV).trans ((cell_other _ _ _ _ _ _ uV).trans ((cell_other _ _ _ _ _ _ uV).trans ((cell_other _ _ _ _ _ _ uV).trans ((cell_other _ _ _ _ _ _ uV).trans ((cell_other _ _ _ _ _ _ uV).trans ((cell_other _ _ _ _ _ _ uV).trans (hS2.2.2)))))))))))⟩; obtain ⟨z0, z1, z2, z3, z4, z5, z6, z7, z8⟩ := cells9 hz2; have fz := fun i => froz_heap hz2 i; clear hg2))
  · have hD : ((w2.alloc (.cells #[.int .i64 (-1), .int .i64 0, .int .i64 (s.size : Nat), .int .i64 (-1), .int .i64 (-1), .int .i64 (-1), .int .i64 0, .bool false, .int .i64 0] 38))).heap[w2.heap.size]? = some (.cells #[.int .i64 (-1), .int .i64 0, .int .i64 (s.size : Nat), .int .i64 (-1), .int .i64 (-1), .int .i64 (-1), .int .i64 0, .bool false, .int .i64 0] 38) := heap_new w2 _
    have hX := hS4
    clear hS2 hK0 hK1 s0 s1 hG2
    generalize (w2.alloc (.cells #[.int .i64 (-1), .int .i64 0, .int .i64 (s.size : Nat), .int .i64 (-1), .int .i64 (-1), .int .i64 (-1), .int .i64 0, .bool false, .int .i64 0] 38)) = w4 at *
    obtain ⟨q0, q1, q2, q3, q4, q5, q6, q7, q8⟩ := cells9 hD
    obtain ⟨hG4, s0, s1⟩ := hX
    have HX4 := Lib.hid hG4
    have HD := Lib.hid hD
    clear hD hG4
    have HA := Lib.hid (at_any f w1.heap.size s.size cap s.data.toList 0 7 b0 0 (m0 : Nat) ⟨#[]⟩ w4 (by simp) hs hc1 hc2 (HB.out.g HX4.out HB.out.1 (by simp)) HPK.out)
    go_wp2_with fail
    refine HA.out.mono ?_
    rintro e w5 ⟨rfl, hg5⟩
    have hG5 := HX4.out.trans (hg5.mono HX4.out.size)
    have hS5 := (hG5.block _ (lt_heap HS.out) (by simp)).trans HS.out
    have hD5 := (hg5.block _ (lt_heap HD.out) (by simp)).trans HD.out
    have hgt := (G.refl w5.heap.size none w5).alloc (.cells #[.int .i64 7, .int .i64 b0, .int .i64 0, .int .i64 (m0 : Nat), .bool false, .string ⟨#[]⟩] 78) (Nat.le_refl _)
    have hG6 := hG5.trans (hgt.mono hG5.size)
    have HG6 := Lib.hid hG6
    have hS6 := (hgt.block _ (lt_heap hS5) (by simp)).trans hS5
    have hD6 := (hgt.block _ (lt_heap hD5) (by simp)).trans hD5
    have HNN := Lib.hid (HN.out w1.heap.size cap _ hc1 hc2 (HB.out.g hG6 HB.out.1 (by simp)))
    clear s0 s1 q0 q1 q2 q3 q4 q5 q6 q7 q8
    obtain ⟨s0, s1⟩ := cells2 hS5
    obtain ⟨q0, q1, q2, q3, q4, q5, q6, q7, q8⟩ := cells9 hD5
    obtain ⟨t0, t1⟩ := cells2 hS6
    obtain ⟨u0, u1, u2, u3, u4, u5, u6, u7, u8⟩ := cells9 hD6
    clear hg5 hG5 hS5 hD5 hgt hG6 hS6 hD6 HX4
    go_wp2_with fail
    refine HNN.out.mono ?_
    rintro e w6 ⟨hg6, k, a, z, h, b, s', m, i, x, rfl, hq⟩
    have hG7 := HG6.out.trans (hg6.mono HG6.out.size)
    have HR7 := Lib.hid ((hG7.block _ (lt_heap HR2.out) (by simp)).trans HR2.out)
    have HG7 := Lib.hid (HG2.out.trans (hG7.mono HG2.out.size))
    have HQ := Lib.hid hq
    obtain ⟨r0, r1, r2, r3, r4, r5, r6, r7, r8⟩ := cells9 HR7.out
    have fr := fun i => froz_heap HR7.out i
    have lR := lt_heap HR7.out
    have uR6 : ¬ w.heap.size = w6.heap.size := by omega
    clear hg6 hG7 hq s0 s1 q0 q1 q2 q3 q4 q5 q6 q7 q8 t0 t1 u0 u1 u2 u3 u4 u5 u6 u7 u8
    go_wp2
    show bodyPost _ _ _ _ _ ((set9 w6 w.heap.size _ _ _ _ _ _ _ _ _).alloc (.cells #[.int .i64 k, .int .i64 a, .int .i64 z, .int .i64 h, .int .i64 b, .int .i64 s', .int .i64 m, .bool false, .int .i64 i] 38))
    have hW := set9_heap HR7.out rfl (.int .i64 k) (.int .i64 a) (.int .i64 z) (.int .i64 h) (.int .i64 b) (.int .i64 s') (.int .i64 m) (.bool false) (.int .i64 i)
    have GW := HG7.out.set9 w.heap.size (.int .i64 k) (.int .i64 a) (.int .i64 z) (.int .i64 h) (.int .i64 b) (.int .i64 s') (.int .i64 m) (.bool false) (.int .i64 i) (Nat.le_refl _)
    generalize set9 w6 w.heap.size (.int .i64 k) (.int .i64 a) (.int .i64 z) (.int .i64 h) (.int .i64 b) (.int .i64 s') (.int .i64 m) (.bool false) (.int .i64 i) = W0 at *
    have hW := (Below.heap_alloc W0 (.cells #[.int .i64 k, .int .i64 a, .int .i64 z, .int .i64 h, .int .i64 b, .int .i64 s', .int .i64 m, .bool false, .int .i64 i] 38) _ (lt_heap hW)).trans hW
    have GW := GW.alloc (.cells #[.int .i64 k, .int .i64 a, .int .i64 z, .int .i64 h, .int .i64 b, .int .i64 s', .int .i64 m, .bool false, .int .i64 i] 38) GW.size
    generalize W0.alloc (.cells #[.int .i64 k, .int .i64 a, .int .i64 z, .int .i64 h, .int .i64 b, .int .i64 s', .int .i64 m, .bool false, .int .i64 i] 38) = WW at *
    obtain ⟨x0, x1, x2, x3, x4, x5, x6, x7, x8⟩ := cells9 hW
    exact bodyPost_ret (v := .tuple #[.agg #[.int .i64 k, .int .i64 a, .int .i64 z, .int .i64 h, .int .i64 b, .int .i64 s', .int .i64 m, .bool false, .int .i64 i], .bool true]) (by simp [results, Tryz.results13, go_sem, x0, x1, x2, x3, x4, x5, x6, x7, x8]) rfl ⟨GW, k, a, z, h, b, s', m, i, true, rfl, rfl, x, HQ.out⟩
  · have hD : ((((((((((w2.setCell ⟨V.heap.size, 0, none⟩ (.int .i64 (-1))).setCell ⟨V.heap.size, 1, none⟩ (.int .i64 0)).setCell ⟨V.heap.size, 2, none⟩ (.int .i64 (s.size : Nat))).setCell ⟨V.heap.size, 3, none⟩ (.int .i64 (-1))).setCell ⟨V.heap.size, 4, none⟩ (.int .i64 (-1))).setCell ⟨V.heap.size, 5, none⟩ (.int .i64 (-1))).setCell ⟨V.heap.size, 6, none⟩ (.int .i64 0)).setCell ⟨V.heap.size, 7, none⟩ (.bool false)).setCell ⟨V.heap.size, 8, none⟩ (.int .i64 0))).heap[V.heap.size]? = some (.cells #[.int .i64 (-1), .int .i64 0, .int .i64 (s.size : Nat), .int .i64 (-1), .int .i64 (-1), .int .i64 (-1), .int .i64 0, .bool false, .int .i64 0] 38) := set9_heap hz2 rfl (.int .i64 (-1)) (.int .i64 0) (.int .i64 (s.size : Nat)) (.int .i64 (-1)) (.int .i64 (-1)) (.int .i64 (-1)) (.int .i64 0) (.bool false) (.int .i64 0)
    have hX := hS5
    clear hS2 hK0 hK1 s0 s1 hG2
    generalize (((((((((w2.setCell ⟨V.heap.size, 0, none⟩ (.int .i64 (-1))).setCell ⟨V.heap.size, 1, none⟩ (.int .i64 0)).setCell ⟨V.heap.size, 2, none⟩ (.int .i64 (s.size : Nat))).setCell ⟨V.heap.size, 3, none⟩ (.int .i64 (-1))).setCell ⟨V.heap.size, 4, none⟩ (.int .i64 (-1))).setCell ⟨V.heap.size, 5, none⟩ (.int .i64 (-1))).setCell ⟨V.heap.size, 6, none⟩ (.int .i64 0)).setCell ⟨V.heap.size, 7, none⟩ (.bool false)).setCell ⟨V.heap.size, 8, none⟩ (.int .i64 0)) = w4 at *
    obtain ⟨q0, q1, q2, q3, q4, q5, q6, q7, q8⟩ := cells9 hD
    obtain ⟨hG4, s0, s1⟩ := hX
    have HX4 := Lib.hid hG4
    have HD := Lib.hid hD
    clear hD hG4
    have HA := Lib.hid (at_any f w1.heap.size s.size cap s.data.toList 0 7 b0 0 (m0 : Nat) ⟨#[]⟩ w4 (by simp) hs hc1 hc2 (HB.out.g HX4.out HB.out.1 (by simp)) HPK.out)
    go_wp2_with fail
    refine HA.out.mono ?_
    rintro e w5 ⟨rfl, hg5⟩
    have hG5 := HX4.out.trans (hg5.mono HX4.out.size)
    have hS5 := (hG5.block _ (lt_heap HS.out) (by simp)).trans HS.out
    have hD5 := (hg5.block _ (lt_heap HD.out) (by simp)).trans HD.out
    have hgt := (G.refl w5.heap.size none w5).alloc (.cells #[.int .i64 7, .int .i64 b0, .int .i64 0, .int .i64 (m0 : Nat), .bool false, .string ⟨#[]⟩] 78) (Nat.le_refl _)
    have hG6 := hG5.trans (hgt.mono hG5.size)
    have HG6 := Lib.hid hG6
    have hS6 := (hgt.block _ (lt_heap hS5) (by simp)).trans hS5
    have hD6 := (hgt.block _ (lt_heap hD5) (by simp)).trans hD5
    have HNN := Lib.hid (HN.out w1.heap.size cap _ hc1 hc2 (HB.out.g hG6 HB.out.1 (by simp)))
    clear s0 s1 q0 q1 q2 q3 q4 q5 q6 q7 q8
    obtain ⟨s0, s1⟩ := cells2 hS5
    obtain ⟨q0, q1, q2, q3, q4, q5, q6, q7, q8⟩ := cells9 hD5
    obtain ⟨t0, t1⟩ := cells2 hS6
    obtain ⟨u0, u1, u2, u3, u4, u5, u6, u7, u8⟩ := cells9 hD6
    clear hg5 hG5 hS5 hD5 hgt hG6 hS6 hD6 HX4
    go_wp2_with fail
    refine HNN.out.mono ?_
    rintro e w6 ⟨hg6, k, a, z, h, b, s', m, i, x, rfl, hq⟩
    have hG7 := HG6.out.trans (hg6.mono HG6.out.size)
    have HR7 := Lib.hid ((hG7.block _ (lt_heap HR2.out) (by simp)).trans HR2.out)
    have HG7 := Lib.hid (HG2.out.trans (hG7.mono HG2.out.size))
    have HQ := Lib.hid hq
    obtain ⟨r0, r1, r2, r3, r4, r5, r6, r7, r8⟩ := cells9 HR7.out
    have fr := fun i => froz_heap HR7.out i
    have lR := lt_heap HR7.out
    have uR6 : ¬ w.heap.size = w6.heap.size := by omega
    clear hg6 hG7 hq s0 s1 q0 q1 q2 q3 q4 q5 q6 q7 q8 t0 t1 u0 u1 u2 u3 u4 u5 u6 u7 u8
    go_wp2
    show bodyPost _ _ _ _ _ ((set9 w6 w.heap.size _ _ _ _ _ _ _ _ _).alloc (.cells #[.int .i64 k, .int .i64 a, .int .i64 z, .int .i64 h, .int .i64 b, .int .i64 s', .int .i64 m, .bool false, .int .i64 i] 38))
    have hW := set9_heap HR7.out rfl (.int .i64 k) (.int .i64 a) (.int .i64 z) (.int .i64 h) (.int .i64 b) (.int .i64 s') (.int .i64 m) (.bool false) (.int .i64 i)
    have GW := HG7.out.set9 w.heap.size (.int .i64 k) (.int .i64 a) (.int .i64 z) (.int .i64 h) (.int .i64 b) (.int .i64 s') (.int .i64 m) (.bool false) (.int .i64 i) (Nat.le_refl _)
    generalize set9 w6 w.heap.size (.int .i64 k) (.int .i64 a) (.int .i64 z) (.int .i64 h) (.int .i64 b) (.int .i64 s') (.int .i64 m) (.bool false) (.int .i64 i) = W0 at *
    have hW := (Below.heap_alloc W0 (.cells #[.int .i64 k, .int .i64 a, .int .i64 z, .int .i64 h, .int .i64 b, .int .i64 s', .int .i64 m, .bool false, .int .i64 i] 38) _ (lt_heap hW)).trans hW
    have GW := GW.alloc (.cells #[.int .i64 k, .int .i64 a, .int .i64 z, .int .i64 h, .int .i64 b, .int .i64 s', .int .i64 m, .bool false, .int .i64 i] 38) GW.size
    generalize W0.alloc (.cells #[.int .i64 k, .int .i64 a, .int .i64 z, .int .i64 h, .int .i64 b, .int .i64 s', .int .i64 m, .bool false, .int .i64 i] 38) = WW at *
    obtain ⟨x0, x1, x2, x3, x4, x5, x6, x7, x8⟩ := cells9 hW
    exact bodyPost_ret (v := .tuple #[.agg #[.int .i64 k, .int .i64 a, .int .i64 z, .int .i64 h, .int .i64 b, .int .i64 s', .int .i64 m, .bool false, .int .i64 i], .bool true]) (by simp [results, Tryz.results13, go_sem, x0, x1, x2, x3, x4, x5, x6, x7, x8]) rfl ⟨GW, k, a, z, h, b, s', m, i, true, rfl, rfl, x, HQ.out⟩
end Go.Proofs.YtcfjiaogdmjlbaaGreat
