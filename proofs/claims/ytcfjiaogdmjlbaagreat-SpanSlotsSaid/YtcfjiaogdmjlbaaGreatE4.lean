/- Walks of span's Skip, step and find. -/
import Derived.Test.YtcfjiaogdmjlbaaGreatE3
namespace Go.Proofs.YtcfjiaogdmjlbaaGreat
open Go.RowKit
/-- A place and whether: what a call answers. -/
def Ans (Q : Int → Int → Int → Int → Int → Int → Int → Int → Bool → Prop) (w : World) (e : Ending) (w' : World) : Prop :=
  G w.heap.size none w w' ∧ ∃ k a z h b s m i x, e = .returned (.tuple #[place k a z h b s m false i, .bool x]) ∧ Q k a z h b s m i x
theorem skip_ok (f at_ z : Int) (s : ByteArray) (w : World) (hs : s.size ≤ 1000000) (hr : ∀ W, Calls Tryz.prog 26 #[.int .i64 f, .string s] W fun e w' => e = .returned (.bool true) ∧ G W.heap.size none W w')
    (hb : ∀ B cap W, s.size ≤ cap → cap ≤ 9223372036854775807 → BY W B s.data.toList → Calls Tryz.prog 65 #[scan f B s.size cap, .int .i64 0, .int .i64 at_] W fun e w' => e = .returned (.bool true) ∧ G W.heap.size none W w')
    (hk : ∀ B cap W, s.size ≤ cap → cap ≤ 9223372036854775807 → BY W B s.data.toList → Calls Tryz.prog 41 #[scan f B s.size cap, .int .i64 at_] W fun e w' => e = .returned (.int .i64 z) ∧ G W.heap.size none W w') :
    Calls Tryz.prog 15 #[.int .i64 f, .string s, .int .i64 at_] w fun e w' => e = .returned (.tuple #[.int .i64 z, .bool true]) ∧ G w.heap.size none w w' := by
  have HO := Lib.hid (of_ok f at_ s w hs hr hb)
  have HK := Lib.hid hk
  clear hr hb hk
  go_enter Tryz.func15, Tryz.ntmps15
  go_wp2_with fail
  refine HO.out.mono ?_
  rintro e w1 ⟨B, cap, rfl, h1, h2, hB, hg1⟩
  have hg2 := (G.refl w1.heap.size none w1).alloc (.cells #[.int .i64 f, .slice (some ⟨B, 0, none⟩) s.size cap] 67) (Nat.le_refl _)
  have HK2 := Lib.hid (HK.out B cap _ h1 h2 (hB.g hg2 hB.1 (by simp)))
  have HG := Lib.hid (hg1.trans (hg2.mono hg1.size))
  clear hB hg1 hg2 HK
  go_wp2_with (go_at_call 41; refine HK2.out.mono ?_; rintro e w2 ⟨rfl, hg2⟩)
  go_ret2
  exact ⟨rfl, HG.out.trans (hg2.mono HG.out.size)⟩

set_option maxRecDepth 20000 in
set_option maxHeartbeats 1000000 in
theorem step_name (f : Int) (B n cap : Nat) (L : List UInt8) (a0 m0 : Nat) (b0 : Int) (nm : ByteArray) (Q : Int → Int → Int → Int → Int → Int → Int → Int → Bool → Prop) (w : World)
    (hL : L.length = n) (hn : n ≤ 1000000) (hcap : n ≤ cap) (hcap2 : cap ≤ 9223372036854775807) (hp : Tk f L n a0 7 b0 0 (m0 : Nat) ⟨#[]⟩) (hB : BY w B L)
    (hN : ∀ W, BY W B L → Calls Tryz.prog 34 #[scan f B n cap, .int .i64 (a0 : Nat), .string nm] W (Ans Q W)) :
    Calls Tryz.prog 53 #[scan f B n cap, .int .i64 (a0 : Nat), .string nm] w (Ans Q w) := by
  have hBlt := hB.1
  have hg0 := ((G.refl w.heap.size none w).alloc (.cells #[.int .i64 f, .slice (some ⟨B, 0, none⟩) n cap] 67) (Nat.le_refl _)).alloc zero9 (by simp)
  have hR0 : ((w.alloc (.cells #[.int .i64 f, .slice (some ⟨B, 0, none⟩) n cap] 67)).alloc zero9).heap[w.heap.size + 1]? = some zero9 := by
    have h := heap_new (w.alloc (.cells #[.int .i64 f, .slice (some ⟨B, 0, none⟩) n cap] 67)) zero9
    simpa using h
  have hS0 : ((w.alloc (.cells #[.int .i64 f, .slice (some ⟨B, 0, none⟩) n cap] 67)).alloc zero9).heap[w.heap.size]? = some (.cells #[.int .i64 f, .slice (some ⟨B, 0, none⟩) n cap] 67 (0, 0)) := (Below.heap_alloc _ _ _ (by simp)).trans (heap_new w _)
  have HA := Lib.hid (at_any f B n cap L a0 7 b0 0 (m0 : Nat) ⟨#[]⟩ _ hL hn hcap hcap2 (hB.g hg0 hBlt (by simp)) hp)
  have HN := Lib.hid (fun W h => hN W h)
  have HB := Lib.hid hB
  have HG := Lib.hid hg0
  have HR0 := Lib.hid hR0
  have HS0 := Lib.hid hS0
  clear hL hp hB hg0 hR0 hS0 hN
  have hx0 := field0 7 b0 0 (m0 : Nat) ⟨#[]⟩
  go_enter Tryz.func53, Tryz.ntmps53
  go_wp2_with fail
  refine HA.out.mono ?_
  rintro e w1 ⟨rfl, hg1⟩
  have HG1 := Lib.hid (HG.out.trans (hg1.mono HG.out.size))
  have HR1 := Lib.hid ((hg1.block _ (by simp) (by simp)).trans HR0.out)
  have hS1 := (hg1.block _ (by simp; omega) (by simp)).trans HS0.out
  obtain ⟨s0, s1⟩ := cells2 hS1
  clear hg1 hS1 HG HR0 HS0 HA
  go_wp2_with fail
  refine (HN.out w1 (HB.out.g HG1.out hBlt (by simp))).mono ?_
  rintro e w2 ⟨hg2, k, a, z, h, b, s, m, i, x, rfl, hq⟩
  have HQ := Lib.hid hq
  have HG2 := Lib.hid (HG1.out.trans (hg2.mono HG1.out.size))
  have HR2 := Lib.hid ((hg2.block _ (lt_heap HR1.out) (by simp)).trans HR1.out)
  obtain ⟨r0, r1, r2, r3, r4, r5, r6, r7, r8⟩ := cells9 HR2.out
  have fr := fun i => froz_heap HR2.out i
  clear hq hg2 s0 s1 HG1 HR1 hx0
  go_wp2
  show bodyPost _ _ _ _ _ (set9 w2 (w.heap.size + 1) _ _ _ _ _ _ _ _ _)
  have hW := set9_heap HR2.out rfl (.int .i64 k) (.int .i64 a) (.int .i64 z) (.int .i64 h) (.int .i64 b) (.int .i64 s) (.int .i64 m) (.bool false) (.int .i64 i)
  have GW := G.set9 HG2.out (w.heap.size + 1) (.int .i64 k) (.int .i64 a) (.int .i64 z) (.int .i64 h) (.int .i64 b) (.int .i64 s) (.int .i64 m) (.bool false) (.int .i64 i) (by omega)
  generalize set9 w2 (w.heap.size + 1) (.int .i64 k) (.int .i64 a) (.int .i64 z) (.int .i64 h) (.int .i64 b) (.int .i64 s) (.int .i64 m) (.bool false) (.int .i64 i) = W at *
  obtain ⟨x0, x1, x2, x3, x4, x5, x6, x7, x8⟩ := cells9 hW
  exact bodyPost_ret (v := .tuple #[.agg #[.int .i64 k, .int .i64 a, .int .i64 z, .int .i64 h, .int .i64 b, .int .i64 s, .int .i64 m, .bool false, .int .i64 i], .bool x]) (by simp [results, Tryz.results53, go_sem, x0, x1, x2, x3, x4, x5, x6, x7, x8]) rfl (⟨GW, k, a, z, h, b, s, m, i, x, rfl, HQ.out⟩)

set_option maxRecDepth 20000 in
set_option maxHeartbeats 1000000 in
theorem find_nil (f : Int) (B n cap : Nat) (A : Option Addr) (c : Nat) (w : World) (hn : n ≤ 1000000) :
    Calls Tryz.prog 27 #[scan f B n cap, .slice A 0 c] w fun e w' => e = .returned (.tuple #[place (-1) 0 (n : Nat) (-1) (-1) (-1) 0 false 0, .bool true]) ∧ G w.heap.size none w w' := by
  have HG := Lib.hid ((((G.refl w.heap.size none w).alloc (.cells #[.int .i64 f, .slice (some ⟨B, 0, none⟩) n cap] 67) (Nat.le_refl _)).alloc (.cells #[.int .i64 (-1), .int .i64 0, .int .i64 (n : Nat), .int .i64 (-1), .int .i64 (-1), .int .i64 (-1), .int .i64 0, .bool false, .int .i64 0] 38) (by simp)).alloc (.cells #[.int .i64 (-1), .int .i64 0, .int .i64 (n : Nat), .int .i64 (-1), .int .i64 (-1), .int .i64 (-1), .int .i64 0, .bool false, .int .i64 0] 38) (by simp; omega))
  go_enter Tryz.func27, Tryz.ntmps27
  go_wp2_with fail
  refine wp_loop_once ?_
  go_wp2
  exact bodyPost_ret (v := .tuple #[place (-1) 0 (n : Nat) (-1) (-1) (-1) 0 false 0, .bool true]) (by simp [results, Tryz.results27, go_sem]) rfl ⟨rfl, HG.out⟩

set_option maxRecDepth 20000 in
set_option maxHeartbeats 1600000 in
theorem find_one (f : Int) (B n cap PB po c : Nat) (L : List UInt8) (nm : ByteArray) (Q : Int → Int → Int → Int → Int → Int → Int → Int → Bool → Prop) (w : World) (hn : n ≤ 1000000) (hP : PB < w.heap.size) (hc : w.cell? ⟨PB, po, none⟩ = some (.string nm)) (hB : BY w B L)
    (hN : ∀ W, BY W B L → Calls Tryz.prog 53 #[scan f B n cap, .int .i64 0, .string nm] W (Ans Q W)) :
    Calls Tryz.prog 27 #[scan f B n cap, .slice (some ⟨PB, po, none⟩) 1 c] w (Ans (fun k a z h b s m i x => (x = true → Q k a z h b s m i true) ∧ (x = false → ∃ k a z h b s m i, Q k a z h b s m i false)) w) := by
  have hBlt := hB.1
  have hR0 : ((w.alloc (.cells #[.int .i64 f, .slice (some ⟨B, 0, none⟩) n cap] 67)).alloc zero9).heap[w.heap.size + 1]? = some zero9 := by
    have h := heap_new (w.alloc (.cells #[.int .i64 f, .slice (some ⟨B, 0, none⟩) n cap] 67)) zero9
    simpa using h
  have hP0 : (((w.alloc (.cells #[.int .i64 f, .slice (some ⟨B, 0, none⟩) n cap] 67)).alloc zero9).alloc (.cells #[.int .i64 (-1), .int .i64 0, .int .i64 (n : Nat), .int .i64 (-1), .int .i64 (-1), .int .i64 (-1), .int .i64 0, .bool false, .int .i64 0] 38)).heap[w.heap.size + 1 + 1]? = some (.cells #[.int .i64 (-1), .int .i64 0, .int .i64 (n : Nat), .int .i64 (-1), .int .i64 (-1), .int .i64 (-1), .int .i64 0, .bool false, .int .i64 0] 38) := by
    have h := heap_new ((w.alloc (.cells #[.int .i64 f, .slice (some ⟨B, 0, none⟩) n cap] 67)).alloc zero9) (.cells #[.int .i64 (-1), .int .i64 0, .int .i64 (n : Nat), .int .i64 (-1), .int .i64 (-1), .int .i64 (-1), .int .i64 0, .bool false, .int .i64 0] 38)
    simpa using h
  have hg0 := ((((G.refl w.heap.size none w).alloc (.cells #[.int .i64 f, .slice (some ⟨B, 0, none⟩) n cap] 67) (Nat.le_refl _)).alloc zero9 (by simp)).alloc (.cells #[.int .i64 (-1), .int .i64 0, .int .i64 (n : Nat), .int .i64 (-1), .int .i64 (-1), .int .i64 (-1), .int .i64 0, .bool false, .int .i64 0] 38) (by simp; omega))
  have HG := Lib.hid hg0
  have HR1 := Lib.hid ((Below.heap_alloc _ (.cells #[.int .i64 (-1), .int .i64 0, .int .i64 (n : Nat), .int .i64 (-1), .int .i64 (-1), .int .i64 (-1), .int .i64 0, .bool false, .int .i64 0] 38) _ (lt_heap hR0)).trans hR0)
  have hS0 : (((w.alloc (.cells #[.int .i64 f, .slice (some ⟨B, 0, none⟩) n cap] 67)).alloc zero9).alloc (.cells #[.int .i64 (-1), .int .i64 0, .int .i64 (n : Nat), .int .i64 (-1), .int .i64 (-1), .int .i64 (-1), .int .i64 0, .bool false, .int .i64 0] 38)).heap[w.heap.size]? = some (.cells #[.int .i64 f, .slice (some ⟨B, 0, none⟩) n cap] 67) := (Below.heap_alloc _ _ _ (by simp; omega)).trans ((Below.heap_alloc _ _ _ (by simp)).trans (heap_new w _))
  have HS0 := Lib.hid hS0
  have HP0 := Lib.hid hP0
  have d0 := (hg0.cell (b := PB) (o := po) hP (by simp)).trans hc
  have HN := Lib.hid (hN _ (hB.g hg0 hBlt (by simp)))
  obtain ⟨e0, e1⟩ := cells2 hS0
  obtain ⟨p0, p1, p2, p3, p4, p5, p6, p7, p8⟩ := cells9 hP0
  clear hR0 hP0 hg0 hB hN hc hS0
  go_enter Tryz.func27, Tryz.ntmps27
  go_wp2_with fail
  refine wp_loop_rounds 2 ?_
  rw [rounds_succ]
  go_wp2_with fail
  refine HN.out.mono ?_
  rintro e w1 ⟨hg1, k, a, z, h, b, s, m, i, x, rfl, hq⟩
  have HQ := Lib.hid hq
  have HG1 := Lib.hid (HG.out.trans (hg1.mono HG.out.size))
  have HR2 := Lib.hid ((hg1.block _ (lt_heap HR1.out) (by simp)).trans HR1.out)
  have HP2 := Lib.hid ((hg1.block _ (lt_heap HP0.out) (by simp)).trans HP0.out)
  clear hq hg1 d0 e0 e1 p0 p1 p2 p3 p4 p5 p6 p7 p8 HG HR1 HP0 HS0 HN
  have hz1 := lt_heap HP2.out
  cases x with
  | false =>
    have HR3 := Lib.hid ((Below.heap_alloc w1 (.cells #[.int .i64 k, .int .i64 a, .int .i64 z, .int .i64 h, .int .i64 b, .int .i64 s, .int .i64 m, .bool false, .int .i64 i] 38) _ (lt_heap HR2.out)).trans HR2.out)
    have HG3 := Lib.hid (HG1.out.alloc (.cells #[.int .i64 k, .int .i64 a, .int .i64 z, .int .i64 h, .int .i64 b, .int .i64 s, .int .i64 m, .bool false, .int .i64 i] 38) HG1.out.size)
    obtain ⟨r0, r1, r2, r3, r4, r5, r6, r7, r8⟩ := cells9 HR3.out
    have fr := fun i => froz_heap HR3.out i
    go_wp2
    generalize w1.alloc (.cells #[.int .i64 k, .int .i64 a, .int .i64 z, .int .i64 h, .int .i64 b, .int .i64 s, .int .i64 m, .bool false, .int .i64 i] 38) = w3 at *
    show bodyPost _ _ _ _ _ (set9 w3 (w.heap.size + 1) _ _ _ _ _ _ _ _ _)
    have hW := set9_heap HR3.out rfl (.int .i64 0) (.int .i64 0) (.int .i64 0) (.int .i64 0) (.int .i64 0) (.int .i64 0) (.int .i64 0) (.bool false) (.int .i64 0)
    have GW := G.set9 HG3.out (w.heap.size + 1) (.int .i64 0) (.int .i64 0) (.int .i64 0) (.int .i64 0) (.int .i64 0) (.int .i64 0) (.int .i64 0) (.bool false) (.int .i64 0) (by omega)
    generalize set9 w3 (w.heap.size + 1) (.int .i64 0) (.int .i64 0) (.int .i64 0) (.int .i64 0) (.int .i64 0) (.int .i64 0) (.int .i64 0) (.bool false) (.int .i64 0) = W at *
    obtain ⟨x0, x1, x2, x3, x4, x5, x6, x7, x8⟩ := cells9 hW
    exact bodyPost_ret (v := .tuple #[.agg #[.int .i64 0, .int .i64 0, .int .i64 0, .int .i64 0, .int .i64 0, .int .i64 0, .int .i64 0, .bool false, .int .i64 0], .bool false]) (by simp [results, Tryz.results27, go_sem, x0, x1, x2, x3, x4, x5, x6, x7, x8]) rfl (⟨GW, 0, 0, 0, 0, 0, 0, 0, 0, false, rfl, (fun h => by cases h), fun _ => ⟨k, a, z, h, b, s, m, i, HQ.out⟩⟩)
  | true =>
    obtain ⟨p0, p1, p2, p3, p4, p5, p6, p7, p8⟩ := cells9 HP2.out
    have fp := fun i => froz_heap HP2.out i
    have u1 : ¬ w.heap.size + 1 + 1 = w1.heap.size := by omega
    go_wp2
    have hP4 : ((((((((((w1.setCell ⟨w.heap.size + 1 + 1, 0, none⟩ (.int .i64 k)).setCell ⟨w.heap.size + 1 + 1, 1, none⟩ (.int .i64 a)).setCell ⟨w.heap.size + 1 + 1, 2, none⟩ (.int .i64 z)).setCell ⟨w.heap.size + 1 + 1, 3, none⟩ (.int .i64 h)).setCell ⟨w.heap.size + 1 + 1, 4, none⟩ (.int .i64 b)).setCell ⟨w.heap.size + 1 + 1, 5, none⟩ (.int .i64 s)).setCell ⟨w.heap.size + 1 + 1, 6, none⟩ (.int .i64 m)).setCell ⟨w.heap.size + 1 + 1, 7, none⟩ (.bool false)).setCell ⟨w.heap.size + 1 + 1, 8, none⟩ (.int .i64 i))).heap[w.heap.size + 1 + 1]? = _ := set9_heap HP2.out rfl (.int .i64 k) (.int .i64 a) (.int .i64 z) (.int .i64 h) (.int .i64 b) (.int .i64 s) (.int .i64 m) (.bool false) (.int .i64 i)
    have hG4 : G w.heap.size none w ((((((((((w1.setCell ⟨w.heap.size + 1 + 1, 0, none⟩ (.int .i64 k)).setCell ⟨w.heap.size + 1 + 1, 1, none⟩ (.int .i64 a)).setCell ⟨w.heap.size + 1 + 1, 2, none⟩ (.int .i64 z)).setCell ⟨w.heap.size + 1 + 1, 3, none⟩ (.int .i64 h)).setCell ⟨w.heap.size + 1 + 1, 4, none⟩ (.int .i64 b)).setCell ⟨w.heap.size + 1 + 1, 5, none⟩ (.int .i64 s)).setCell ⟨w.heap.size + 1 + 1, 6, none⟩ (.int .i64 m)).setCell ⟨w.heap.size + 1 + 1, 7, none⟩ (.bool false)).setCell ⟨w.heap.size + 1 + 1, 8, none⟩ (.int .i64 i))) := HG1.out.set9 (w.heap.size + 1 + 1) (.int .i64 k) (.int .i64 a) (.int .i64 z) (.int .i64 h) (.int .i64 b) (.int .i64 s) (.int .i64 m) (.bool false) (.int .i64 i) (by omega)
    have hR4 : ((((((((((w1.setCell ⟨w.heap.size + 1 + 1, 0, none⟩ (.int .i64 k)).setCell ⟨w.heap.size + 1 + 1, 1, none⟩ (.int .i64 a)).setCell ⟨w.heap.size + 1 + 1, 2, none⟩ (.int .i64 z)).setCell ⟨w.heap.size + 1 + 1, 3, none⟩ (.int .i64 h)).setCell ⟨w.heap.size + 1 + 1, 4, none⟩ (.int .i64 b)).setCell ⟨w.heap.size + 1 + 1, 5, none⟩ (.int .i64 s)).setCell ⟨w.heap.size + 1 + 1, 6, none⟩ (.int .i64 m)).setCell ⟨w.heap.size + 1 + 1, 7, none⟩ (.bool false)).setCell ⟨w.heap.size + 1 + 1, 8, none⟩ (.int .i64 i))).heap[w.heap.size + 1]? = _ := (set9_other w1 (w.heap.size + 1 + 1) (.int .i64 k) (.int .i64 a) (.int .i64 z) (.int .i64 h) (.int .i64 b) (.int .i64 s) (.int .i64 m) (.bool false) (.int .i64 i) (w.heap.size + 1) (by omega)).trans HR2.out
    clear p0 p1 p2 p3 p4 p5 p6 p7 p8 fp HP2 HR2 HG1
    generalize (((((((((w1.setCell ⟨w.heap.size + 1 + 1, 0, none⟩ (.int .i64 k)).setCell ⟨w.heap.size + 1 + 1, 1, none⟩ (.int .i64 a)).setCell ⟨w.heap.size + 1 + 1, 2, none⟩ (.int .i64 z)).setCell ⟨w.heap.size + 1 + 1, 3, none⟩ (.int .i64 h)).setCell ⟨w.heap.size + 1 + 1, 4, none⟩ (.int .i64 b)).setCell ⟨w.heap.size + 1 + 1, 5, none⟩ (.int .i64 s)).setCell ⟨w.heap.size + 1 + 1, 6, none⟩ (.int .i64 m)).setCell ⟨w.heap.size + 1 + 1, 7, none⟩ (.bool false)).setCell ⟨w.heap.size + 1 + 1, 8, none⟩ (.int .i64 i)) = w3 at *
    have hP4 := (Below.heap_alloc w3 (.cells #[.int .i64 k, .int .i64 a, .int .i64 z, .int .i64 h, .int .i64 b, .int .i64 s, .int .i64 m, .bool false, .int .i64 i] 38) _ (lt_heap hP4)).trans hP4
    have HR4 := Lib.hid ((Below.heap_alloc w3 (.cells #[.int .i64 k, .int .i64 a, .int .i64 z, .int .i64 h, .int .i64 b, .int .i64 s, .int .i64 m, .bool false, .int .i64 i] 38) _ (lt_heap hR4)).trans hR4)
    have HG4 := Lib.hid (hG4.alloc (.cells #[.int .i64 k, .int .i64 a, .int .i64 z, .int .i64 h, .int .i64 b, .int .i64 s, .int .i64 m, .bool false, .int .i64 i] 38) hG4.size)
    clear hR4 hG4
    generalize w3.alloc (.cells #[.int .i64 k, .int .i64 a, .int .i64 z, .int .i64 h, .int .i64 b, .int .i64 s, .int .i64 m, .bool false, .int .i64 i] 38) = w4 at *
    obtain ⟨p0, p1, p2, p3, p4, p5, p6, p7, p8⟩ := cells9 hP4
    obtain ⟨r0, r1, r2, r3, r4, r5, r6, r7, r8⟩ := cells9 HR4.out
    have fr := fun i => froz_heap HR4.out i
    clear hP4
    rw [rounds_succ]
    go_wp2
    show bodyPost _ _ _ _ _ (set9 w4 (w.heap.size + 1) _ _ _ _ _ _ _ _ _)
    have hW := set9_heap HR4.out rfl (.int .i64 k) (.int .i64 a) (.int .i64 z) (.int .i64 h) (.int .i64 b) (.int .i64 s) (.int .i64 m) (.bool false) (.int .i64 i)
    have GW := G.set9 HG4.out (w.heap.size + 1) (.int .i64 k) (.int .i64 a) (.int .i64 z) (.int .i64 h) (.int .i64 b) (.int .i64 s) (.int .i64 m) (.bool false) (.int .i64 i) (by omega)
    generalize set9 w4 (w.heap.size + 1) (.int .i64 k) (.int .i64 a) (.int .i64 z) (.int .i64 h) (.int .i64 b) (.int .i64 s) (.int .i64 m) (.bool false) (.int .i64 i) = W at *
    obtain ⟨x0, x1, x2, x3, x4, x5, x6, x7, x8⟩ := cells9 hW
    exact bodyPost_ret (v := .tuple #[.agg #[.int .i64 k, .int .i64 a, .int .i64 z, .int .i64 h, .int .i64 b, .int .i64 s, .int .i64 m, .bool false, .int .i64 i], .bool true]) (by simp [results, Tryz.results27, go_sem, x0, x1, x2, x3, x4, x5, x6, x7, x8]) rfl (⟨GW, k, a, z, h, b, s, m, i, true, rfl, (fun _ => HQ.out), (fun h => by cases h)⟩)
end Go.Proofs.YtcfjiaogdmjlbaaGreat
