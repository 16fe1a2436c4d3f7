/- The walks of span's reading of one head, in CBOR and Pack. -/
import Derived.Test.YtcfjiaogdmjlbaaGreatC8
namespace Go.Proofs.YtcfjiaogdmjlbaaGreat
open Go.RowKit
theorem set2_at0 {w : World} {b : Nat} {a0 a1 c0 c1 : Value} {T : TypeId} {fz : Nat × Nat} (h : w.heap[b]? = some (.cells #[a0, a1] T fz)) :
    ((w.setCell ⟨b, 0, none⟩ c0).setCell ⟨b, 1, none⟩ c1).heap[b]? = some (.cells #[c0, c1] T fz) := (heap_set (j := 1) (heap_set (j := 0) h c0) c1)
def set2 (w : World) (b : Nat) (c0 c1 : Value) : World := ((w.setCell ⟨b, 0, none⟩ c0).setCell ⟨b, 1, none⟩ c1)
theorem set2_heap {w : World} {b : Nat} {cs : Array Value} {T : TypeId} {fz : Nat × Nat} (h : w.heap[b]? = some (.cells cs T fz)) (hs : cs.size = 2) (c0 c1 : Value) :
    (set2 w b c0 c1).heap[b]? = some (.cells #[c0, c1] T fz) := by
  obtain ⟨l⟩ := cs
  match l, hs with
  | [a0, a1], _ => exact (set2_at0 h)
theorem G.set2 {B0 : Nat} {R : Option Nat} {a w : World} (h : G B0 R a w) (b : Nat) (c0 c1 : Value) (hb : B0 ≤ b) : G B0 R a (set2 w b c0 c1) :=
  ((h.put b 0 c0 hb).put b 1 c1 hb)
theorem set2_other (w : World) (b : Nat) (c0 c1 : Value) (k : Nat) (hk : k ≠ b) : (set2 w b c0 c1).heap[k]? = w.heap[k]? := by
  unfold set2
  rw [Below.heap_setCell _ _ _ _ hk, Below.heap_setCell _ _ _ _ hk]
theorem cells2 {w : World} {b : Nat} {c0 c1 : Value} {T : TypeId} {fz : Nat × Nat} (h : w.heap[b]? = some (.cells #[c0, c1] T fz)) :
    w.cell? ⟨b, 0, none⟩ = some c0 ∧ w.cell? ⟨b, 1, none⟩ = some c1 :=
  ⟨cell_heap h 0, cell_heap h 1⟩
theorem set6_at0 {w : World} {b : Nat} {a0 a1 a2 a3 a4 a5 c0 c1 c2 : Value} {T : TypeId} {fz : Nat × Nat} (h : w.heap[b]? = some (.cells #[a0, a1, a2, a3, a4, a5] T fz)) :
    (((w.setCell ⟨b, 0, none⟩ c0).setCell ⟨b, 1, none⟩ c1).setCell ⟨b, 2, none⟩ c2).heap[b]? = some (.cells #[c0, c1, c2, a3, a4, a5] T fz) := (heap_set (j := 2) (heap_set (j := 1) (heap_set (j := 0) h c0) c1) c2)
theorem set6_at3 {w : World} {b : Nat} {a3 a4 a5 c0 c1 c2 c3 c4 c5 : Value} {T : TypeId} {fz : Nat × Nat} (h : w.heap[b]? = some (.cells #[c0, c1, c2, a3, a4, a5] T fz)) :
    (((w.setCell ⟨b, 3, none⟩ c3).setCell ⟨b, 4, none⟩ c4).setCell ⟨b, 5, none⟩ c5).heap[b]? = some (.cells #[c0, c1, c2, c3, c4, c5] T fz) := (heap_set (j := 5) (heap_set (j := 4) (heap_set (j := 3) h c3) c4) c5)
def set6 (w : World) (b : Nat) (c0 c1 c2 c3 c4 c5 : Value) : World := ((((((w.setCell ⟨b, 0, none⟩ c0).setCell ⟨b, 1, none⟩ c1).setCell ⟨b, 2, none⟩ c2).setCell ⟨b, 3, none⟩ c3).setCell ⟨b, 4, none⟩ c4).setCell ⟨b, 5, none⟩ c5)
theorem set6_heap {w : World} {b : Nat} {cs : Array Value} {T : TypeId} {fz : Nat × Nat} (h : w.heap[b]? = some (.cells cs T fz)) (hs : cs.size = 6) (c0 c1 c2 c3 c4 c5 : Value) :
    (set6 w b c0 c1 c2 c3 c4 c5).heap[b]? = some (.cells #[c0, c1, c2, c3, c4, c5] T fz) := by
  obtain ⟨l⟩ := cs
  match l, hs with
  | [a0, a1, a2, a3, a4, a5], _ => exact (set6_at3 (set6_at0 h))
theorem G.set6 {B0 : Nat} {R : Option Nat} {a w : World} (h : G B0 R a w) (b : Nat) (c0 c1 c2 c3 c4 c5 : Value) (hb : B0 ≤ b) : G B0 R a (set6 w b c0 c1 c2 c3 c4 c5) :=
  ((((((h.put b 0 c0 hb).put b 1 c1 hb).put b 2 c2 hb).put b 3 c3 hb).put b 4 c4 hb).put b 5 c5 hb)
theorem set6_other (w : World) (b : Nat) (c0 c1 c2 c3 c4 c5 : Value) (k : Nat) (hk : k ≠ b) : (set6 w b c0 c1 c2 c3 c4 c5).heap[k]? = w.heap[k]? := by
  unfold set6
  rw [Below.heap_setCell _ _ _ _ hk, Below.heap_setCell _ _ _ _ hk, Below.heap_setCell _ _ _ _ hk, Below.heap_setCell _ _ _ _ hk, Below.heap_setCell _ _ _ _ hk, Below.heap_setCell _ _ _ _ hk]
theorem cells6 {w : World} {b : Nat} {c0 c1 c2 c3 c4 c5 : Value} {T : TypeId} {fz : Nat × Nat} (h : w.heap[b]? = some (.cells #[c0, c1, c2, c3, c4, c5] T fz)) :
    w.cell? ⟨b, 0, none⟩ = some c0 ∧ w.cell? ⟨b, 1, none⟩ = some c1 ∧ w.cell? ⟨b, 2, none⟩ = some c2 ∧ w.cell? ⟨b, 3, none⟩ = some c3 ∧ w.cell? ⟨b, 4, none⟩ = some c4 ∧ w.cell? ⟨b, 5, none⟩ = some c5 :=
  ⟨cell_heap h 0, cell_heap h 1, cell_heap h 2, cell_heap h 3, cell_heap h 4, cell_heap h 5⟩
theorem set9_at0 {w : World} {b : Nat} {a0 a1 a2 a3 a4 a5 a6 a7 a8 c0 c1 c2 : Value} {T : TypeId} {fz : Nat × Nat} (h : w.heap[b]? = some (.cells #[a0, a1, a2, a3, a4, a5, a6, a7, a8] T fz)) :
    (((w.setCell ⟨b, 0, none⟩ c0).setCell ⟨b, 1, none⟩ c1).setCell ⟨b, 2, none⟩ c2).heap[b]? = some (.cells #[c0, c1, c2, a3, a4, a5, a6, a7, a8] T fz) := (heap_set (j := 2) (heap_set (j := 1) (heap_set (j := 0) h c0) c1) c2)
theorem set9_at3 {w : World} {b : Nat} {a3 a4 a5 a6 a7 a8 c0 c1 c2 c3 c4 c5 : Value} {T : TypeId} {fz : Nat × Nat} (h : w.heap[b]? = some (.cells #[c0, c1, c2, a3, a4, a5, a6, a7, a8] T fz)) :
    (((w.setCell ⟨b, 3, none⟩ c3).setCell ⟨b, 4, none⟩ c4).setCell ⟨b, 5, none⟩ c5).heap[b]? = some (.cells #[c0, c1, c2, c3, c4, c5, a6, a7, a8] T fz) := (heap_set (j := 5) (heap_set (j := 4) (heap_set (j := 3) h c3) c4) c5)
theorem set9_at6 {w : World} {b : Nat} {a6 a7 a8 c0 c1 c2 c3 c4 c5 c6 c7 c8 : Value} {T : TypeId} {fz : Nat × Nat} (h : w.heap[b]? = some (.cells #[c0, c1, c2, c3, c4, c5, a6, a7, a8] T fz)) :
    (((w.setCell ⟨b, 6, none⟩ c6).setCell ⟨b, 7, none⟩ c7).setCell ⟨b, 8, none⟩ c8).heap[b]? = some (.cells #[c0, c1, c2, c3, c4, c5, c6, c7, c8] T fz) := (heap_set (j := 8) (heap_set (j := 7) (heap_set (j := 6) h c6) c7) c8)
def set9 (w : World) (b : Nat) (c0 c1 c2 c3 c4 c5 c6 c7 c8 : Value) : World := (((((((((w.setCell ⟨b, 0, none⟩ c0).setCell ⟨b, 1, none⟩ c1).setCell ⟨b, 2, none⟩ c2).setCell ⟨b, 3, none⟩ c3).setCell ⟨b, 4, none⟩ c4).setCell ⟨b, 5, none⟩ c5).setCell ⟨b, 6, none⟩ c6).setCell ⟨b, 7, none⟩ c7).setCell ⟨b, 8, none⟩ c8)
theorem set9_heap {w : World} {b : Nat} {cs : Array Value} {T : TypeId} {fz : Nat × Nat} (h : w.heap[b]? = some (.cells cs T fz)) (hs : cs.size = 9) (c0 c1 c2 c3 c4 c5 c6 c7 c8 : Value) :
    (set9 w b c0 c1 c2 c3 c4 c5 c6 c7 c8).heap[b]? = some (.cells #[c0, c1, c2, c3, c4, c5, c6, c7, c8] T fz) := by
  obtain ⟨l⟩ := cs
  match l, hs with
  | [a0, a1, a2, a3, a4, a5, a6, a7, a8], _ => exact (set9_at6 (set9_at3 (set9_at0 h)))
theorem G.set9 {B0 : Nat} {R : Option Nat} {a w : World} (h : G B0 R a w) (b : Nat) (c0 c1 c2 c3 c4 c5 c6 c7 c8 : Value) (hb : B0 ≤ b) : G B0 R a (set9 w b c0 c1 c2 c3 c4 c5 c6 c7 c8) :=
  (((((((((h.put b 0 c0 hb).put b 1 c1 hb).put b 2 c2 hb).put b 3 c3 hb).put b 4 c4 hb).put b 5 c5 hb).put b 6 c6 hb).put b 7 c7 hb).put b 8 c8 hb)
theorem set9_other (w : World) (b : Nat) (c0 c1 c2 c3 c4 c5 c6 c7 c8 : Value) (k : Nat) (hk : k ≠ b) : (set9 w b c0 c1 c2 c3 c4 c5 c6 c7 c8).heap[k]? = w.heap[k]? := by
  unfold set9
  rw [Below.heap_setCell _ _ _ _ hk, Below.heap_setCell _ _ _ _ hk, Below.heap_setCell _ _ _ _ hk, Below.heap_setCell _ _ _ _ hk, Below.heap_setCell _ _ _ _ hk, Below.heap_setCell _ _ _ _ hk, Below.heap_setCell _ _ _ _ hk, Below.heap_setCell _ _ _ _ hk, Below.heap_setCell _ _ _ _ hk]
theorem cells9 {w : World} {b : Nat} {c0 c1 c2 c3 c4 c5 c6 c7 c8 : Value} {T : TypeId} {fz : Nat × Nat} (h : w.heap[b]? = some (.cells #[c0, c1, c2, c3, c4, c5, c6, c7, c8] T fz)) :
    w.cell? ⟨b, 0, none⟩ = some c0 ∧ w.cell? ⟨b, 1, none⟩ = some c1 ∧ w.cell? ⟨b, 2, none⟩ = some c2 ∧ w.cell? ⟨b, 3, none⟩ = some c3 ∧ w.cell? ⟨b, 4, none⟩ = some c4 ∧ w.cell? ⟨b, 5, none⟩ = some c5 ∧ w.cell? ⟨b, 6, none⟩ = some c6 ∧ w.cell? ⟨b, 7, none⟩ = some c7 ∧ w.cell? ⟨b, 8, none⟩ = some c8 :=
  ⟨cell_heap h 0, cell_heap h 1, cell_heap h 2, cell_heap h 3, cell_heap h 4, cell_heap h 5, cell_heap h 6, cell_heap h 7, cell_heap h 8⟩
/-- A scan's value: the format, the bytes. -/
abbrev scan (f : Int) (B n cap : Nat) : Value := .agg #[.int .i64 f, .slice (some ⟨B, 0, none⟩) n cap]
/-- What stands at a place: kind, where the body begins, where it ends, how many, open, the text. -/
abbrev tok (k b z m : Int) (s : ByteArray) : Value := .agg #[.int .i64 k, .int .i64 b, .int .i64 z, .int .i64 m, .bool false, .string s]
abbrev zero6 : Obj := .cells #[.int .i64 0, .int .i64 0, .int .i64 0, .int .i64 0, .bool false, .string ByteArray.empty] 78 (0, 0)

set_option maxRecDepth 20000 in
set_option maxHeartbeats 800000 in
theorem cbor_text (B n cap : Nat) (L : List UInt8) (a t : Nat) (w : World) (hL : L.length = n) (h1 : a + 1 + t < n) (hn : n ≤ 1000000) (hcap : n ≤ cap) (hcap2 : cap ≤ 9223372036854775807) (ht : t < 24) (hB : BY w B L) (hc : byt L a = 96 + (t : Nat)) :
    Calls Tryz.prog 57 #[scan 2 B n cap, .int .i64 (a : Nat)] w fun e w' => e = .returned (tok 0 0 ((a : Int) + 1 + (t : Nat)) 0 (sub L (a + 1) t)) ∧ G w.heap.size none w w' := by
  have hBlt := hB.1
  have hb := hB.at_ (a : Nat) (by omega) (by omega)
  rw [hc] at hb
  have HL := Lib.hid hL
  have HX := Lib.hid (fun (w' : World) (g : G w.heap.size none w w') (c : Nat) => conv_sub (hB.g g hBlt (by simp)) (a + 1) t c (by omega))
  clear hB hc hL
  have HG := Lib.hid (((G.refl w.heap.size none w).alloc (.cells #[.int .i64 2, .slice (some ⟨B, 0, none⟩) n cap] 67) (Nat.le_refl _)).alloc zero6 (by simp))
  have HN0 := Lib.hid (show ((w.alloc (.cells #[.int .i64 2, .slice (some ⟨B, 0, none⟩) n cap] 67)).alloc zero6).heap[w.heap.size + 1]? = some zero6 by have h := heap_new (w.alloc (.cells #[.int .i64 2, .slice (some ⟨B, 0, none⟩) n cap] 67)) zero6; simpa using h)
  have HS0 := Lib.hid (show ((w.alloc (.cells #[.int .i64 2, .slice (some ⟨B, 0, none⟩) n cap] 67)).alloc zero6).heap[w.heap.size]? = some (.cells #[.int .i64 2, .slice (some ⟨B, 0, none⟩) n cap] 67 (0, 0)) from (Below.heap_alloc _ _ _ (by simp)).trans (heap_new w _))
  have Hb := Lib.hid ((HG.out.cell hBlt (by simp)).trans hb); clear hb
  go_enter Tryz.func57, Tryz.ntmps57
  go_wp2_with fail
  refine (cget_small B n cap (a : Nat) (96 + (t : Nat)) _ (by omega) (by omega) hn hcap hcap2 (by omega) (by omega) Hb.out).mono ?_
  rw [show ((96 + (t : Nat)) : Int) / 32 = 3 by omega, show ((96 + (t : Nat)) : Int) % 32 = (t : Nat) by omega]
  rintro e w1 ⟨rfl, q, rfl⟩
  have HG1 := Lib.hid (HG.out.drewN q)
  have HN := Lib.hid (show ((((w.alloc (.cells #[.int .i64 2, .slice (some ⟨B, 0, none⟩) n cap] 67)).alloc zero6).drewN q).heap[w.heap.size + 1]? = some zero6) from HN0.out)
  have hS := (show ((((w.alloc (.cells #[.int .i64 2, .slice (some ⟨B, 0, none⟩) n cap] 67)).alloc zero6).drewN q).heap[w.heap.size]? = some (.cells #[.int .i64 2, .slice (some ⟨B, 0, none⟩) n cap] 67 (0, 0))) from HS0.out)
  obtain ⟨s0, s1⟩ := cells2 hS
  have fs := fun i => froz_heap hS i
  obtain ⟨p0, p1, p2, p3, p4, p5⟩ := cells6 HN.out
  have fz := fun i => froz_heap HN.out i
  clear hS HN0 HS0 HG
  generalize ((w.alloc (.cells #[.int .i64 2, .slice (some ⟨B, 0, none⟩) n cap] 67)).alloc zero6).drewN q = W0 at *
  have hx := HX.out _ HG1.out (cap - (a + 1))
  go_wp2
  show bodyPost _ _ _ _ _ (set6 W0 (w.heap.size + 1) _ _ _ _ _ _)
  have hW := set6_heap HN.out rfl (.int .i64 0) (.int .i64 0) (.int .i64 ((a : Int) + 1 + (t : Nat))) (.int .i64 0) (.bool false) (.string (sub L (a + 1) t))
  have GW := HG1.out.set6 (w.heap.size + 1) (.int .i64 0) (.int .i64 0) (.int .i64 ((a : Int) + 1 + (t : Nat))) (.int .i64 0) (.bool false) (.string (sub L (a + 1) t)) (by omega)
  generalize set6 W0 (w.heap.size + 1) (.int .i64 0) (.int .i64 0) (.int .i64 ((a : Int) + 1 + (t : Nat))) (.int .i64 0) (.bool false) (.string (sub L (a + 1) t)) = W at *
  obtain ⟨x0, x1, x2, x3, x4, x5⟩ := cells6 hW
  exact bodyPost_ret (v := tok 0 0 ((a : Int) + 1 + (t : Nat)) 0 (sub L (a + 1) t)) (by simp [results, Tryz.results57, go_sem, x0, x1, x2, x3, x4, x5]) rfl ⟨rfl, GW⟩
set_option maxRecDepth 20000 in
set_option maxHeartbeats 800000 in
theorem cbor_null (B n cap : Nat) (L : List UInt8) (a : Nat) (w : World) (hL : L.length = n) (h1 : a < n) (hn : n ≤ 1000000) (hcap : n ≤ cap) (hcap2 : cap ≤ 9223372036854775807) (hB : BY w B L) (hc : byt L a = 246) :
    Calls Tryz.prog 57 #[scan 2 B n cap, .int .i64 (a : Nat)] w fun e w' => e = .returned (tok 0 0 ((a : Int) + 1) 0 ⟨#[]⟩) ∧ G w.heap.size none w w' := by
  have hBlt := hB.1
  have hb := hB.at_ (a : Nat) (by omega) (by omega)
  rw [hc] at hb
  have HL := Lib.hid hL
  clear hB hc hL
  have HG := Lib.hid (((G.refl w.heap.size none w).alloc (.cells #[.int .i64 2, .slice (some ⟨B, 0, none⟩) n cap] 67) (Nat.le_refl _)).alloc zero6 (by simp))
  have HN0 := Lib.hid (show ((w.alloc (.cells #[.int .i64 2, .slice (some ⟨B, 0, none⟩) n cap] 67)).alloc zero6).heap[w.heap.size + 1]? = some zero6 by have h := heap_new (w.alloc (.cells #[.int .i64 2, .slice (some ⟨B, 0, none⟩) n cap] 67)) zero6; simpa using h)
  have HS0 := Lib.hid (show ((w.alloc (.cells #[.int .i64 2, .slice (some ⟨B, 0, none⟩) n cap] 67)).alloc zero6).heap[w.heap.size]? = some (.cells #[.int .i64 2, .slice (some ⟨B, 0, none⟩) n cap] 67 (0, 0)) from (Below.heap_alloc _ _ _ (by simp)).trans (heap_new w _))
  have Hb := Lib.hid ((HG.out.cell hBlt (by simp)).trans hb); clear hb
  go_enter Tryz.func57, Tryz.ntmps57
  go_wp2_with fail
  refine (cget_small B n cap (a : Nat) (246) _ (by omega) (by omega) hn hcap hcap2 (by omega) (by omega) Hb.out).mono ?_
  rw [show ((246) : Int) / 32 = 7 by omega, show ((246) : Int) % 32 = 22 by omega]
  rintro e w1 ⟨rfl, q, rfl⟩
  have HG1 := Lib.hid (HG.out.drewN q)
  have HN := Lib.hid (show ((((w.alloc (.cells #[.int .i64 2, .slice (some ⟨B, 0, none⟩) n cap] 67)).alloc zero6).drewN q).heap[w.heap.size + 1]? = some zero6) from HN0.out)
  have hS := (show ((((w.alloc (.cells #[.int .i64 2, .slice (some ⟨B, 0, none⟩) n cap] 67)).alloc zero6).drewN q).heap[w.heap.size]? = some (.cells #[.int .i64 2, .slice (some ⟨B, 0, none⟩) n cap] 67 (0, 0))) from HS0.out)
  obtain ⟨s0, s1⟩ := cells2 hS
  have fs := fun i => froz_heap hS i
  obtain ⟨p0, p1, p2, p3, p4, p5⟩ := cells6 HN.out
  have fz := fun i => froz_heap HN.out i
  clear hS HN0 HS0 HG
  generalize ((w.alloc (.cells #[.int .i64 2, .slice (some ⟨B, 0, none⟩) n cap] 67)).alloc zero6).drewN q = W0 at *
  go_wp2
  show bodyPost _ _ _ _ _ (set6 W0 (w.heap.size + 1) _ _ _ _ _ _)
  have hW := set6_heap HN.out rfl (.int .i64 0) (.int .i64 0) (.int .i64 ((a : Int) + 1)) (.int .i64 0) (.bool false) (.string ⟨#[]⟩)
  have GW := HG1.out.set6 (w.heap.size + 1) (.int .i64 0) (.int .i64 0) (.int .i64 ((a : Int) + 1)) (.int .i64 0) (.bool false) (.string ⟨#[]⟩) (by omega)
  generalize set6 W0 (w.heap.size + 1) (.int .i64 0) (.int .i64 0) (.int .i64 ((a : Int) + 1)) (.int .i64 0) (.bool false) (.string ⟨#[]⟩) = W at *
  obtain ⟨x0, x1, x2, x3, x4, x5⟩ := cells6 hW
  exact bodyPost_ret (v := tok 0 0 ((a : Int) + 1) 0 ⟨#[]⟩) (by simp [results, Tryz.results57, go_sem, x0, x1, x2, x3, x4, x5]) rfl ⟨rfl, GW⟩
set_option maxRecDepth 20000 in
set_option maxHeartbeats 800000 in
theorem cbor_int (B n cap : Nat) (L : List UInt8) (a t : Nat) (w : World) (hL : L.length = n) (h1 : a < n) (hn : n ≤ 1000000) (hcap : n ≤ cap) (hcap2 : cap ≤ 9223372036854775807) (ht : t < 24) (hB : BY w B L) (hc : byt L a = ((t : Nat) : Int)) :
    Calls Tryz.prog 57 #[scan 2 B n cap, .int .i64 (a : Nat)] w fun e w' => e = .returned (tok 0 0 ((a : Int) + 1) 0 ⟨#[]⟩) ∧ G w.heap.size none w w' := by
  have hBlt := hB.1
  have hb := hB.at_ (a : Nat) (by omega) (by omega)
  rw [hc] at hb
  have HL := Lib.hid hL
  clear hB hc hL
  have HG := Lib.hid (((G.refl w.heap.size none w).alloc (.cells #[.int .i64 2, .slice (some ⟨B, 0, none⟩) n cap] 67) (Nat.le_refl _)).alloc zero6 (by simp))
  have HN0 := Lib.hid (show ((w.alloc (.cells #[.int .i64 2, .slice (some ⟨B, 0, none⟩) n cap] 67)).alloc zero6).heap[w.heap.size + 1]? = some zero6 by have h := heap_new (w.alloc (.cells #[.int .i64 2, .slice (some ⟨B, 0, none⟩) n cap] 67)) zero6; simpa using h)
  have HS0 := Lib.hid (show ((w.alloc (.cells #[.int .i64 2, .slice (some ⟨B, 0, none⟩) n cap] 67)).alloc zero6).heap[w.heap.size]? = some (.cells #[.int .i64 2, .slice (some ⟨B, 0, none⟩) n cap] 67 (0, 0)) from (Below.heap_alloc _ _ _ (by simp)).trans (heap_new w _))
  have Hb := Lib.hid ((HG.out.cell hBlt (by simp)).trans hb); clear hb
  go_enter Tryz.func57, Tryz.ntmps57
  go_wp2_with fail
  refine (cget_small B n cap (a : Nat) (((t : Nat) : Int)) _ (by omega) (by omega) hn hcap hcap2 (by omega) (by omega) Hb.out).mono ?_
  rw [show ((((t : Nat) : Int)) : Int) / 32 = 0 by omega, show ((((t : Nat) : Int)) : Int) % 32 = (t : Nat) by omega]
  rintro e w1 ⟨rfl, q, rfl⟩
  have HG1 := Lib.hid (HG.out.drewN q)
  have HN := Lib.hid (show ((((w.alloc (.cells #[.int .i64 2, .slice (some ⟨B, 0, none⟩) n cap] 67)).alloc zero6).drewN q).heap[w.heap.size + 1]? = some zero6) from HN0.out)
  have hS := (show ((((w.alloc (.cells #[.int .i64 2, .slice (some ⟨B, 0, none⟩) n cap] 67)).alloc zero6).drewN q).heap[w.heap.size]? = some (.cells #[.int .i64 2, .slice (some ⟨B, 0, none⟩) n cap] 67 (0, 0))) from HS0.out)
  obtain ⟨s0, s1⟩ := cells2 hS
  have fs := fun i => froz_heap hS i
  obtain ⟨p0, p1, p2, p3, p4, p5⟩ := cells6 HN.out
  have fz := fun i => froz_heap HN.out i
  clear hS HN0 HS0 HG
  generalize ((w.alloc (.cells #[.int .i64 2, .slice (some ⟨B, 0, none⟩) n cap] 67)).alloc zero6).drewN q = W0 at *
  have m1 : ((t : Int) == 31) = false := by rw [beq_eq_false_iff_ne]; omega
  go_wp2
  show bodyPost _ _ _ _ _ (set6 W0 (w.heap.size + 1) _ _ _ _ _ _)
  have hW := set6_heap HN.out rfl (.int .i64 0) (.int .i64 0) (.int .i64 ((a : Int) + 1)) (.int .i64 0) (.bool false) (.string ⟨#[]⟩)
  have GW := HG1.out.set6 (w.heap.size + 1) (.int .i64 0) (.int .i64 0) (.int .i64 ((a : Int) + 1)) (.int .i64 0) (.bool false) (.string ⟨#[]⟩) (by omega)
  generalize set6 W0 (w.heap.size + 1) (.int .i64 0) (.int .i64 0) (.int .i64 ((a : Int) + 1)) (.int .i64 0) (.bool false) (.string ⟨#[]⟩) = W at *
  obtain ⟨x0, x1, x2, x3, x4, x5⟩ := cells6 hW
  exact bodyPost_ret (v := tok 0 0 ((a : Int) + 1) 0 ⟨#[]⟩) (by simp [results, Tryz.results57, go_sem, x0, x1, x2, x3, x4, x5]) rfl ⟨rfl, GW⟩
set_option maxRecDepth 20000 in
set_option maxHeartbeats 800000 in
theorem cbor_map (B n cap : Nat) (L : List UInt8) (a t : Nat) (w : World) (hL : L.length = n) (h1 : a < n) (hn : n ≤ 1000000) (hcap : n ≤ cap) (hcap2 : cap ≤ 9223372036854775807) (ht : t < 24) (hB : BY w B L) (hc : byt L a = 160 + (t : Nat)) :
    Calls Tryz.prog 57 #[scan 2 B n cap, .int .i64 (a : Nat)] w fun e w' => e = .returned (tok 7 ((a : Int) + 1) 0 (t : Nat) ⟨#[]⟩) ∧ G w.heap.size none w w' := by
  have hBlt := hB.1
  have hb := hB.at_ (a : Nat) (by omega) (by omega)
  rw [hc] at hb
  have HL := Lib.hid hL
  clear hB hc hL
  have HG := Lib.hid (((G.refl w.heap.size none w).alloc (.cells #[.int .i64 2, .slice (some ⟨B, 0, none⟩) n cap] 67) (Nat.le_refl _)).alloc zero6 (by simp))
  have HN0 := Lib.hid (show ((w.alloc (.cells #[.int .i64 2, .slice (some ⟨B, 0, none⟩) n cap] 67)).alloc zero6).heap[w.heap.size + 1]? = some zero6 by have h := heap_new (w.alloc (.cells #[.int .i64 2, .slice (some ⟨B, 0, none⟩) n cap] 67)) zero6; simpa using h)
  have HS0 := Lib.hid (show ((w.alloc (.cells #[.int .i64 2, .slice (some ⟨B, 0, none⟩) n cap] 67)).alloc zero6).heap[w.heap.size]? = some (.cells #[.int .i64 2, .slice (some ⟨B, 0, none⟩) n cap] 67 (0, 0)) from (Below.heap_alloc _ _ _ (by simp)).trans (heap_new w _))
  have Hb := Lib.hid ((HG.out.cell hBlt (by simp)).trans hb); clear hb
  go_enter Tryz.func57, Tryz.ntmps57
  go_wp2_with fail
  refine (cget_small B n cap (a : Nat) (160 + (t : Nat)) _ (by omega) (by omega) hn hcap hcap2 (by omega) (by omega) Hb.out).mono ?_
  rw [show ((160 + (t : Nat)) : Int) / 32 = 5 by omega, show ((160 + (t : Nat)) : Int) % 32 = (t : Nat) by omega]
  rintro e w1 ⟨rfl, q, rfl⟩
  have HG1 := Lib.hid (HG.out.drewN q)
  have HN := Lib.hid (show ((((w.alloc (.cells #[.int .i64 2, .slice (some ⟨B, 0, none⟩) n cap] 67)).alloc zero6).drewN q).heap[w.heap.size + 1]? = some zero6) from HN0.out)
  have hS := (show ((((w.alloc (.cells #[.int .i64 2, .slice (some ⟨B, 0, none⟩) n cap] 67)).alloc zero6).drewN q).heap[w.heap.size]? = some (.cells #[.int .i64 2, .slice (some ⟨B, 0, none⟩) n cap] 67 (0, 0))) from HS0.out)
  obtain ⟨s0, s1⟩ := cells2 hS
  have fs := fun i => froz_heap hS i
  obtain ⟨p0, p1, p2, p3, p4, p5⟩ := cells6 HN.out
  have fz := fun i => froz_heap HN.out i
  clear hS HN0 HS0 HG
  generalize ((w.alloc (.cells #[.int .i64 2, .slice (some ⟨B, 0, none⟩) n cap] 67)).alloc zero6).drewN q = W0 at *
  have m1 : ((t : Int) == 31) = false := by rw [beq_eq_false_iff_ne]; omega
  go_wp2
  show bodyPost _ _ _ _ _ (set6 W0 (w.heap.size + 1) _ _ _ _ _ _)
  have hW := set6_heap HN.out rfl (.int .i64 7) (.int .i64 ((a : Int) + 1)) (.int .i64 0) (.int .i64 (t : Nat)) (.bool false) (.string ⟨#[]⟩)
  have GW := HG1.out.set6 (w.heap.size + 1) (.int .i64 7) (.int .i64 ((a : Int) + 1)) (.int .i64 0) (.int .i64 (t : Nat)) (.bool false) (.string ⟨#[]⟩) (by omega)
  generalize set6 W0 (w.heap.size + 1) (.int .i64 7) (.int .i64 ((a : Int) + 1)) (.int .i64 0) (.int .i64 (t : Nat)) (.bool false) (.string ⟨#[]⟩) = W at *
  obtain ⟨x0, x1, x2, x3, x4, x5⟩ := cells6 hW
  exact bodyPost_ret (v := tok 7 ((a : Int) + 1) 0 (t : Nat) ⟨#[]⟩) (by simp [results, Tryz.results57, go_sem, x0, x1, x2, x3, x4, x5]) rfl ⟨rfl, GW⟩
set_option maxRecDepth 20000 in
set_option maxHeartbeats 800000 in
theorem cbor_arr (B n cap : Nat) (L : List UInt8) (a t : Nat) (w : World) (hL : L.length = n) (h1 : a < n) (hn : n ≤ 1000000) (hcap : n ≤ cap) (hcap2 : cap ≤ 9223372036854775807) (ht : t < 24) (hB : BY w B L) (hc : byt L a = 128 + (t : Nat)) :
    Calls Tryz.prog 57 #[scan 2 B n cap, .int .i64 (a : Nat)] w fun e w' => e = .returned (tok 6 ((a : Int) + 1) 0 (t : Nat) ⟨#[]⟩) ∧ G w.heap.size none w w' := by
  have hBlt := hB.1
  have hb := hB.at_ (a : Nat) (by omega) (by omega)
  rw [hc] at hb
  have HL := Lib.hid hL
  clear hB hc hL
  have HG := Lib.hid (((G.refl w.heap.size none w).alloc (.cells #[.int .i64 2, .slice (some ⟨B, 0, none⟩) n cap] 67) (Nat.le_refl _)).alloc zero6 (by simp))
  have HN0 := Lib.hid (show ((w.alloc (.cells #[.int .i64 2, .slice (some ⟨B, 0, none⟩) n cap] 67)).alloc zero6).heap[w.heap.size + 1]? = some zero6 by have h := heap_new (w.alloc (.cells #[.int .i64 2, .slice (some ⟨B, 0, none⟩) n cap] 67)) zero6; simpa using h)
  have HS0 := Lib.hid (show ((w.alloc (.cells #[.int .i64 2, .slice (some ⟨B, 0, none⟩) n cap] 67)).alloc zero6).heap[w.heap.size]? = some (.cells #[.int .i64 2, .slice (some ⟨B, 0, none⟩) n cap] 67 (0, 0)) from (Below.heap_alloc _ _ _ (by simp)).trans (heap_new w _))
  have Hb := Lib.hid ((HG.out.cell hBlt (by simp)).trans hb); clear hb
  go_enter Tryz.func57, Tryz.ntmps57
  go_wp2_with fail
  refine (cget_small B n cap (a : Nat) (128 + (t : Nat)) _ (by omega) (by omega) hn hcap hcap2 (by omega) (by omega) Hb.out).mono ?_
  rw [show ((128 + (t : Nat)) : Int) / 32 = 4 by omega, show ((128 + (t : Nat)) : Int) % 32 = (t : Nat) by omega]
  rintro e w1 ⟨rfl, q, rfl⟩
  have HG1 := Lib.hid (HG.out.drewN q)
  have HN := Lib.hid (show ((((w.alloc (.cells #[.int .i64 2, .slice (some ⟨B, 0, none⟩) n cap] 67)).alloc zero6).drewN q).heap[w.heap.size + 1]? = some zero6) from HN0.out)
  have hS := (show ((((w.alloc (.cells #[.int .i64 2, .slice (some ⟨B, 0, none⟩) n cap] 67)).alloc zero6).drewN q).heap[w.heap.size]? = some (.cells #[.int .i64 2, .slice (some ⟨B, 0, none⟩) n cap] 67 (0, 0))) from HS0.out)
  obtain ⟨s0, s1⟩ := cells2 hS
  have fs := fun i => froz_heap hS i
  obtain ⟨p0, p1, p2, p3, p4, p5⟩ := cells6 HN.out
  have fz := fun i => froz_heap HN.out i
  clear hS HN0 HS0 HG
  generalize ((w.alloc (.cells #[.int .i64 2, .slice (some ⟨B, 0, none⟩) n cap] 67)).alloc zero6).drewN q = W0 at *
  have m1 : ((t : Int) == 31) = false := by rw [beq_eq_false_iff_ne]; omega
  go_wp2
  show bodyPost _ _ _ _ _ (set6 W0 (w.heap.size + 1) _ _ _ _ _ _)
  have hW := set6_heap HN.out rfl (.int .i64 6) (.int .i64 ((a : Int) + 1)) (.int .i64 0) (.int .i64 (t : Nat)) (.bool false) (.string ⟨#[]⟩)
  have GW := HG1.out.set6 (w.heap.size + 1) (.int .i64 6) (.int .i64 ((a : Int) + 1)) (.int .i64 0) (.int .i64 (t : Nat)) (.bool false) (.string ⟨#[]⟩) (by omega)
  generalize set6 W0 (w.heap.size + 1) (.int .i64 6) (.int .i64 ((a : Int) + 1)) (.int .i64 0) (.int .i64 (t : Nat)) (.bool false) (.string ⟨#[]⟩) = W at *
  obtain ⟨x0, x1, x2, x3, x4, x5⟩ := cells6 hW
  exact bodyPost_ret (v := tok 6 ((a : Int) + 1) 0 (t : Nat) ⟨#[]⟩) (by simp [results, Tryz.results57, go_sem, x0, x1, x2, x3, x4, x5]) rfl ⟨rfl, GW⟩
set_option maxRecDepth 20000 in
set_option maxHeartbeats 800000 in
theorem pack_text (B n cap : Nat) (L : List UInt8) (a t : Nat) (w : World) (hL : L.length = n) (h1 : a + 1 + t < n) (hn : n ≤ 1000000) (hcap : n ≤ cap) (hcap2 : cap ≤ 9223372036854775807) (ht : t < 32) (hB : BY w B L) (hc : byt L a = 160 + (t : Nat)) :
    Calls Tryz.prog 58 #[scan 3 B n cap, .int .i64 (a : Nat)] w fun e w' => e = .returned (tok 0 0 ((a : Int) + 1 + (t : Nat)) 0 (sub L (a + 1) t)) ∧ G w.heap.size none w w' := by
  have hBlt := hB.1
  have hb := hB.at_ (a : Nat) (by omega) (by omega)
  rw [hc] at hb
  have HL := Lib.hid hL
  have HX := Lib.hid (fun (w' : World) (g : G w.heap.size none w w') (c : Nat) => conv_sub (hB.g g hBlt (by simp)) (a + 1) t c (by omega))
  clear hB hc hL
  have HG := Lib.hid (((G.refl w.heap.size none w).alloc (.cells #[.int .i64 3, .slice (some ⟨B, 0, none⟩) n cap] 67) (Nat.le_refl _)).alloc zero6 (by simp))
  have HN0 := Lib.hid (show ((w.alloc (.cells #[.int .i64 3, .slice (some ⟨B, 0, none⟩) n cap] 67)).alloc zero6).heap[w.heap.size + 1]? = some zero6 by have h := heap_new (w.alloc (.cells #[.int .i64 3, .slice (some ⟨B, 0, none⟩) n cap] 67)) zero6; simpa using h)
  have HS0 := Lib.hid (show ((w.alloc (.cells #[.int .i64 3, .slice (some ⟨B, 0, none⟩) n cap] 67)).alloc zero6).heap[w.heap.size]? = some (.cells #[.int .i64 3, .slice (some ⟨B, 0, none⟩) n cap] 67 (0, 0)) from (Below.heap_alloc _ _ _ (by simp)).trans (heap_new w _))
  have Hb := Lib.hid ((HG.out.cell hBlt (by simp)).trans hb); clear hb
  go_enter Tryz.func58, Tryz.ntmps58
  go_wp2_with fail
  refine (mget_ok B n cap (a : Nat) (160 + (t : Nat)) 7 (t : Nat) _ (by omega) (by omega) hn hcap hcap2 (by simp; omega) (by unfold Hd; omega) Hb.out).mono ?_
  rintro e w1 ⟨rfl, hg1⟩
  have HG1 := Lib.hid (HG.out.trans (hg1.mono HG.out.size))
  have HN := Lib.hid ((hg1.block _ (by simp) (by simp)).trans HN0.out)
  have hS := (hg1.block _ (by simp; omega) (by simp)).trans HS0.out
  clear hg1
  obtain ⟨s0, s1⟩ := cells2 hS
  have fs := fun i => froz_heap hS i
  obtain ⟨p0, p1, p2, p3, p4, p5⟩ := cells6 HN.out
  have fz := fun i => froz_heap HN.out i
  clear hS HN0 HS0 HG
  generalize w1 = W0 at *
  have hx := HX.out _ HG1.out (cap - (a + 1))
  go_wp2
  show bodyPost _ _ _ _ _ (set6 W0 (w.heap.size + 1) _ _ _ _ _ _)
  have hW := set6_heap HN.out rfl (.int .i64 0) (.int .i64 0) (.int .i64 ((a : Int) + 1 + (t : Nat))) (.int .i64 0) (.bool false) (.string (sub L (a + 1) t))
  have GW := HG1.out.set6 (w.heap.size + 1) (.int .i64 0) (.int .i64 0) (.int .i64 ((a : Int) + 1 + (t : Nat))) (.int .i64 0) (.bool false) (.string (sub L (a + 1) t)) (by omega)
  generalize set6 W0 (w.heap.size + 1) (.int .i64 0) (.int .i64 0) (.int .i64 ((a : Int) + 1 + (t : Nat))) (.int .i64 0) (.bool false) (.string (sub L (a + 1) t)) = W at *
  obtain ⟨x0, x1, x2, x3, x4, x5⟩ := cells6 hW
  exact bodyPost_ret (v := tok 0 0 ((a : Int) + 1 + (t : Nat)) 0 (sub L (a + 1) t)) (by simp [results, Tryz.results58, go_sem, x0, x1, x2, x3, x4, x5]) rfl ⟨rfl, GW⟩
set_option maxRecDepth 20000 in
set_option maxHeartbeats 800000 in
theorem pack_nil (B n cap : Nat) (L : List UInt8) (a : Nat) (w : World) (hL : L.length = n) (h1 : a < n) (hn : n ≤ 1000000) (hcap : n ≤ cap) (hcap2 : cap ≤ 9223372036854775807) (hB : BY w B L) (hc : byt L a = 192) :
    Calls Tryz.prog 58 #[scan 3 B n cap, .int .i64 (a : Nat)] w fun e w' => e = .returned (tok 0 0 ((a : Int) + 1) 0 ⟨#[]⟩) ∧ G w.heap.size none w w' := by
  have hBlt := hB.1
  have hb := hB.at_ (a : Nat) (by omega) (by omega)
  rw [hc] at hb
  have HL := Lib.hid hL
  clear hB hc hL
  have HG := Lib.hid (((G.refl w.heap.size none w).alloc (.cells #[.int .i64 3, .slice (some ⟨B, 0, none⟩) n cap] 67) (Nat.le_refl _)).alloc zero6 (by simp))
  have HN0 := Lib.hid (show ((w.alloc (.cells #[.int .i64 3, .slice (some ⟨B, 0, none⟩) n cap] 67)).alloc zero6).heap[w.heap.size + 1]? = some zero6 by have h := heap_new (w.alloc (.cells #[.int .i64 3, .slice (some ⟨B, 0, none⟩) n cap] 67)) zero6; simpa using h)
  have HS0 := Lib.hid (show ((w.alloc (.cells #[.int .i64 3, .slice (some ⟨B, 0, none⟩) n cap] 67)).alloc zero6).heap[w.heap.size]? = some (.cells #[.int .i64 3, .slice (some ⟨B, 0, none⟩) n cap] 67 (0, 0)) from (Below.heap_alloc _ _ _ (by simp)).trans (heap_new w _))
  have Hb := Lib.hid ((HG.out.cell hBlt (by simp)).trans hb); clear hb
  go_enter Tryz.func58, Tryz.ntmps58
  go_wp2_with fail
  refine (mget_ok B n cap (a : Nat) (192) 1 0 _ (by omega) (by omega) hn hcap hcap2 (by simp; omega) (by unfold Hd; omega) Hb.out).mono ?_
  rintro e w1 ⟨rfl, hg1⟩
  have HG1 := Lib.hid (HG.out.trans (hg1.mono HG.out.size))
  have HN := Lib.hid ((hg1.block _ (by simp) (by simp)).trans HN0.out)
  have hS := (hg1.block _ (by simp; omega) (by simp)).trans HS0.out
  clear hg1
  obtain ⟨s0, s1⟩ := cells2 hS
  have fs := fun i => froz_heap hS i
  obtain ⟨p0, p1, p2, p3, p4, p5⟩ := cells6 HN.out
  have fz := fun i => froz_heap HN.out i
  clear hS HN0 HS0 HG
  generalize w1 = W0 at *
  go_wp2
  show bodyPost _ _ _ _ _ (set6 W0 (w.heap.size + 1) _ _ _ _ _ _)
  have hW := set6_heap HN.out rfl (.int .i64 0) (.int .i64 0) (.int .i64 ((a : Int) + 1)) (.int .i64 0) (.bool false) (.string ⟨#[]⟩)
  have GW := HG1.out.set6 (w.heap.size + 1) (.int .i64 0) (.int .i64 0) (.int .i64 ((a : Int) + 1)) (.int .i64 0) (.bool false) (.string ⟨#[]⟩) (by omega)
  generalize set6 W0 (w.heap.size + 1) (.int .i64 0) (.int .i64 0) (.int .i64 ((a : Int) + 1)) (.int .i64 0) (.bool false) (.string ⟨#[]⟩) = W at *
  obtain ⟨x0, x1, x2, x3, x4, x5⟩ := cells6 hW
  exact bodyPost_ret (v := tok 0 0 ((a : Int) + 1) 0 ⟨#[]⟩) (by simp [results, Tryz.results58, go_sem, x0, x1, x2, x3, x4, x5]) rfl ⟨rfl, GW⟩
set_option maxRecDepth 20000 in
set_option maxHeartbeats 800000 in
theorem pack_int (B n cap : Nat) (L : List UInt8) (a t : Nat) (w : World) (hL : L.length = n) (h1 : a < n) (hn : n ≤ 1000000) (hcap : n ≤ cap) (hcap2 : cap ≤ 9223372036854775807) (ht : t < 128) (hB : BY w B L) (hc : byt L a = ((t : Nat) : Int)) :
    Calls Tryz.prog 58 #[scan 3 B n cap, .int .i64 (a : Nat)] w fun e w' => e = .returned (tok 0 0 ((a : Int) + 1) 0 ⟨#[]⟩) ∧ G w.heap.size none w w' := by
  have hBlt := hB.1
  have hb := hB.at_ (a : Nat) (by omega) (by omega)
  rw [hc] at hb
  have HL := Lib.hid hL
  clear hB hc hL
  have HG := Lib.hid (((G.refl w.heap.size none w).alloc (.cells #[.int .i64 3, .slice (some ⟨B, 0, none⟩) n cap] 67) (Nat.le_refl _)).alloc zero6 (by simp))
  have HN0 := Lib.hid (show ((w.alloc (.cells #[.int .i64 3, .slice (some ⟨B, 0, none⟩) n cap] 67)).alloc zero6).heap[w.heap.size + 1]? = some zero6 by have h := heap_new (w.alloc (.cells #[.int .i64 3, .slice (some ⟨B, 0, none⟩) n cap] 67)) zero6; simpa using h)
  have HS0 := Lib.hid (show ((w.alloc (.cells #[.int .i64 3, .slice (some ⟨B, 0, none⟩) n cap] 67)).alloc zero6).heap[w.heap.size]? = some (.cells #[.int .i64 3, .slice (some ⟨B, 0, none⟩) n cap] 67 (0, 0)) from (Below.heap_alloc _ _ _ (by simp)).trans (heap_new w _))
  have Hb := Lib.hid ((HG.out.cell hBlt (by simp)).trans hb); clear hb
  go_enter Tryz.func58, Tryz.ntmps58
  go_wp2_with fail
  refine (mget_ok B n cap (a : Nat) (((t : Nat) : Int)) 4 (t : Nat) _ (by omega) (by omega) hn hcap hcap2 (by simp; omega) (by unfold Hd; omega) Hb.out).mono ?_
  rintro e w1 ⟨rfl, hg1⟩
  have HG1 := Lib.hid (HG.out.trans (hg1.mono HG.out.size))
  have HN := Lib.hid ((hg1.block _ (by simp) (by simp)).trans HN0.out)
  have hS := (hg1.block _ (by simp; omega) (by simp)).trans HS0.out
  clear hg1
  obtain ⟨s0, s1⟩ := cells2 hS
  have fs := fun i => froz_heap hS i
  obtain ⟨p0, p1, p2, p3, p4, p5⟩ := cells6 HN.out
  have fz := fun i => froz_heap HN.out i
  clear hS HN0 HS0 HG
  generalize w1 = W0 at *
  go_wp2
  show bodyPost _ _ _ _ _ (set6 W0 (w.heap.size + 1) _ _ _ _ _ _)
  have hW := set6_heap HN.out rfl (.int .i64 0) (.int .i64 0) (.int .i64 ((a : Int) + 1)) (.int .i64 0) (.bool false) (.string ⟨#[]⟩)
  have GW := HG1.out.set6 (w.heap.size + 1) (.int .i64 0) (.int .i64 0) (.int .i64 ((a : Int) + 1)) (.int .i64 0) (.bool false) (.string ⟨#[]⟩) (by omega)
  generalize set6 W0 (w.heap.size + 1) (.int .i64 0) (.int .i64 0) (.int .i64 ((a : Int) + 1)) (.int .i64 0) (.bool false) (.string ⟨#[]⟩) = W at *
  obtain ⟨x0, x1, x2, x3, x4, x5⟩ := cells6 hW
  exact bodyPost_ret (v := tok 0 0 ((a : Int) + 1) 0 ⟨#[]⟩) (by simp [results, Tryz.results58, go_sem, x0, x1, x2, x3, x4, x5]) rfl ⟨rfl, GW⟩
set_option maxRecDepth 20000 in
set_option maxHeartbeats 800000 in
theorem pack_map (B n cap : Nat) (L : List UInt8) (a t : Nat) (w : World) (hL : L.length = n) (h1 : a < n) (hn : n ≤ 1000000) (hcap : n ≤ cap) (hcap2 : cap ≤ 9223372036854775807) (ht : t < 16) (hB : BY w B L) (hc : byt L a = 128 + (t : Nat)) :
    Calls Tryz.prog 58 #[scan 3 B n cap, .int .i64 (a : Nat)] w fun e w' => e = .returned (tok 7 ((a : Int) + 1) 0 (t : Nat) ⟨#[]⟩) ∧ G w.heap.size none w w' := by
  have hBlt := hB.1
  have hb := hB.at_ (a : Nat) (by omega) (by omega)
  rw [hc] at hb
  have HL := Lib.hid hL
  clear hB hc hL
  have HG := Lib.hid (((G.refl w.heap.size none w).alloc (.cells #[.int .i64 3, .slice (some ⟨B, 0, none⟩) n cap] 67) (Nat.le_refl _)).alloc zero6 (by simp))
  have HN0 := Lib.hid (show ((w.alloc (.cells #[.int .i64 3, .slice (some ⟨B, 0, none⟩) n cap] 67)).alloc zero6).heap[w.heap.size + 1]? = some zero6 by have h := heap_new (w.alloc (.cells #[.int .i64 3, .slice (some ⟨B, 0, none⟩) n cap] 67)) zero6; simpa using h)
  have HS0 := Lib.hid (show ((w.alloc (.cells #[.int .i64 3, .slice (some ⟨B, 0, none⟩) n cap] 67)).alloc zero6).heap[w.heap.size]? = some (.cells #[.int .i64 3, .slice (some ⟨B, 0, none⟩) n cap] 67 (0, 0)) from (Below.heap_alloc _ _ _ (by simp)).trans (heap_new w _))
  have Hb := Lib.hid ((HG.out.cell hBlt (by simp)).trans hb); clear hb
  go_enter Tryz.func58, Tryz.ntmps58
  go_wp2_with fail
  refine (mget_ok B n cap (a : Nat) (128 + (t : Nat)) 10 (t : Nat) _ (by omega) (by omega) hn hcap hcap2 (by simp; omega) (by unfold Hd; omega) Hb.out).mono ?_
  rintro e w1 ⟨rfl, hg1⟩
  have HG1 := Lib.hid (HG.out.trans (hg1.mono HG.out.size))
  have HN := Lib.hid ((hg1.block _ (by simp) (by simp)).trans HN0.out)
  have hS := (hg1.block _ (by simp; omega) (by simp)).trans HS0.out
  clear hg1
  obtain ⟨s0, s1⟩ := cells2 hS
  have fs := fun i => froz_heap hS i
  obtain ⟨p0, p1, p2, p3, p4, p5⟩ := cells6 HN.out
  have fz := fun i => froz_heap HN.out i
  clear hS HN0 HS0 HG
  generalize w1 = W0 at *
  go_wp2
  show bodyPost _ _ _ _ _ (set6 W0 (w.heap.size + 1) _ _ _ _ _ _)
  have hW := set6_heap HN.out rfl (.int .i64 7) (.int .i64 ((a : Int) + 1)) (.int .i64 0) (.int .i64 (t : Nat)) (.bool false) (.string ⟨#[]⟩)
  have GW := HG1.out.set6 (w.heap.size + 1) (.int .i64 7) (.int .i64 ((a : Int) + 1)) (.int .i64 0) (.int .i64 (t : Nat)) (.bool false) (.string ⟨#[]⟩) (by omega)
  generalize set6 W0 (w.heap.size + 1) (.int .i64 7) (.int .i64 ((a : Int) + 1)) (.int .i64 0) (.int .i64 (t : Nat)) (.bool false) (.string ⟨#[]⟩) = W at *
  obtain ⟨x0, x1, x2, x3, x4, x5⟩ := cells6 hW
  exact bodyPost_ret (v := tok 7 ((a : Int) + 1) 0 (t : Nat) ⟨#[]⟩) (by simp [results, Tryz.results58, go_sem, x0, x1, x2, x3, x4, x5]) rfl ⟨rfl, GW⟩
set_option maxRecDepth 20000 in
set_option maxHeartbeats 800000 in
theorem pack_arr (B n cap : Nat) (L : List UInt8) (a t : Nat) (w : World) (hL : L.length = n) (h1 : a < n) (hn : n ≤ 1000000) (hcap : n ≤ cap) (hcap2 : cap ≤ 9223372036854775807) (ht : t < 16) (hB : BY w B L) (hc : byt L a = 144 + (t : Nat)) :
    Calls Tryz.prog 58 #[scan 3 B n cap, .int .i64 (a : Nat)] w fun e w' => e = .returned (tok 6 ((a : Int) + 1) 0 (t : Nat) ⟨#[]⟩) ∧ G w.heap.size none w w' := by
  have hBlt := hB.1
  have hb := hB.at_ (a : Nat) (by omega) (by omega)
  rw [hc] at hb
  have HL := Lib.hid hL
  clear hB hc hL
  have HG := Lib.hid (((G.refl w.heap.size none w).alloc (.cells #[.int .i64 3, .slice (some ⟨B, 0, none⟩) n cap] 67) (Nat.le_refl _)).alloc zero6 (by simp))
  have HN0 := Lib.hid (show ((w.alloc (.cells #[.int .i64 3, .slice (some ⟨B, 0, none⟩) n cap] 67)).alloc zero6).heap[w.heap.size + 1]? = some zero6 by have h := heap_new (w.alloc (.cells #[.int .i64 3, .slice (some ⟨B, 0, none⟩) n cap] 67)) zero6; simpa using h)
  have HS0 := Lib.hid (show ((w.alloc (.cells #[.int .i64 3, .slice (some ⟨B, 0, none⟩) n cap] 67)).alloc zero6).heap[w.heap.size]? = some (.cells #[.int .i64 3, .slice (some ⟨B, 0, none⟩) n cap] 67 (0, 0)) from (Below.heap_alloc _ _ _ (by simp)).trans (heap_new w _))
  have Hb := Lib.hid ((HG.out.cell hBlt (by simp)).trans hb); clear hb
  go_enter Tryz.func58, Tryz.ntmps58
  go_wp2_with fail
  refine (mget_ok B n cap (a : Nat) (144 + (t : Nat)) 9 (t : Nat) _ (by omega) (by omega) hn hcap hcap2 (by simp; omega) (by unfold Hd; omega) Hb.out).mono ?_
  rintro e w1 ⟨rfl, hg1⟩
  have HG1 := Lib.hid (HG.out.trans (hg1.mono HG.out.size))
  have HN := Lib.hid ((hg1.block _ (by simp) (by simp)).trans HN0.out)
  have hS := (hg1.block _ (by simp; omega) (by simp)).trans HS0.out
  clear hg1
  obtain ⟨s0, s1⟩ := cells2 hS
  have fs := fun i => froz_heap hS i
  obtain ⟨p0, p1, p2, p3, p4, p5⟩ := cells6 HN.out
  have fz := fun i => froz_heap HN.out i
  clear hS HN0 HS0 HG
  generalize w1 = W0 at *
  go_wp2
  show bodyPost _ _ _ _ _ (set6 W0 (w.heap.size + 1) _ _ _ _ _ _)
  have hW := set6_heap HN.out rfl (.int .i64 6) (.int .i64 ((a : Int) + 1)) (.int .i64 0) (.int .i64 (t : Nat)) (.bool false) (.string ⟨#[]⟩)
  have GW := HG1.out.set6 (w.heap.size + 1) (.int .i64 6) (.int .i64 ((a : Int) + 1)) (.int .i64 0) (.int .i64 (t : Nat)) (.bool false) (.string ⟨#[]⟩) (by omega)
  generalize set6 W0 (w.heap.size + 1) (.int .i64 6) (.int .i64 ((a : Int) + 1)) (.int .i64 0) (.int .i64 (t : Nat)) (.bool false) (.string ⟨#[]⟩) = W at *
  obtain ⟨x0, x1, x2, x3, x4, x5⟩ := cells6 hW
  exact bodyPost_ret (v := tok 6 ((a : Int) + 1) 0 (t : Nat) ⟨#[]⟩) (by simp [results, Tryz.results58, go_sem, x0, x1, x2, x3, x4, x5]) rfl ⟨rfl, GW⟩
end Go.Proofs.YtcfjiaogdmjlbaaGreat
