/- Walks of the reference's fields, walk and Check over an object of nulls. -/
import Derived.Test.YtcfjiaogdmjlbaaGreatF2
namespace Go.Proofs.YtcfjiaogdmjlbaaGreat
open Go.RowKit
theorem cells8' {w : World} {b : Nat} {c0 c1 c2 c3 c4 c5 c6 c7 : Value} {T : TypeId} {fz : Nat × Nat} (h : w.heap[b]? = some (.cells #[c0, c1, c2, c3, c4, c5, c6, c7] T fz)) :
    w.cell? ⟨b, 0, none⟩ = some c0 ∧ w.cell? ⟨b, 1, none⟩ = some c1 ∧ w.cell? ⟨b, 2, none⟩ = some c2 ∧ w.cell? ⟨b, 3, none⟩ = some c3 ∧ w.cell? ⟨b, 4, none⟩ = some c4 ∧ w.cell? ⟨b, 5, none⟩ = some c5 ∧ w.cell? ⟨b, 6, none⟩ = some c6 ∧ w.cell? ⟨b, 7, none⟩ = some c7 :=
  ⟨cell_heap h 0, cell_heap h 1, cell_heap h 2, cell_heap h 3, cell_heap h 4, cell_heap h 5, cell_heap h 6, cell_heap h 7⟩
/-- A tree's eight cells, of which only the kind, the names and the values are more than zero. -/
abbrev tre (kd : Int) (vK vV : Value) : Value := .agg #[.int .i64 kd, .bool false, .bool false, .slice none 0 0, .int .i64 0, .string ⟨#[]⟩, vK, vV]
abbrev treO (kd : Int) (vK vV : Value) : Obj := .cells #[.int .i64 kd, .bool false, .bool false, .slice none 0 0, .int .i64 0, .string ⟨#[]⟩, vK, vV] 30
set_option maxRecDepth 20000 in
set_option maxHeartbeats 1000000 in
theorem fields_null (w : World) : Calls Tryz.prog 90 #[tre 1 (.slice none 0 0) (.slice none 0 0)] w fun e w' => e = .returned (.bool true) ∧ G w.heap.size none w w' := by
  have HZ := Lib.hid (zero_num (w.alloc (treO 1 (.slice none 0 0) (.slice none 0 0))))
  go_enter Tryz.func90, Tryz.ntmps90
  go_wp2_with fail
  refine HZ.out.mono ?_
  rintro e w1 ⟨rfl, hg1⟩
  have hT := hg1.newest (by simp)
  have HG := Lib.hid hg1.past
  obtain ⟨c0, c1, c2, c3, c4, c5, c6, c7⟩ := cells8' hT
  clear hg1 hT
  go_wp2
  go_ret
  exact ⟨rfl, HG.out⟩
set_option maxRecDepth 20000 in
set_option maxHeartbeats 1000000 in
theorem fields_obj (A AV : Option Addr) (n c cv : Nat) (ks : List ByteArray) (w : World) (h : SR w A n c ks) (hn : n ≤ 300) (hi : Inc ks) :
    Calls Tryz.prog 90 #[tre 7 (.slice A n c) (.slice AV n cv)] w fun e w' => e = .returned (.bool true) ∧ G w.heap.size none w w' := by
  have HZ := Lib.hid (zero_num (w.alloc (treO 7 (.slice A n c) (.slice AV n cv))))
  have HN := Lib.hid (fun W g => names_ok A n c ks W (h.g (R := none) g rfl) hn hi)
  clear h hi
  go_enter Tryz.func90, Tryz.ntmps90
  go_wp2_with fail
  refine HZ.out.mono ?_
  rintro e w1 ⟨rfl, hg1⟩
  have hT := hg1.newest (by simp)
  have HG := Lib.hid hg1.past
  have HT := Lib.hid hT
  obtain ⟨c0, c1, c2, c3, c4, c5, c6, c7⟩ := cells8' hT
  clear hg1 hT
  go_wp2_with fail
  refine (HN.out w1 HG.out).mono ?_
  rintro e w2 ⟨rfl, hg2⟩
  have hT2 := (hg2.block _ (lt_heap HT.out) (by simp)).trans HT.out
  have HG2 := Lib.hid (HG.out.trans (hg2.mono HG.out.size))
  clear c0 c1 c2 c3 c4 c5 c6 c7
  obtain ⟨c0, c1, c2, c3, c4, c5, c6, c7⟩ := cells8' hT2
  clear hT2 hg2
  go_wp2
  go_ret
  exact ⟨rfl, HG2.out⟩
set_option maxRecDepth 20000 in
set_option maxHeartbeats 1000000 in
theorem walk_null (deep n : Int) (w : World) (hd : 0 ≤ deep ∧ deep ≤ 64) (hn : 0 ≤ n ∧ n < 2000) :
    Calls Tryz.prog 69 #[tre 1 (.slice none 0 0) (.slice none 0 0), .int .i64 deep, .int .i64 n] w fun e w' => e = .returned (.int .i64 (n + 1)) ∧ G w.heap.size none w w' := by
  have HF := Lib.hid (fields_null (w.alloc (treO 1 (.slice none 0 0) (.slice none 0 0))))
  obtain ⟨d0, d1⟩ := hd
  obtain ⟨n0, n1⟩ := hn
  have q1 : decide (2000 < n + 1) = false := by simp; omega
  have q2 : decide (64 < deep) = false := by simp; omega
  go_enter Tryz.func69, Tryz.ntmps69
  go_wp2_with fail
  refine HF.out.mono ?_
  rintro e w1 ⟨rfl, hg1⟩
  have hT := hg1.newest (by simp)
  have HG := Lib.hid hg1.past
  obtain ⟨c0, c1, c2, c3, c4, c5, c6, c7⟩ := cells8' hT
  clear hg1 hT
  go_wp2_with fail
  refine wp_loop_once ?_
  go_wp2
  go_ret
  exact ⟨rfl, HG.out⟩
/-- The slice's elements are values that are null. -/
structure NV (w : World) (A : Option Addr) (n c : Nat) : Prop where
  le : n ≤ c
  cap : c ≤ 9223372036854775807
  cells : 0 < n → ∃ B off, A = some ⟨B, off, none⟩ ∧ B < w.heap.size ∧ ∀ i, i < n → ∀ q u, [Value.int .i64 1, .bool false, .bool false, .slice none 0 0, .int .i64 0, .string ⟨#[]⟩, .slice none 0 0, .slice none 0 0][q]? = some u → w.cell? ⟨B, off + i * 8 + q, none⟩ = some u
theorem NV.g {w w' : World} {A : Option Addr} {n c : Nat} (h : NV w A n c) (g : G w.heap.size none w w') : NV w' A n c :=
  ⟨h.le, h.cap, fun hn => by
    obtain ⟨B, off, e, hB, hc⟩ := h.cells hn
    exact ⟨B, off, e, Nat.lt_of_lt_of_le hB g.size, fun i hi q u hu => (g.cell hB (by simp)).trans (hc i hi q u hu)⟩⟩
set_option maxRecDepth 20000 in
set_option maxHeartbeats 2000000 in
theorem walk_obj (A AV : Option Addr) (n c cv : Nat) (ks : List ByteArray) (w : World) (h : SR w A n c ks) (hv : NV w AV n cv) (hn : n ≤ 300) (hi : Inc ks) :
    Calls Tryz.prog 69 #[tre 7 (.slice A n c) (.slice AV n cv), .int .i64 1, .int .i64 0] w fun e w' => e = .returned (.int .i64 ((n : Int) + 1)) ∧ G w.heap.size none w w' := by
  have ga : G w.heap.size none w (w.alloc (treO 7 (.slice A n c) (.slice AV n cv))) := (G.refl _ _ _).alloc _ (Nat.le_refl _)
  have HF := Lib.hid (fields_obj A AV n c cv ks (w.alloc (treO 7 (.slice A n c) (.slice AV n cv))) (h.g ga rfl) hn hi)
  have HV := Lib.hid hv
  have hle := hv.le
  have hcap := hv.cap
  clear h hi ga hv
  go_enter Tryz.func69, Tryz.ntmps69
  go_wp2_with fail
  refine HF.out.mono ?_
  rintro e w1 ⟨rfl, hg1⟩
  have HT := Lib.hid (hg1.newest (by simp))
  have HG := Lib.hid hg1.past
  clear hg1
  go_wp2_with fail
  go_loopg [2, 7] n (fun k vN vI wr => ∃ j : Nat, j ≤ n ∧ k = n - j ∧ vN = .int .i64 ((j + 1 : Nat) : Int) ∧ vI = .int .i64 (j : Nat) ∧ G (w.heap.size + 1) none w1 wr)
  case atStart => exact ⟨0, Nat.zero_le _, rfl, rfl, rfl, G.refl _ _ _⟩
  case round =>
    obtain ⟨j, hj, hk, rfl, rfl, hg⟩ := hrel
    have hTr := (hg.block _ (by simp) (by simp)).trans HT.out
    obtain ⟨c0, c1, c2, c3, c4, c5, c6, c7⟩ := cells8' hTr
    have HGr := Lib.hid hg; clear hg hTr
    have HK := Lib.hid hk; clear hk
    by_cases hlt : j < n
    · obtain ⟨B, off, rfl, hB, hc⟩ := HV.out.cells (by omega)
      have hgw : G w.heap.size none w wr := HG.out.trans (HGr.out.mono (by omega))
      have e8 : ∀ q u, [Value.int .i64 1, .bool false, .bool false, .slice none 0 0, .int .i64 0, .string ⟨#[]⟩, .slice none 0 0, .slice none 0 0][q]? = some u → wr.cell? ⟨B, off + j * 8 + q, none⟩ = some u := fun q u hu => (hgw.cell hB (by simp)).trans (hc j hlt q u hu)
      have x0 : wr.cell? ⟨B, off + j * 8, none⟩ = some _ := e8 0 _ rfl
      have x1 := e8 1 _ rfl
      have x2 := e8 2 _ rfl
      have x3 := e8 3 _ rfl
      have x4 := e8 4 _ rfl
      have x5 := e8 5 _ rfl
      have x6 := e8 6 _ rfl
      have x7 := e8 7 _ rfl
      clear hc e8 hgw
      have HW := Lib.hid (walk_null 2 ((j : Int) + 1) wr (by omega) (by omega))
      go_wp2_with fail
      refine HW.out.mono ?_
      rintro e w2 ⟨rfl, hg2⟩
      have HG2 := Lib.hid (HGr.out.trans (hg2.mono (by have := HGr.out.size; have := lt_heap HT.out; omega)))
      clear hg2 x0 x1 x2 x3 x4 x5 x6 x7 c0 c1 c2 c3 c4 c5 c6 c7
      go_wp2
      go_roundg (n - (j + 1))
      case measure => have := HK.out; omega
      case rel => exact ⟨j + 1, hlt, rfl, by simp, by simp, HG2.out⟩
    · obtain rfl : j = n := by omega
      go_wp2
      go_ret
      exact ⟨by simp, HG.out.trans (HGr.out.mono (by omega))⟩
theorem check_obj (A AV : Option Addr) (n c cv : Nat) (ks : List ByteArray) (w : World) (h : SR w A n c ks) (hv : NV w AV n cv) (hn : n ≤ 300) (hi : Inc ks) :
    Calls Tryz.prog 46 #[tre 7 (.slice A n c) (.slice AV n cv)] w fun e w' => e = .returned (.bool true) ∧ G w.heap.size none w w' := by
  have ga : G w.heap.size none w (w.alloc (treO 7 (.slice A n c) (.slice AV n cv))) := (G.refl _ _ _).alloc _ (Nat.le_refl _)
  have HW := Lib.hid (walk_obj A AV n c cv ks (w.alloc (treO 7 (.slice A n c) (.slice AV n cv))) (h.g ga rfl) (hv.g ga) hn hi)
  have h0 : decide ((0 : Int) ≤ (n : Int) + 1) = true := by simp; omega
  clear h hv hi ga
  go_enter Tryz.func46, Tryz.ntmps46
  go_wp2_with (go_at_call 69; refine HW.out.mono ?_; rintro e w1 ⟨rfl, hg1⟩)
  go_ret
  exact ⟨rfl, hg1.past⟩
end Go.Proofs.YtcfjiaogdmjlbaaGreat
