/- Walks of begins' closure. -/
/- The walks of span's begins and of its closure. -/
import Derived.Test.YtcfjiaogdmjlbaaGreatE1
namespace Go.Proofs.YtcfjiaogdmjlbaaGreat
open Go.RowKit
theorem cells1 {w : World} {b : Nat} {v : Value} {T : TypeId} {fz : Nat × Nat} (h : w.heap[b]? = some (.cells #[v] T fz)) : w.cell? ⟨b, 0, none⟩ = some v := by
  simpa using cell_heap h 0
theorem begins_eq (f : Int) (B n cap : Nat) (a : Int) (w : World) :
    Calls Tryz.prog 65 #[scan f B n cap, .int .i64 a, .int .i64 a] w fun e w' => e = .returned (.bool true) ∧ G w.heap.size none w w' := by
  go_enter Tryz.func65, Tryz.ntmps65
  go_wp2
  go_ret
  exact ⟨rfl, ((G.refl w.heap.size none w).alloc _ (Nat.le_refl _)).alloc _ (by simp)⟩
theorem Row.lt {f : Int} {L : List UInt8} {n : Nat} {ps : Nat → Nat} {tx : Nat → ByteArray} {N : Nat} (h : Row f L n ps tx N) : ∀ i, i < N → ps i < ps (i + 1) := by
  intro i hi
  have := h i hi
  rcases this with ⟨_, ⟨t, _, _, _, _, _, hz, _⟩ | ⟨_, _, _, hz, _⟩ | ⟨t, _, _, hk, _⟩ | ⟨t, _, _, hk, _⟩⟩
  · omega
  · omega
  · omega
  · omega
theorem Row.mono {f : Int} {L : List UInt8} {n : Nat} {ps : Nat → Nat} {tx : Nat → ByteArray} {N : Nat} (h : Row f L n ps tx N) : ∀ j, j ≤ N → ∀ i, i ≤ j → ps i ≤ ps j := by
  intro j
  induction j with
  | zero => intro _ i hi; obtain rfl : i = 0 := by omega
            exact Nat.le_refl _
  | succ j ih =>
    intro hj i hi
    rcases Nat.lt_or_ge i (j + 1) with h1 | h1
    · have := ih (by omega) i (by omega)
      have := h.lt j (by omega)
      omega
    · obtain rfl : i = j + 1 := by omega
      exact Nat.le_refl _
/-- What holds behind i elements of the search for a beginning. -/
def BInv (w0 : World) (f : Int) (B n cap : Nat) (L : List UInt8) (ps : Nat → Nat) (t AT SC FD i : Nat) (W : World) : Prop :=
  BY W B L ∧ G w0.heap.size none w0 W ∧ i ≤ t ∧ W.heap[AT]? = some (.cells #[.int .i64 (ps t : Nat)] 3 (0, 0)) ∧ W.heap[SC]? = some (.cells #[.int .i64 f, .slice (some ⟨B, 0, none⟩) n cap] 67 (0, 0)) ∧ W.heap[FD]? = some (.cells #[.bool false] 4 (0, 0))
def BDone (w0 : World) (FD : Nat) (_ : Nat) (W : World) : Prop := G w0.heap.size none w0 W ∧ W.heap[FD]? = some (.cells #[.bool true] 4 (0, 0))
theorem BInv.g {w0 : World} {f : Int} {B n cap : Nat} {L : List UInt8} {ps : Nat → Nat} {t AT SC FD i : Nat} {W W' : World} (h : BInv w0 f B n cap L ps t AT SC FD i W) (g : G W.heap.size none W W') : BInv w0 f B n cap L ps t AT SC FD i W' :=
  ⟨h.1.g g h.1.1 (by simp), h.2.1.trans (g.mono h.2.1.size), h.2.2.1, (g.block _ (lt_heap h.2.2.2.1) (by simp)).trans h.2.2.2.1, (g.block _ (lt_heap h.2.2.2.2.1) (by simp)).trans h.2.2.2.2.1, (g.block _ (lt_heap h.2.2.2.2.2) (by simp)).trans h.2.2.2.2.2⟩
set_option maxRecDepth 20000 in
set_option maxHeartbeats 1000000 in
theorem visit88 (w0 : World) (f : Int) (B n cap : Nat) (L : List UInt8) (ps : Nat → Nat) (tx : Nat → ByteArray) (N t AT SC FD B1 i : Nat) (W : World)
    (hL : L.length = n) (hn : n ≤ 1000000) (hcap : n ≤ cap) (hcap2 : cap ≤ 9223372036854775807) (hrow : Row f L n ps tx N) (ht : t < N) (hi : i < N) (hFD : w0.heap.size ≤ FD ∧ FD < B1) (h : BInv w0 f B n cap L ps t AT SC FD i W) :
    Calls Tryz.prog 88 #[.int .i64 (i : Nat), .int .i64 (ps i : Nat), .pointer (some ⟨AT, 0, none⟩), .pointer (some ⟨SC, 0, none⟩), .pointer (some ⟨FD, 0, none⟩)] W
      fun e w' => ∃ c, e = .returned (.bool c) ∧ W.heap.size ≤ w'.heap.size ∧ (∀ k, B1 ≤ k → k < W.heap.size → w'.heap[k]? = W.heap[k]?) ∧
        (if c then BInv w0 f B n cap L ps t AT SC FD (i + 1) w' else BDone w0 FD i w') := by
  have hmono := hrow.mono t (by omega)
  have hlt := hrow.lt i hi
  have hit := h.2.2.1
  have HK := Lib.hid (fun (Z : World) hz => skip_leaf f B n cap L (ps i) (ps (i + 1) : Nat) (tx i) Z hL hn hcap hcap2 hz (hrow i hi))
  have HH := Lib.hid h
  have a0 := cell_heap h.2.2.2.1 0
  simp only [List.getElem?_toArray, List.getElem?_cons_zero] at a0
  obtain ⟨s0, s1⟩ := cells2 h.2.2.2.2.1
  have hst : i < t ∨ i = t := by omega
  clear hL hrow h
  have h1 : i < t → ps (i + 1) ≤ ps t := fun h => hmono (i + 1) (by omega)
  clear hmono
  go_enter Tryz.func88, Tryz.ntmps88
  go_wp2
  go_region_held3 (fun w' => w'.cell? ⟨AT, 0, none⟩ = some (.int .i64 (ps t : Nat)) ∧ w'.cell? ⟨SC, 0, none⟩ = some (.int .i64 f) ∧ w'.cell? ⟨SC, 1, none⟩ = some (.slice (some ⟨B, 0, none⟩) n cap)) (first | exact ⟨a0, s0, s1⟩ | assumption)
    (first
      | (go_at_call 41; go_loud (refine (HK.out _ (HH.out.1.g (R := none) ((G.refl _ _ _).drew) (by have := HH.out.1.1; exact this) (by simp))).mono ?_); rintro e w2 ⟨rfl, hg2⟩; have hI2 := HH.out.g (((G.refl W.heap.size none W).drew).trans hg2); have hS2 : w2.cell? ⟨AT, 0, none⟩ = some (.int .i64 (ps t : Nat)) ∧ w2.cell? ⟨SC, 0, none⟩ = some (.int .i64 f) ∧ w2.cell? ⟨SC, 1, none⟩ = some (.slice (some ⟨B, 0, none⟩) n cap) := ⟨cell_heap hI2.2.2.2.1 0, cells2 hI2.2.2.2.2.1⟩; have hz2 : W.heap.size ≤ w2.heap.size := hg2.size; have HB2 := Lib.hid (show ∀ k, k < W.heap.size → w2.heap[k]? = W.heap[k]? from fun k hk => hg2.block k hk (by simp)); have HI2 := Lib.hid hI2; clear hI2 hg2))
  obtain ⟨c0, c1, c2⟩ := hS2
  have fd := fun i => froz_heap HI2.out.2.2.2.2.2 i
  rcases hst with hst | rfl
  · have h1 := h1 hst
    have hd : decide (ps t < ps (i + 1)) = false := by simp; omega
    go_wp2
    go_ret
    exact ⟨true, rfl, hz2, fun k _ hk => HB2.out k hk, by simp only [if_true]; exact ⟨HI2.out.1, HI2.out.2.1, hst, HI2.out.2.2.2⟩⟩
  · have hd : decide (ps i < ps (i + 1)) = true := by simp; omega
    go_wp2_with (go_at_call 65; refine (begins_eq f B n cap (ps i : Nat) _).mono ?_; rintro e w3 ⟨rfl, hg3⟩; have fd := fun j => froz_heap (HI2.out.g hg3).2.2.2.2.2 j; have fc := cells1 (HI2.out.g hg3).2.2.2.2.2)
    go_ret
    refine ⟨false, rfl, Nat.le_trans hz2 (by simpa using hg3.size), fun k hk hk2 => ?_, ?_⟩
    · rw [Below.heap_setCell _ _ _ _ (by simp; omega), hg3.block k (by omega) (by simp)]
      exact HB2.out k hk2
    · simp only [Bool.false_eq_true, if_false]
      have hI3 := HI2.out.g hg3
      exact ⟨hI3.2.1.put FD 0 _ hFD.1, heap_set (j := 0) (cs := #[.bool false]) (T := 4) (fz := (0, 0)) hI3.2.2.2.2.2 (.bool true)⟩
end Go.Proofs.YtcfjiaogdmjlbaaGreat
