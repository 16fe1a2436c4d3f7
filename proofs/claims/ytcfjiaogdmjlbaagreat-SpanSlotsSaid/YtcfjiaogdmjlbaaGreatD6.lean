/- The walk of span's above. -/
import Derived.Test.YtcfjiaogdmjlbaaGreatD5
namespace Go.Proofs.YtcfjiaogdmjlbaaGreat
open Go.RowKit
/-- Does a text stand behind another one, by bytes? As the program says it. -/
def sgt (a b : ByteArray) : Bool := !sless a b && !(a.toList == b.toList)
theorem gtr_str (a b : ByteArray) (w : World) : (binOp .gtr 9 (.string a) (.string b)).run Tryz.prog w = .ok (.bool (sgt a b)) w := by
  simp [binOp, Tryz.underlying9, go_sem, sless, sgt, Op.stringOp]
/-- Does a name stand behind another one in the format's order? -/
def abv (f : Int) (a b : ByteArray) : Bool := if f = 2 ∧ a.size ≠ b.size then decide (b.size < a.size) else sgt a b
theorem above_any (f : Int) (hf : f = 2 ∨ f = 3) (B n cap : Nat) (a b : ByteArray) (w : World) :
    Calls Tryz.prog 62 #[scan f B n cap, .string a, .string b] w fun e w' => e = .returned (.bool (abv f a b)) ∧ G w.heap.size none w w' := by
  have hx := gtr_str a b
  rcases hf with rfl | rfl
  · by_cases h : a.size = b.size
    · have ha : abv 2 a b = sgt a b := by simp [abv, h]
      rw [ha]
      go_enter Tryz.func62, Tryz.ntmps62
      go_wp2
      go_ret
      exact ⟨rfl, (G.refl _ _ _).alloc _ (Nat.le_refl _)⟩
    · have ha : abv 2 a b = decide (b.size < a.size) := by simp [abv, h]
      rw [ha]
      go_enter Tryz.func62, Tryz.ntmps62
      go_wp2
      go_ret
      exact ⟨rfl, (G.refl _ _ _).alloc _ (Nat.le_refl _)⟩
  · have ha : abv 3 a b = sgt a b := by simp [abv]
    rw [ha]
    go_enter Tryz.func62, Tryz.ntmps62
    go_wp2
    go_ret
    exact ⟨rfl, (G.refl _ _ _).alloc _ (Nat.le_refl _)⟩
end Go.Proofs.YtcfjiaogdmjlbaaGreat
