/- The walk of the sort of places. -/
import Derived.Test.YtcfjiaogdmjlbaaGreatA3
import Derived.Deep.RegionHeld3
namespace Go.Proofs.YtcfjiaogdmjlbaaGreat
open Go.RowKit
def sortF (lt : Int → Int → Bool) (xs : List Int) : List Int :=
  if h : xs.length < 2 then xs else mergeF lt (sortF lt (xs.take (xs.length / 2))) (sortF lt (xs.drop (xs.length / 2)))
  termination_by xs.length
  decreasing_by all_goals (simp; omega)
theorem mergeF_mem (lt : Int → Int → Bool) (x : Int) : ∀ a b : List Int, x ∈ mergeF lt a b → x ∈ a ∨ x ∈ b
  | [], b => by simp [mergeF]
  | y :: a, [] => by simp [mergeF]
  | y :: a, z :: b => by
    rw [mergeF]; split
    · intro h
      rcases List.mem_cons.1 h with h | h
      · exact .inr (by simp [h])
      · rcases mergeF_mem lt x (y :: a) b h with h | h
        · exact .inl h
        · exact .inr (List.mem_cons_of_mem _ h)
    · intro h
      rcases List.mem_cons.1 h with h | h
      · exact .inl (by simp [h])
      · rcases mergeF_mem lt x a (z :: b) h with h | h
        · exact .inl (List.mem_cons_of_mem _ h)
        · exact .inr h
  termination_by a b => a.length + b.length
theorem sortF_mem (lt : Int → Int → Bool) (x : Int) (l : List Int) (h : x ∈ sortF lt l) : x ∈ l := by
  rw [sortF] at h
  split at h
  · exact h
  · rcases mergeF_mem lt x _ _ h with h | h
    · exact List.mem_of_mem_take (sortF_mem lt x _ h)
    · exact List.mem_of_mem_drop (sortF_mem lt x _ h)
  termination_by l.length
  decreasing_by all_goals (simp; omega)
theorem sortF_length (lt : Int → Int → Bool) (l : List Int) : (sortF lt l).length = l.length := by
  rw [sortF]
  split
  · rfl
  · rw [mergeF_length, sortF_length, sortF_length]; simp; omega
  termination_by l.length
  decreasing_by all_goals (simp; omega)
theorem IR.take {w : World} {A : Option Addr} {n c : Nat} {xs : List Int} (h : IR w A n c xs) (m : Nat) (hm : m ≤ n) : IR w A m c (xs.take m) := by
  have := h.len
  refine ⟨by simp; omega, by have := h.le; omega, h.cap, by have := h.sm; omega, h.nil_, fun h0 => ?_⟩
  obtain ⟨B, off, e, hB, hc, hT⟩ := h.cells (by omega)
  refine ⟨B, off, e, hB, fun i hi => ?_, hT⟩
  rw [hc i (by omega)]
  simp [List.getElem?_take, hi]
theorem IR.drop {w : World} {B off n c : Nat} {xs : List Int} (h : IR w (some ⟨B, off, none⟩) n c xs) (m : Nat) (hm : m ≤ n) : IR w (some ⟨B, off + m, none⟩) (n - m) (c - m) (xs.drop m) := by
  have := h.len
  have := h.le
  have := h.cap
  have := h.sm
  refine ⟨by simp; omega, by omega, by omega, by omega, fun e => (by cases e), fun h0 => ?_⟩
  obtain ⟨B', off', e, hB, hc, hT⟩ := h.cells (by omega)
  simp only [Option.some.injEq, Addr.mk.injEq, and_true] at e
  obtain ⟨rfl, rfl⟩ := e
  refine ⟨B, off + m, rfl, hB, fun i hi => ?_, hT⟩
  rw [show off + m + i = off + (m + i) by omega, hc (m + i) (by omega)]
  simp
theorem CL.g {w w' : World} {f : Nat} {caps : List Value} {lt : Int → Int → Bool} {dom : Int → Prop} (h : CL w f caps lt dom) (g : G w.heap.size none w w') : CL w' f caps lt dom :=
  fun i k hi hk W gW => h i k hi hk W (g.trans (gW.mono g.size))
set_option maxRecDepth 20000 in
set_option maxHeartbeats 1000000 in
theorem sorted_any (lt : Int → Int → Bool) (dom : Int → Prop) (p q : Value) : ∀ (m : Nat) (A : Option Addr) (n c : Nat) (xs : List Int) (w : World), n ≤ m → n ≤ 500000 →
    IR w A n c xs → CL w 239 [p, q] lt dom → (∀ x ∈ xs, dom x) →
    Calls Tryz.prog 238 #[.slice A n c, .func (.func 239) #[] #[p, q]] w fun e w' => ∃ A' c', e = .returned (.slice A' n c') ∧ IR w' A' n c' (sortF lt xs) ∧ G w.heap.size none w w' := by
  intro m
  induction m using Nat.strongRecOn with
  | _ m ih =>
    intro A n c xs w hm hn h1 hcl hd
    have hlen := h1.len
    have hle := h1.le
    have hcap := h1.cap
    by_cases h2 : n < 2
    · have hr : sortF lt xs = xs := by rw [sortF, dif_pos (by omega)]
      have HR := Lib.hid hr; clear hr hlen
      clear ih
      have H1 := Lib.hid h1; clear h1 hcl hd
      go_enter Tryz.func238, Tryz.ntmps238
      go_wp2
      go_ret
      exact ⟨A, c, rfl, by rw [HR.out]; exact H1.out, G.refl _ _ _⟩
    · obtain ⟨B, off, rfl, hB, _, _⟩ := h1.cells (by omega)
      have hr : sortF lt xs = mergeF lt (sortF lt (xs.take (n / 2))) (sortF lt (xs.drop (n / 2))) := by rw [sortF, dif_neg (by omega), hlen]
      obtain ⟨h, hh⟩ : ∃ h, n / 2 = h := ⟨_, rfl⟩
      have hh1 : 0 < h := by omega
      have hh2 : h < n := by omega
      have HH := Lib.hid (show (n : Int) / 2 = (h : Int) by omega)
      rw [hh] at hr
      have hm2 : h < m ∧ n - h < m := by omega
      clear hh
      have HR := Lib.hid hr; clear hr
      have i1 := ih h (by omega) (some ⟨B, off, none⟩) h c (xs.take h)
      have i2 := ih (n - h) (by omega) (some ⟨B, off + h, none⟩) (n - h) (c - h) (xs.drop h)
      have I1 := Lib.hid i1; clear i1
      have I2 := Lib.hid i2; clear i2 ih
      have H1 := Lib.hid h1; clear h1
      have HC := Lib.hid hcl; clear hcl
      have D := Lib.hid hd; clear hd
      have LEN := Lib.hid hlen; clear hlen
      go_enter Tryz.func238, Tryz.ntmps238
      go_wp2
      rw [HH.out]
      have b1 : (h : Int) ≤ (c : Int) := by omega
      have b2 : (h : Int) ≤ (n : Int) := by omega
      have b3 : (0 : Int) ≤ (h : Int) := by omega
      have hne : ¬ c = h := by omega
      have hne2 : ¬ h = c := by omega
      go_region_held3 (fun w' => G w.heap.size none w w') (first | exact (G.refl _ _ _).drew | assumption)
        (first
          | (go_at_call_of 238 (Value.slice (some ⟨B, off, none⟩) h c); go_loud (refine (I1.out _ (Nat.le_refl _) (by omega) (H1.out.g (by assumption) |>.take h (by omega)) (HC.out.g (by assumption)) (fun x hx => D.out x (List.mem_of_mem_take hx))).mono ?_); rintro e w' ⟨A1, c1, rfl, hI1, hG1⟩; have hS1 := G.trans (by assumption) (G.mono hG1 (G.size (by assumption))))
          | (go_at_call_of 238 (Value.slice (some ⟨B, off + h, none⟩) (n - h) (c - h)); go_loud (refine (I2.out _ (Nat.le_refl _) (by omega) (H1.out.g (by assumption) |>.drop h (by omega)) (HC.out.g (by assumption)) (fun x hx => D.out x (List.mem_of_mem_drop hx))).mono ?_); rintro e w' ⟨A2, c2, rfl, hI2, hG2⟩; have hS2 := G.trans (by assumption) (G.mono hG2 (G.size (by assumption))))
          | (go_at_call 249; go_loud (refine (merge_any A1 A2 h c1 (n - h) c2 _ _ p q lt dom _ (hI1.g hG2) hI2 (by omega) (HC.out.g (by assumption)) (fun x hx => D.out x (List.mem_of_mem_take (sortF_mem lt x _ hx))) (fun x hx => D.out x (List.mem_of_mem_drop (sortF_mem lt x _ hx)))).mono ?_); rintro e w' ⟨B3, c3, rfl, hI3, hG3⟩; have hS3 := G.trans (by assumption) (G.mono hG3 (G.size (by assumption)))))
      go_wp2
      go_ret
      refine ⟨_, c3, ret_eq (by rw [show h + (n - h) = n by omega]; rfl), ?_, hS3⟩
      rw [HR.out]
      have := hI3
      rwa [show h + (n - h) = n by omega] at this
end Go.Proofs.YtcfjiaogdmjlbaaGreat
