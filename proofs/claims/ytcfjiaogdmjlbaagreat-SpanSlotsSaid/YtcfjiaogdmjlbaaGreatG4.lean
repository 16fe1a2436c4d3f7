/- What is known of the eight names, out of the finite check. -/
import Derived.Test.YtcfjiaogdmjlbaaGreatG0
import Derived.Test.YtcfjiaogdmjlbaaGreatG3
namespace Go.Proofs.YtcfjiaogdmjlbaaGreat
open Go.RowKit
theorem chk_ok (f : Int) (hf : f = 2 ∨ f = 3) (hb : List Bool) (hl : hb.length = 8) (n : Nat) (hn : n < 8) : chk f hb n = true := by
  match hb, hl with
  | [a, b, c, d, e, g, h, i], _ =>
    rcases hf with rfl | rfl
    · exact chk2 a b c d e g h i ⟨n, hn⟩
    · exact chk3 a b c d e g h i ⟨n, hn⟩
theorem at8_asc : ∀ i, i < 8 → Asc (at8 i) := by
  intro i hi
  have h : (at8 i).size < 24 ∧ (at8 i).data.toList.all (fun b => decide (b.toNat < 128)) = true := by
    match i, hi with
    | 0, _ => decide
    | 1, _ => decide
    | 2, _ => decide
    | 3, _ => decide
    | 4, _ => decide
    | 5, _ => decide
    | 6, _ => decide
    | 7, _ => decide
  refine ⟨h.1, fun j hj => ?_⟩
  have := List.all_eq_true.1 h.2 ((at8 i)[j]'hj) (by
    have : (at8 i)[j]'hj = (at8 i).data.toList[j]'(by simpa using hj) := by simp; rfl
    rw [this]; exact List.getElem_mem _)
  simpa using this
theorem kept_lt {hb : List Bool} {n j i : Nat} (h : i ∈ kept hb n j) : i < j := by
  have := (List.mem_filter.1 h).1
  simpa using this
theorem kept_len (hb : List Bool) (n j : Nat) : (kept hb n j).length ≤ j := by
  have := List.length_filter_le (fun i => hb.getD i false && i != n) (List.range j)
  simpa [kept] using this
theorem kS_asc (hb : List Bool) (n j : Nat) (hj : j ≤ 8) : ∀ k ∈ kS hb n j, Asc k := fun k hk => by
  obtain ⟨i, hi, rfl⟩ := List.mem_map.1 hk
  exact at8_asc i (by have := kept_lt hi; omega)
theorem kW_len (f : Int) (hb : List Bool) (n : Nat) : (kW f hb n).length = (kS hb n 8).length := by
  unfold kW
  split
  · rw [inO_len, ordF_len]
  · rfl
theorem kS_inc (f : Int) (hf : f = 2 ∨ f = 3) (hb : List Bool) (hl : hb.length = 8) (n : Nat) (hn : n < 8) : Inc (kS hb n 8) := by
  have h := chk_ok f hf hb hl n hn
  simp only [chk, Bool.and_eq_true] at h
  obtain ⟨⟨⟨h1, _⟩, _⟩, _⟩ := h
  refine ⟨kS_asc hb n 8 (Nat.le_refl _), fun i h0 hi => ?_⟩
  have := List.all_eq_true.1 h1 i (by simpa using hi)
  simp only [Bool.or_eq_true, beq_iff_eq] at this
  rcases this with h | h
  · omega
  · simpa using h
theorem kW_good (f : Int) (hf : f = 2 ∨ f = 3) (hb : List Bool) (hl : hb.length = 8) (n : Nat) (hn : n < 8) : Good f (kW f hb n) (at8 n) (lessN f hb n 8) := by
  have h := chk_ok f hf hb hl n hn
  simp only [chk, Bool.and_eq_true] at h
  obtain ⟨⟨⟨_, h2⟩, h3⟩, h4⟩ := h
  have h4 := List.all_eq_true.1 h4
  have hk : (kS hb n 8).length ≤ 8 := by have := kept_len hb n 8; simpa [kS] using this
  have e : (ByteArray.empty : ByteArray) = ⟨#[]⟩ := rfl
  refine ⟨hf, ?_, by rw [kW_len]; exact hk, by simpa using h2, fun j hj => ?_, of_decide_eq_true h3, fun j hj => ?_, fun j hj hj2 => ?_⟩
  · unfold kW
    split
    · exact inO_asc (kS_asc hb n 8 (Nat.le_refl _)) (fun x hx => ordF_mem _ _ x hx)
    · exact kS_asc hb n 8 (Nat.le_refl _)
  · have := h4 j (by simpa using hj)
    simp only [Bool.and_eq_true] at this
    rw [← e]
    simpa using this.1
  · have := h4 j (by have := of_decide_eq_true h3; simp; omega)
    simp only [Bool.and_eq_true, beq_iff_eq] at this
    rw [← e, this.2]
    simp; omega
  · have := h4 j (by simpa using hj2)
    simp only [Bool.and_eq_true, beq_iff_eq] at this
    rw [← e, this.2]
    simpa using hj
theorem encL_two (hb : List Bool) (n : Nat) : encL 2 (kW 2 hb n) = UInt8.ofNat (160 + (kS hb n 8).length) :: body 96 246 (inO (kS hb n 8) (ordF (kS hb n 8) (kS hb n 8).length)) := by
  unfold encL
  rw [if_pos rfl, kW_len]
  simp [kW]
theorem encL_three (hb : List Bool) (n : Nat) : encL 3 (kW 3 hb n) = UInt8.ofNat (128 + (kS hb n 8).length) :: body 160 192 (kS hb n 8) := by
  unfold encL
  rw [if_neg (by decide), kW_len]
  simp [kW]
end Go.Proofs.YtcfjiaogdmjlbaaGreat
