/- Naturals by limbs: what lists of limbs are; the walk of the trimming of tens. -/
import Derived.Test.YtcfjiaogdmjlbaaGreatB1
namespace Go.Proofs.YtcfjiaogdmjlbaaGreat
open Go.RowKit
/-- The natural of a list of limbs, the lowest first. -/
def val : List Nat → Nat
  | [] => 0
  | x :: xs => x + 4294967296 * val xs
/-- A natural's limbs, none 0 at the top. -/
def limbs (n : Nat) : List Nat := if h : n = 0 then [] else n % 4294967296 :: limbs (n / 4294967296)
  termination_by n
  decreasing_by omega
theorem limbs_zero : limbs 0 = [] := by rw [limbs, dif_pos rfl]
theorem limbs_pos {n : Nat} (h : n ≠ 0) : limbs n = n % 4294967296 :: limbs (n / 4294967296) := by rw [limbs, dif_neg h]
theorem limbs_bd (n : Nat) : ∀ x ∈ limbs n, x < 4294967296 := by
  induction n using Nat.strongRecOn with
  | _ n ih =>
    intro x hx
    by_cases h : n = 0
    · subst h; rw [limbs_zero] at hx; cases hx
    · rw [limbs_pos h] at hx
      rcases List.mem_cons.1 hx with rfl | hx
      · omega
      · exact ih (n / 4294967296) (by omega) x hx
theorem val_limbs (n : Nat) : val (limbs n) = n := by
  induction n using Nat.strongRecOn with
  | _ n ih =>
    by_cases h : n = 0
    · subst h; rw [limbs_zero]; rfl
    · rw [limbs_pos h, val, ih (n / 4294967296) (by omega)]; omega
theorem limbs_eq_nil {n : Nat} : limbs n = [] ↔ n = 0 := by
  constructor
  · intro h
    have := val_limbs n
    rw [h] at this
    exact this.symm
  · rintro rfl; exact limbs_zero
theorem val_take_succ (xs : List Nat) : ∀ n, xs.getD n 0 = 0 → val (xs.take (n + 1)) = val (xs.take n) := by
  induction xs with
  | nil => intro n _; simp
  | cons x xs ih =>
    intro n h
    cases n with
    | zero => simp at h; simp [val, h]
    | succ n => simp only [List.take_succ_cons, val]; rw [ih n (by simpa using h)]
theorem val_normN (xs : List Nat) : ∀ n, val (xs.take (normN xs n)) = val (xs.take n)
  | 0 => rfl
  | n + 1 => by
    rw [normN]; split
    · rename_i h; rw [val_normN xs n, val_take_succ xs n h]
    · rfl
theorem normN_top (xs : List Nat) : ∀ n, normN xs n = 0 ∨ xs.getD (normN xs n - 1) 0 ≠ 0
  | 0 => .inl rfl
  | n + 1 => by
    rw [normN]; split
    · exact normN_top xs n
    · rename_i h; exact .inr h
theorem limbs_val (xs : List Nat) : (∀ x ∈ xs, x < 4294967296) → (xs = [] ∨ xs.getD (xs.length - 1) 0 ≠ 0) → limbs (val xs) = xs := by
  induction xs with
  | nil => intro _ _; exact limbs_zero
  | cons x xs ih =>
    intro hb ht
    have hx := hb x (by simp)
    rcases ht with h | ht
    · cases h
    have hrest : limbs (val xs) = xs := by
      refine ih (fun y hy => hb y (by simp [hy])) ?_
      cases xs with
      | nil => exact .inl rfl
      | cons y ys => right; simpa using ht
    have hne : val (x :: xs) ≠ 0 := by
      intro h0
      simp only [val] at h0
      have h1 : val xs = 0 := by omega
      rw [h1, limbs_zero] at hrest
      subst hrest
      simp at ht
      omega
    rw [limbs_pos hne]
    simp only [val]
    rw [show (x + 4294967296 * val xs) % 4294967296 = x by omega, show (x + 4294967296 * val xs) / 4294967296 = val xs by omega, hrest]
theorem normF_eq (xs : List Nat) (hb : ∀ x ∈ xs, x < 4294967296) : normF xs = limbs (val xs) := by
  have h1 : val (normF xs) = val xs := by rw [normF, val_normN, List.take_length]
  rw [← h1]
  symm
  refine limbs_val _ (fun x hx => hb x (List.mem_of_mem_take (by unfold normF at hx; exact hx))) ?_
  have hle := normN_le xs xs.length
  rcases normN_top xs xs.length with h | h
  · left; rw [normF, h]; rfl
  · by_cases h0 : normN xs xs.length = 0
    · left; rw [normF, h0]; rfl
    · right
      rw [normF]
      simp only [List.length_take]
      rw [Nat.min_eq_left hle]
      simp only [List.getD_eq_getElem?_getD, List.getElem?_take] at h ⊢
      rw [if_pos (by omega)]
      exact h
theorem divL_val (b : Nat) (hb : 0 < b) : ∀ xs : List Nat, val (divL b xs).1 = val xs / b ∧ (divL b xs).2 = val xs % b
  | [] => by simp [divL, val]
  | x :: xs => by
    obtain ⟨h1, h2⟩ := divL_val b hb xs
    have key : val (x :: xs) = (val xs % b * 4294967296 + x) + b * (4294967296 * (val xs / b)) := by
      simp only [val]
      have := Nat.div_add_mod (val xs) b
      generalize val xs / b = q at *
      generalize val xs % b = r at *
      rw [← this, Nat.mul_add, Nat.mul_comm 4294967296 r, ← Nat.mul_assoc, ← Nat.mul_assoc, Nat.mul_comm 4294967296 b]
      omega
    refine ⟨?_, ?_⟩
    · rw [key, Nat.add_mul_div_left _ _ hb]
      simp only [divL, val, h1, h2]
    · rw [key, Nat.add_mul_mod_self_left]
      simp only [divL, h2]
/-- A natural without the tens that divide it, and how many they were. -/
def trimN (n : Nat) : Nat × Nat := if h : n = 0 ∨ n % 10 ≠ 0 then (n, 0) else ((trimN (n / 10)).1, (trimN (n / 10)).2 + 1)
  termination_by n
  decreasing_by all_goals omega
theorem trimN_stop {n : Nat} (h : n = 0 ∨ n % 10 ≠ 0) : trimN n = (n, 0) := by rw [trimN, dif_pos h]
theorem trimN_go {n : Nat} (h : ¬ (n = 0 ∨ n % 10 ≠ 0)) : trimN n = ((trimN (n / 10)).1, (trimN (n / 10)).2 + 1) := by rw [trimN, dif_neg h]
theorem val_lt (xs : List Nat) (hb : ∀ x ∈ xs, x < 4294967296) : val xs < 2 ^ (32 * xs.length) := by
  induction xs with
  | nil => simp [val]
  | cons x xs ih =>
    have h1 := ih (fun y hy => hb y (by simp [hy]))
    have h2 := hb x (by simp)
    rw [List.length_cons, show 32 * (xs.length + 1) = 32 * xs.length + 32 by omega, Nat.pow_add, show (2 : Nat) ^ 32 = 4294967296 from rfl]
    simp only [val]
    generalize 2 ^ (32 * xs.length) = p at *
    omega
/-- The trimming's loop: what holds at a round's head. -/
def TrRel (w : World) (v0 n0 : Nat) (k : Nat) (a i : Value) (wr : World) : Prop :=
  ∃ (v cnt : Nat) (A : Option Addr) (c : Nat), a = .slice A (limbs v).length c ∧ i = .int .i64 (cnt : Nat) ∧ NR wr A (limbs v).length c (limbs v) ∧ trimN v0 = ((trimN v).1, (trimN v).2 + cnt) ∧ k = v ∧ cnt ≤ 32 * n0 ∧ (v ≠ 0 → 2 ^ cnt * v < 2 ^ (32 * n0)) ∧ G w.heap.size none w wr
theorem norm_val (A : Option Addr) (n c : Nat) (xs : List Nat) (w : World) (h : NR w A n c xs) :
    Calls Tryz.prog 257 #[.slice A n c] w fun e w' => ∃ A' c', e = .returned (.slice A' (limbs (val xs)).length c') ∧ NR w' A' (limbs (val xs)).length c' (limbs (val xs)) ∧ G w.heap.size none w w' := by
  have := norm_any A n c xs w h
  rwa [normF_eq xs h.bd] at this
theorem small_val (A : Option Addr) (n c : Nat) (xs : List Nat) (b : Nat) (hb0 : 0 < b) (hb1 : b < 4294967296) (w : World) (h : NR w A n c xs) :
    Calls Tryz.prog 258 #[.slice A n c, .int .u32 (b : Nat)] w fun e w' => ∃ A' c', e = .returned (.tuple #[.slice A' (limbs (val xs / b)).length c', .int .u32 ((val xs % b : Nat))]) ∧ NR w' A' (limbs (val xs / b)).length c' (limbs (val xs / b)) ∧ G w.heap.size none w w' := by
  have := small_any A n c xs b hb0 hb1 w h
  obtain ⟨h1, h2⟩ := divL_val b hb0 xs
  rwa [normF_eq _ (divL_bd b hb0 xs h.bd), h1, h2] at this
set_option maxRecDepth 20000 in
set_option maxHeartbeats 2000000 in
theorem trim_any (A : Option Addr) (n c : Nat) (xs : List Nat) (w : World) (h : NR w A n c xs) :
    Calls Tryz.prog 244 #[.slice A n c] w fun e w' => ∃ A' c', e = .returned (.tuple #[.slice A' (limbs (trimN (val xs)).1).length c', .int .i64 ((trimN (val xs)).2 : Nat)]) ∧ NR w' A' (limbs (trimN (val xs)).1).length c' (limbs (trimN (val xs)).1) ∧ G w.heap.size none w w' := by
  have hle := h.le
  have hcap := h.cap
  have hsm := h.sm
  have hlt := val_lt xs h.bd
  rw [h.len] at hlt
  have HN := Lib.hid (norm_val A n c xs w h); clear h
  generalize val xs = v0 at *
  have HLT := Lib.hid hlt; clear hlt
  go_enter Tryz.func244, Tryz.ntmps244
  go_wp2
  go_step3
  go_wp2_with (go_at_call 257; refine HN.out.mono ?_; rintro e w1 ⟨A1, c1, rfl, h1, hg1⟩)
  go_step3
  have E := Lib.hid (show TrRel w v0 n v0 (.slice A1 (limbs v0).length c1) (.int .i64 0) w1 from ⟨v0, 0, A1, c1, rfl, rfl, h1, by simp, rfl, by omega, fun _ => by rw [Nat.pow_zero, Nat.one_mul]; exact HLT.out, hg1⟩)
  clear h1 hg1 HN
  go_wp2_with fail
  go_loopg [0, 4] v0 (fun k a i wr => TrRel w v0 n k a i wr)
  case atStart => exact E.out
  case round =>
    clear E
    obtain ⟨v, cnt, A, c, rfl, rfl, hnr, ht, hk, hcnt, hpow, hg⟩ := hrel
    have hlen : (limbs v).length ≤ 1000000 := hnr.sm
    have HNR := Lib.hid hnr; clear hnr
    have HT := Lib.hid ht; clear ht
    have HK := Lib.hid hk; clear hk
    have HP := Lib.hid hpow; clear hpow
    have HG := Lib.hid hg; clear hg
    by_cases h0 : v = 0
    · subst h0
      have hl : (limbs 0).length = 0 := by rw [limbs_zero]; rfl
      have hfin : trimN v0 = (0, cnt) := by rw [HT.out, trimN_stop (.inl rfl)]; simp
      have HF := Lib.hid hfin
      generalize hll : (limbs 0).length = l at *
      have HLL := Lib.hid hll; clear hll
      subst hl
      go_wp2
      rw [Exit.noGoto_ret]
      go_ret2
      rw [HF.out]
      exact ⟨A, c, by rw [HLL.out]; rfl, by rw [HLL.out]; exact HNR.out, HG.out⟩
    · have hl : 0 < (limbs v).length := by
        rw [limbs_pos h0]; simp
      have hs := small_val A _ c (limbs v) 10 (by omega) (by omega) wr HNR.out
      rw [val_limbs] at hs
      have HS := Lib.hid hs; clear hs
      by_cases hr : v % 10 = 0
      · rw [hr] at HS
        generalize hll : (limbs v).length = l at *
        have HLL := Lib.hid hll; clear hll
        go_wp2_with (go_at_call 258; refine HS.out.mono ?_; rintro e w2 ⟨A2, c2, rfl, h2, hg2⟩)
        go_roundg (v / 10)
        case measure => have := HK.out; omega
        case rel =>
          refine ⟨v / 10, cnt + 1, A2, c2, rfl, by simp, h2, ?_, rfl, ?_, ?_, HG.out.trans (hg2.mono HG.out.size)⟩
          · rw [HT.out, trimN_go (by omega)]; simp only; rw [Nat.add_assoc, Nat.add_comm 1 cnt]
          · have h1 := HP.out h0
            have h2 : 2 ^ cnt * 2 ≤ 2 ^ cnt * v := Nat.mul_le_mul_left _ (by omega)
            rw [← Nat.pow_succ] at h2
            have h3 : 2 ^ (cnt + 1) < 2 ^ (32 * n) := by omega
            have := (Nat.pow_lt_pow_iff_right (by omega : 1 < 2)).1 h3
            omega
          · intro _
            have h1 := HP.out h0
            have h2 : 2 ^ cnt * (2 * (v / 10)) ≤ 2 ^ cnt * v := Nat.mul_le_mul_left _ (by omega)
            rw [← Nat.mul_assoc, ← Nat.pow_succ] at h2
            exact Nat.lt_of_le_of_lt h2 h1
      · have hx : (((v % 10 : Nat) : Int) != 0) = true := by rw [bne_iff_ne]; omega
        have hfin : trimN v0 = (v, cnt) := by rw [HT.out, trimN_stop (.inr hr)]; simp
        have HF := Lib.hid hfin; clear hfin
        generalize hll : (limbs v).length = l at *
        have HLL := Lib.hid hll; clear hll
        generalize ((v % 10 : Nat) : Int) = rm at *
        go_wp2_with (go_at_call 258; refine HS.out.mono ?_; rintro e w2 ⟨A2, c2, rfl, h2, hg2⟩)
        rw [Exit.noGoto_ret]
        go_ret2
        rw [HF.out]
        exact ⟨A, c, by rw [HLL.out]; rfl, by rw [HLL.out]; exact HNR.out.g hg2, HG.out.trans (hg2.mono HG.out.size)⟩
end Go.Proofs.YtcfjiaogdmjlbaaGreat
