/- The walk of the division by one limb. -/
import Derived.Test.YtcfjiaogdmjlbaaGreatA9
namespace Go.Proofs.YtcfjiaogdmjlbaaGreat
open Go.RowKit
theorem div_lt_of (W r x b : Nat) (hb : 0 < b) (hr : r < b) (hx : x < W) : (r * W + x) / b < W := by
  rw [Nat.div_lt_iff_lt_mul hb]
  have h : (r + 1) * W ≤ b * W := Nat.mul_le_mul_right W hr
  rw [Nat.add_mul, Nat.one_mul] at h
  rw [Nat.mul_comm W b]
  omega
/-- A natural by one limb: the quotient's limbs, what is left. -/
def divL (b : Nat) : List Nat → List Nat × Nat
  | [] => ([], 0)
  | x :: xs => (((divL b xs).2 * 4294967296 + x) / b :: (divL b xs).1, ((divL b xs).2 * 4294967296 + x) % b)
theorem divL_len (b : Nat) : ∀ xs, (divL b xs).1.length = xs.length
  | [] => rfl
  | x :: xs => by simp [divL, divL_len b xs]
theorem divL_lt (b : Nat) (hb : 0 < b) : ∀ xs, (divL b xs).2 < b
  | [] => hb
  | x :: xs => Nat.mod_lt _ hb
theorem divL_bd (b : Nat) (hb : 0 < b) : ∀ xs : List Nat, (∀ x ∈ xs, x < 4294967296) → ∀ q ∈ (divL b xs).1, q < 4294967296
  | [], _ => by simp [divL]
  | x :: xs, h => by
    intro q hq
    simp only [divL, List.mem_cons] at hq
    rcases hq with rfl | hq
    · exact div_lt_of _ _ _ _ hb (divL_lt b hb xs) (h x (by simp))
    · exact divL_bd b hb xs (fun y hy => h y (by simp [hy])) q hq
theorem or_hi (r x : Nat) (hr : r < 4294967296) (hx : x < 4294967296) : bits .or .u64 ((r : Int) * 4294967296) (x : Int) = ((r * 4294967296 + x : Nat) : Int) := by
  have h := u64_or_nat (r * 4294967296) x (by omega) (by omega)
  have e : r * 4294967296 ||| x = r * 4294967296 + x := by
    have e2 := Nat.two_pow_add_eq_or_of_lt (i := 32) (b := x) hx r
    rw [show (2 : Nat) ^ 32 = 4294967296 from rfl, Nat.mul_comm] at e2
    exact e2.symm
  rw [e, Int.natCast_mul] at h
  exact h
/-- The division's loop: what holds at a round's head. -/
def SRel (w : World) (b : Nat) (xs : List Nat) (n : Nat) (k : Nat) (rem i : Value) (wr : World) : Prop :=
  ∃ (j : Nat) (cur : Array Value), i = .int .i64 ((j : Int) - 1) ∧ rem = .int .u64 ((divL b (xs.drop j)).2 : Nat) ∧ j ≤ n ∧ k = j ∧ wr.heap[w.heap.size]? = some (.cells cur 106 (0, 0)) ∧ cur.size = n ∧
    (∀ t, t < n - j → cur[j + t]? = some (.int .u32 ((divL b (xs.drop j)).1.getD t 0 : Nat))) ∧ G w.heap.size none w wr
set_option maxRecDepth 20000 in
set_option maxHeartbeats 2000000 in
theorem small_any (A : Option Addr) (n c : Nat) (xs : List Nat) (b : Nat) (hb0 : 0 < b) (hb1 : b < 4294967296) (w : World) (h : NR w A n c xs) :
    Calls Tryz.prog 258 #[.slice A n c, .int .u32 (b : Nat)] w fun e w' => ∃ A' c', e = .returned (.tuple #[.slice A' (normF (divL b xs).1).length c', .int .u32 ((divL b xs).2 : Nat)]) ∧ NR w' A' (normF (divL b xs).1).length c' (normF (divL b xs).1) ∧ G w.heap.size none w w' := by
  have hle := h.le
  have hcap := h.cap
  have hsm := h.sm
  have HL := Lib.hid h.len
  have H := Lib.hid h; clear h
  obtain ⟨i0, hi0, hz0, hs0, hbb0⟩ := info_parts info106
  have K := Lib.hid (And.intro hz0 (And.intro hs0 hbb0)); clear hz0 hs0 hbb0
  go_enter Tryz.func258, Tryz.ntmps258
  go_wp2_with (at_make; refine wpList_make_full _ rfl _ _ 24 rfl w.heap.size 106 i0 (.int .u32 0) 1 Tryz.underlying24 hi0 K.out.1 K.out.2.1 _ _ _ _ n rfl rfl rfl rfl ?_ ?_ ?_ ?_; (rw [K.out.2.2]; omega); (unfold maxLen; omega); exact Nat.le_refl _)
  intro w1 hown hg1
  obtain ⟨cur, hcur, hcs⟩ : ∃ cur : Array Value, w1.heap[w.heap.size]? = some (.cells cur 106 (0, 0)) ∧ cur.size = n := by
    obtain ⟨_, h | ⟨g, cap, cur, hv, _, hh, h3, h4, h5, h6⟩⟩ := hown
    · cases h.1
    · simp at hv
      obtain ⟨rfl, rfl⟩ := hv
      exact ⟨cur, hh, by omega⟩
  have E := Lib.hid (show SRel w b xs n n (.int .u64 0) (.int .i64 ((n : Int) - 1)) w1 from ⟨n, cur, rfl, by rw [List.drop_eq_nil_of_le (by rw [HL.out]; exact Nat.le_refl _)]; rfl, Nat.le_refl _, rfl, hcur, hcs, by simp, (G.refl _ _ _).grown hg1 (Nat.le_refl _) (by simp)⟩)
  clear hcur hcs hown hg1
  go_wp2_with fail
  go_loopg [7, 8] n (fun k rem i wr => SRel w b xs n k rem i wr)
  case atStart => exact E.out
  case round =>
    clear E
    obtain ⟨j, cur, rfl, rfl, hj, hk, hcur, hcs, hall, hg⟩ := hrel
    have ALL := Lib.hid hall; clear hall
    have HG := Lib.hid hg; clear hg
    have CS := Lib.hid hcs; clear hcs
    have HK := Lib.hid hk; clear hk
    have hr := divL_lt b hb0 (xs.drop j)
    by_cases h0 : j = 0
    · subst h0
      have hnr : NR wr (some ⟨w.heap.size, 0, none⟩) n n (divL b xs).1 := by
        have := HL.out
        refine ⟨by rw [divL_len]; exact this, Nat.le_refl _, by omega, by omega, fun e => (by cases e), divL_bd b hb0 xs H.out.bd, fun _ => ⟨_, 0, rfl, lt_heap hcur, fun i hi => ?_, _, _, hcur⟩⟩
        have := ALL.out i (by omega)
        rw [cell_heap hcur]
        simpa using this
      have hr2 : (divL b xs).2 < 4294967296 := by have := divL_lt b hb0 xs; omega
      simp only [List.drop_zero] at hr ⊢
      have HNR := Lib.hid hnr; clear hnr hcur
      generalize hqq : divL b xs = qr at *
      have HQQ := Lib.hid hqq; clear hqq
      obtain ⟨r, hrr⟩ : ∃ r, qr.2 = r := ⟨_, rfl⟩
      rw [hrr] at hr2 ⊢
      have HRR := Lib.hid hrr; clear hrr hr
      go_wp2_with fail
      refine (norm_any _ n n qr.1 _ HNR.out).mono ?_
      rintro e w2 ⟨A', c', rfl, hN, hG⟩
      go_wp2
      go_ret2
      rw [HQQ.out, HRR.out]
      exact ⟨A', c', rfl, hN, HG.out.trans (hG.mono HG.out.size)⟩
    · obtain ⟨B, off, rfl, hB, hc, _⟩ := H.out.cells (by omega)
      have e1 : wr.cell? ⟨B, off + (j - 1), none⟩ = some (.int .u32 (xs.getD (j - 1) 0 : Nat)) := (HG.out.cell hB (by simp)).trans (hc (j - 1) (by omega))
      have hx : xs.getD (j - 1) 0 < 4294967296 := by
        have hl : j - 1 < xs.length := by have := HL.out; omega
        have : xs.getD (j - 1) 0 = xs[j - 1] := by simp [List.getD, hl]
        rw [this]; exact H.out.bd _ (List.getElem_mem _)
      have hd : xs.drop (j - 1) = xs.getD (j - 1) 0 :: xs.drop j := by
        have hl : j - 1 < xs.length := by have := HL.out; omega
        rw [List.drop_eq_getElem_cons hl, show j - 1 + 1 = j by omega]; simp [List.getD, hl]
      have HD := Lib.hid hd; clear hd hc
      have hfz := froz_heap hcur (j - 1)
      obtain ⟨v, hv⟩ : ∃ v, wr.cell? ⟨w.heap.size, j - 1, none⟩ = some v := ⟨cur[j - 1]'(by rw [CS.out]; omega), by rw [cell_heap hcur]; simp [show j - 1 < cur.size by rw [CS.out]; omega]⟩
      have HCUR := Lib.hid hcur; clear hcur
      obtain ⟨r, hrr⟩ : ∃ r, (divL b (xs.drop j)).2 = r := ⟨_, rfl⟩
      rw [hrr] at hr
      have HR := Lib.hid hrr
      rw [hrr]
      clear hrr
      obtain ⟨x, hxx⟩ : ∃ x, xs.getD (j - 1) 0 = x := ⟨_, rfl⟩
      rw [hxx] at hx e1
      have HX := Lib.hid hxx; clear hxx
      have hbits := or_hi r x (by omega) hx
      obtain ⟨T, hT⟩ : ∃ T, r * 4294967296 + x = T := ⟨_, rfl⟩
      rw [hT] at hbits
      have hT2 : T < 18446744073709551616 := by omega
      have hq : T / b < 4294967296 := by rw [← hT]; exact div_lt_of _ _ _ _ hb0 hr hx
      have q1 : IntKind.u64.wrap ((T : Int) / (b : Int)) % 4294967296 = ((T / b : Nat) : Int) := by
        rw [show (T : Int) / (b : Int) = ((T / b : Nat) : Int) from rfl]
        generalize T / b = q at hq
        rw [IntWalk.u64_in _ (by omega)]
        omega
      have Q1 := Lib.hid q1; clear q1 hq
      have HT := Lib.hid hT; clear hT
      go_wp2
      rw [Q1.out, show (T : Int) % (b : Int) = ((T % b : Nat) : Int) from rfl]
      go_roundg (j - 1)
      case measure => have := HK.out; omega
      case rel =>
        have hrec : divL b (xs.drop (j - 1)) = (T / b :: (divL b (xs.drop j)).1, T % b) := by rw [HD.out, HX.out, divL, HR.out, HT.out]
        refine ⟨j - 1, cur.setIfInBounds (j - 1) (.int .u32 (T / b : Nat)), by simp; omega, by rw [hrec], by omega, rfl, heap_set HCUR.out _, by simp [CS.out], fun t ht => ?_, HG.out.put _ _ _ (Nat.le_refl _)⟩
        rw [hrec]
        cases t with
        | zero => simp [show j - 1 < cur.size by rw [CS.out]; omega]
        | succ t =>
          rw [Array.getElem?_setIfInBounds_ne (by omega), show j - 1 + (t + 1) = j + t by omega, ALL.out t (by omega)]
          simp
end Go.Proofs.YtcfjiaogdmjlbaaGreat
