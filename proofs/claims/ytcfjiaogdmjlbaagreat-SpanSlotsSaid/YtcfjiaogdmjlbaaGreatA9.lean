/- The walk of a natural without the limbs that are 0 at the top. -/
import Derived.Test.YtcfjiaogdmjlbaaGreatA8
import Derived.Laws.IdiomCopy
import Derived.Laws.CopyOwn
namespace Go.Proofs.YtcfjiaogdmjlbaaGreat
open Go.RowKit
/-- The slice reads as these limbs. -/
structure NR (w : World) (A : Option Addr) (n c : Nat) (xs : List Nat) : Prop where
  len : xs.length = n
  le : n ≤ c
  cap : c ≤ 9223372036854775807
  sm : n ≤ 1000000
  nil_ : A = none → c = 0
  bd : ∀ x ∈ xs, x < 4294967296
  cells : 0 < n → ∃ B off, A = some ⟨B, off, none⟩ ∧ B < w.heap.size ∧ (∀ i, i < n → w.cell? ⟨B, off + i, none⟩ = some (.int .u32 (xs.getD i 0 : Nat))) ∧ IsRow w B 106
theorem NR.g {w w' : World} {A : Option Addr} {n c : Nat} {xs : List Nat} (h : NR w A n c xs) (g : G w.heap.size none w w') : NR w' A n c xs :=
  ⟨h.len, h.le, h.cap, h.sm, h.nil_, h.bd, fun hn => by
    obtain ⟨B, off, e, hB, hc, hT⟩ := h.cells hn
    exact ⟨B, off, e, Nat.lt_of_lt_of_le hB g.size, fun i hi => (g.cell hB (by simp)).trans (hc i hi), hT.g g hB (by simp)⟩⟩
/-- How many limbs are left without those that are 0 at the top. -/
def normN (xs : List Nat) : Nat → Nat
  | 0 => 0
  | n + 1 => if xs.getD n 0 = 0 then normN xs n else n + 1
theorem normN_le (xs : List Nat) : ∀ n, normN xs n ≤ n
  | 0 => Nat.le_refl _
  | n + 1 => by
    rw [normN]; split
    · have := normN_le xs n; omega
    · omega
def normF (xs : List Nat) : List Nat := xs.take (normN xs xs.length)
theorem info106 : (Tryz.prog.info? 106).map (fun i => (i.zero, i.size, i.bytes)) = some (some (.int .u32 0), 1, 4) := by kernel_rfl
set_option maxRecDepth 20000 in
set_option maxHeartbeats 2000000 in
theorem norm_any (A : Option Addr) (n c : Nat) (xs : List Nat) (w : World) (h : NR w A n c xs) :
    Calls Tryz.prog 257 #[.slice A n c] w fun e w' => ∃ A' c', e = .returned (.slice A' (normF xs).length c') ∧ NR w' A' (normF xs).length c' (normF xs) ∧ G w.heap.size none w w' := by
  have hle := h.le
  have hcap := h.cap
  have hsm := h.sm
  have hlen := h.len
  have hn : normF xs = xs.take (normN xs n) := by rw [normF, hlen]
  have HN := Lib.hid hn; clear hn
  have HL := Lib.hid hlen; clear hlen
  have H := Lib.hid h; clear h
  go_enter Tryz.func257, Tryz.ntmps257
  go_wp2_with fail
  go_loopg [3] n (fun k i wr => ∃ j : Nat, i = .int .i64 j ∧ j ≤ n ∧ k = j ∧ normN xs j = normN xs n ∧ wr = w)
  case atStart => exact ⟨n, rfl, Nat.le_refl _, rfl, rfl, rfl⟩
  case round =>
    obtain ⟨j, rfl, hj, hk, hs, rfl⟩ := hrel
    have HK := Lib.hid hk; clear hk
    have HS := Lib.hid hs; clear hs
    by_cases h0 : j = 0
    · subst h0
      have hz : normF xs = [] := by rw [HN.out, ← HS.out, normN]; rfl
      have HZ := Lib.hid hz; clear hz
      go_wp2
      go_ret
      rw [HZ.out]
      exact ⟨none, 0, rfl, ⟨rfl, Nat.le_refl _, by simp, by simp, fun _ => rfl, by simp, fun h => absurd h (by simp)⟩, G.refl _ _ _⟩
    · obtain ⟨B, off, rfl, hB, hc, _⟩ := H.out.cells (by omega)
      have e1 := hc (j - 1) (by omega)
      by_cases hx : xs.getD (j - 1) 0 = 0
      · rw [hx] at e1
        clear hc
        go_wp2
        go_roundg (j - 1)
        case measure => have := HK.out; omega
        case rel =>
          refine ⟨j - 1, by simp; omega, by omega, rfl, ?_, rfl⟩
          rw [← HS.out]
          obtain ⟨m, rfl⟩ : ∃ m, j = m + 1 := ⟨j - 1, by omega⟩
          rw [normN, if_pos (by simpa using hx)]; rfl
      · have hx2 : (((xs.getD (j - 1) 0 : Nat) : Int) == 0) = false := by rw [beq_eq_false_iff_ne]; omega
        have hm : normN xs j = j := by
          obtain ⟨m, rfl⟩ : ∃ m, j = m + 1 := ⟨j - 1, by omega⟩
          rw [normN, if_neg (by simpa using hx)]
        have hz : normF xs = xs.take j := by rw [HN.out, ← HS.out, hm]
        have HZ := Lib.hid hz; clear hz hm
        generalize ((xs.getD (j - 1) 0 : Nat) : Int) = top at e1 hx2
        obtain ⟨i0, hi0, hz0, hs0, hb0⟩ := info_parts info106
        have K := Lib.hid (And.intro hz0 (And.intro hs0 hb0)); clear hz0 hs0 hb0
        have hj1 : ((j : Int) == 0) = false := by rw [beq_eq_false_iff_ne]; omega
        have HC := Lib.hid hc; clear hc hx
        go_wp2_with (first
          | (at_make; go_loud (refine wpList_make_full _ rfl _ _ 24 rfl wr.heap.size 106 i0 (.int .u32 0) 1 Tryz.underlying24 hi0 K.out.1 K.out.2.1 _ _ _ _ j rfl rfl rfl rfl ?_ ?_ ?_ ?_); (rw [K.out.2.2]; omega); (unfold maxLen; omega); exact Nat.le_refl _))
        intro w1 hown hg1
        obtain ⟨cur, hcur, hcs⟩ : ∃ cur : Array Value, w1.heap[wr.heap.size]? = some (.cells cur 106 (0, 0)) ∧ cur.size = j := by
          obtain ⟨_, h | ⟨g, cap, cur, hv, _, hh, h3, h4, h5, h6⟩⟩ := hown
          · cases h.1
          · simp at hv
            obtain ⟨rfl, rfl⟩ := hv
            exact ⟨cur, hh, by omega⟩
        have hb1 : Below wr.heap.size wr w1 := ⟨hg1.os, hg1.tape, hg1.output, hg1.size, fun k hk => hg1.block k hk (by simp)⟩
        have hlen : ((xs.take j).map fun x : Nat => Value.int .u32 x).length = j := by have := HL.out; simp; omega
        have hsrc : ∀ t v, ((xs.take j).map fun x : Nat => Value.int .u32 x)[t]? = some v → w1.cell? ((⟨B, off, none⟩ : Addr).add t) = some v := by
          intro t v hv
          have ht : t < j := by rw [← hlen]; exact (List.getElem?_eq_some_iff.1 hv).1
          rw [add_plain, hb1.cell (p := ⟨B, off + t, none⟩) hB, HC.out t (by omega), ← hv]
          have := HL.out
          simp [List.getElem?_take, ht, List.getD, show t < xs.length by omega]
        have hone : ∀ v ∈ (xs.take j).map (fun x : Nat => Value.int .u32 x), v.oneCell' = true := by
          intro v hv
          obtain ⟨_, _, rfl⟩ := List.mem_map.1 hv
          rfl
        have hfin : ∀ w' : World, w'.heap[wr.heap.size]? = some (.cells ((xs.take j).map fun x : Nat => Value.int .u32 x).toArray 106 (0, 0)) → NR w' (some ⟨wr.heap.size, 0, none⟩) j j (xs.take j) := by
          intro w' hw
          have := HL.out
          refine ⟨by simp; omega, Nat.le_refl _, by omega, by omega, fun e => (by cases e), fun x hx => H.out.bd x (List.mem_of_mem_take hx), fun _ => ⟨_, 0, rfl, lt_heap hw, fun i hi => ?_, _, _, hw⟩⟩
          rw [Nat.zero_add, cell_heap hw]
          simp [List.getElem?_take, hi, show i < xs.length by omega]
        generalize ((xs.take j).map fun x : Nat => Value.int .u32 x) = X at *
        have HO := Lib.hid (And.intro hcur (And.intro hcs (And.intro hb1 (And.intro hlen (And.intro hsrc hone)))))
        have HF := Lib.hid hfin
        clear hcur hcs hb1 hlen hsrc hone hown hg1 hfin
        go_wp2_with (with_reducible refine wpList_copy_splice (o := ⟨some 25, _, _, _, _, _⟩) rfl (.tmp 23) (.tmp 24) 24 24 rfl 106 Tryz.underlying24 (by kernel_rfl) (some ⟨wr.heap.size, 0, none⟩) (some ⟨B, off, none⟩) j j n c rfl rfl wr.heap.size 0 cur.toList 106 ?_ X ?_ (fun _ => ⟨rfl, _, rfl, HO.out.2.2.2.2.1⟩) ?_ HO.out.2.2.2.2.2 wr.heap.size wr HO.out.2.2.1 (Nat.le_refl _) ?_)
        · simpa using HO.out.1
        · rw [HO.out.2.2.2.1]; exact (Nat.min_eq_right hj).symm
        · have h1 := HO.out.2.1; have h2 := HO.out.2.2.2.1; simp; omega
        · intro w2 hc2 hb2
          go_wp2
          go_ret
          have hsp : splice cur.toList 0 X = X := by
            have h1 := HO.out.2.1
            have h2 := HO.out.2.2.2.1
            simp [splice, h2, ← h1]
          have h3 := hc2.out
          rw [hsp] at h3
          have hl : (xs.take j).length = j := by have := HL.out; simp; omega
          rw [HZ.out, hl]
          exact ⟨_, j, rfl, HF.out w2 h3, G.of_below hb2⟩
end Go.Proofs.YtcfjiaogdmjlbaaGreat
