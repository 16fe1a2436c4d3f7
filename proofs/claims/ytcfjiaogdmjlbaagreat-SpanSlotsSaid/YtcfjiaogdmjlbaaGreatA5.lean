/- The walk of the places of names in their order. -/
import Derived.Test.YtcfjiaogdmjlbaaGreatA4
import Derived.WalkSpells
namespace Go.Proofs.YtcfjiaogdmjlbaaGreat
open Go.RowKit
/-- The slice reads as these texts. -/
structure SR (w : World) (A : Option Addr) (n c : Nat) (ks : List ByteArray) : Prop where
  len : ks.length = n
  le : n ≤ c
  cap : c ≤ 9223372036854775807
  sm : n ≤ 1000000
  nil_ : A = none → c = 0
  cells : 0 < n → ∃ B off, A = some ⟨B, off, none⟩ ∧ B < w.heap.size ∧ ∀ i, i < n → w.cell? ⟨B, off + i, none⟩ = some (.string (ks.getD i ByteArray.empty))
theorem SR.g {w w' : World} {A : Option Addr} {n c : Nat} {ks : List ByteArray} (h : SR w A n c ks) {R : Option Nat} (g : G w.heap.size R w w') (hr : R = none) : SR w' A n c ks :=
  ⟨h.len, h.le, h.cap, h.sm, h.nil_, fun hn => by
    obtain ⟨B, off, e, hB, hc⟩ := h.cells hn
    exact ⟨B, off, e, Nat.lt_of_lt_of_le hB g.size, fun i hi => (g.cell hB (by simp [hr])).trans (hc i hi)⟩⟩
theorem heap_set {w : World} {g j : Nat} {cs : Array Value} {T : TypeId} {fz : Nat × Nat} (h : w.heap[g]? = some (.cells cs T fz)) (v : Value) : (w.setCell ⟨g, j, none⟩ v).heap[g]? = some (.cells (cs.setIfInBounds j v) T fz) := by
  simp [World.setCell, Array.getElem?_modify, h]
theorem cell_other (w : World) (g j b o : Nat) (v : Value) (h : b ≠ g) : (w.setCell ⟨g, j, none⟩ v).cell? ⟨b, o, none⟩ = w.cell? ⟨b, o, none⟩ :=
  World.cell?_of_block (Below.heap_setCell w _ v b (by simpa using h))
/-- Does a text stand ahead of another one, by bytes? -/
def sless (a b : ByteArray) : Bool := Op.bytesLess a.toList b.toList
theorem less_any (a b : ByteArray) (w : World) :
    Calls Tryz.prog 228 #[.string a, .string b] w fun e w' => e = .returned (.bool (sless a b)) ∧ w' = w := by
  go_enter Tryz.func228, Tryz.ntmps228
  go_wp2
  go_ret
  exact ⟨rfl, rfl⟩
def ltK (ks : List ByteArray) (i k : Int) : Bool := sless (ks.getD i.toNat ByteArray.empty) (ks.getD k.toNat ByteArray.empty)
set_option maxRecDepth 20000 in
theorem places1_any (A : Option Addr) (n c : Nat) (ks : List ByteArray) (P1 P2 : Nat) (i k : Int) (w : World) (h : SR w A n c ks)
    (h1 : w.cell? ⟨P1, 0, none⟩ = some (.func (.func 228) #[] #[])) (h2 : w.cell? ⟨P2, 0, none⟩ = some (.slice A n c)) (hi : 0 ≤ i ∧ i < n) (hk : 0 ≤ k ∧ k < n) :
    Calls Tryz.prog 239 #[.int .i64 i, .int .i64 k, .pointer (some ⟨P1, 0, none⟩), .pointer (some ⟨P2, 0, none⟩)] w fun e w' => e = .returned (.bool (ltK ks i k)) ∧ ∃ m, w' = w.drewN m := by
  obtain ⟨B, off, rfl, hB, hc⟩ := h.cells (by omega)
  have e1 := hc i.toNat (by omega)
  have e2 := hc k.toNat (by omega)
  have hn : (n : Int) ≤ 1000000 := by have := h.sm; omega
  have hcc := h.cap
  have hle := h.le
  obtain ⟨i1, i2⟩ := hi
  obtain ⟨k1, k2⟩ := hk
  clear h hc
  go_enter Tryz.func239, Tryz.ntmps239
  go_wp2
  go_quiet ((go_at_call 228; exact Calls.quiet_of_same (less_any _ _ _)))
  go_wp2
  go_ret
  exact ⟨rfl, _, rfl⟩
/-- The places from 0 on. -/
def upto (n : Nat) : List Int := (List.range n).map Int.ofNat
theorem upto_getD (n i : Nat) (h : i < n) : (upto n).getD i 0 = (i : Int) := by simp [upto, List.getD, h]
/-- The filling loop of 'places': what holds at a round's head. -/
def PRel (w : World) (A : Option Addr) (n c : Nat) (g : Nat) (k : Nat) (i : Value) (wr : World) : Prop :=
  ∃ j cur, i = .int .i64 (j : Nat) ∧ j ≤ n ∧ k = n - j ∧ wr.heap[g]? = some (.cells cur 3 (0, 0)) ∧ cur.size = n ∧ (∀ x, x < j → cur[x]? = some (.int .i64 (x : Nat))) ∧
    wr.cell? ⟨w.heap.size, 0, none⟩ = some (.slice A n c) ∧ wr.cell? ⟨w.heap.size + 1, 0, none⟩ = some (.func (.func 228) #[] #[]) ∧ w.heap.size + 2 < wr.heap.size ∧ G w.heap.size none w wr
set_option maxRecDepth 20000 in
set_option maxHeartbeats 1000000 in
theorem places_any (A : Option Addr) (n c : Nat) (ks : List ByteArray) (w : World) (h : SR w A n c ks) (hn : n ≤ 500000) :
    Calls Tryz.prog 227 #[.slice A n c, .func (.func 228) #[] #[]] w fun e w' => ∃ A' c', e = .returned (.slice A' n c') ∧ IR w' A' n c' (sortF (ltK ks) (upto n)) ∧ G w.heap.size none w w' := by
  obtain ⟨i3, hi3, hz3, hs3, hb3⟩ := info_parts info3
  have K := Lib.hid (show i3.zero = some (.int .i64 0) ∧ i3.size = 1 ∧ i3.bytes = 8 from ⟨hz3, hs3, hb3⟩); clear hz3 hs3 hb3
  have H := Lib.hid h; clear h
  go_enter Tryz.func227, Tryz.ntmps227
  go_wp2_with (at_make; go_loud (refine wpList_make_full _ rfl _ _ 22 rfl w.heap.size 3 i3 (.int .i64 0) 1 Tryz.underlying22 hi3 K.out.1 K.out.2.1 _ _ _ _ n rfl rfl rfl rfl (by rw [K.out.2.2]; omega) (by unfold maxLen; omega) (by simp; omega) ?_))
  intro w1 hown hg
  have g0 := hg
  have e1 : w1.cell? ⟨w.heap.size, 0, none⟩ = some (.slice A n c) := (World.cell?_of_block (hg.block w.heap.size (by simp; omega) (by simp))).trans (by simp [go_sem])
  have e2 : w1.cell? ⟨w.heap.size + 1, 0, none⟩ = some (.func (.func 228) #[] #[]) := (World.cell?_of_block (hg.block (w.heap.size + 1) (by simp; try omega) (by simp))).trans (by simp [go_sem])
  have hsz : w.heap.size + 2 < w1.heap.size := by
    obtain ⟨_, h | ⟨g, cap, cur, hv, _, hh, _⟩⟩ := hown
    · cases h.1
    · simp at hv
      obtain ⟨rfl, _⟩ := hv
      exact lt_heap hh
  have g1 : G w.heap.size none w w1 := (((G.refl _ _ _).alloc _ (Nat.le_refl _)).alloc _ (by simp; try omega)).grown hg (by simp; omega) (by simp)
  obtain ⟨cur, hcur, hcs⟩ : ∃ cur, w1.heap[w.heap.size + 1 + 1]? = some (.cells cur 3 (0, 0)) ∧ cur.size = n := by
    obtain ⟨_, h | ⟨g, cap, cur, hv, _, hh, h3, h4, h5, h6⟩⟩ := hown
    · cases h.1
    · simp at hv
      obtain ⟨rfl, rfl⟩ := hv
      exact ⟨cur, hh, by omega⟩
  have E := Lib.hid (show PRel w A n c (w.heap.size + 1 + 1) n (.int .i64 0) w1 from ⟨0, cur, rfl, Nat.zero_le _, rfl, hcur, hcs, by simp, e1, e2, hsz, g1⟩)
  clear e1 e2 hsz g1 hcur hcs g0 hown hg
  go_wp2_with fail
  go_loopg [12] n (fun k i wr => PRel w A n c (w.heap.size + 1 + 1) k i wr)
  case atStart => exact E.out
  case round =>
    obtain ⟨j, cur, rfl, hj, hk, hcur, hcs, hall, e1, e2, hsz, g1⟩ := hrel
    have ALL := Lib.hid hall; clear hall E
    have G1 := Lib.hid g1; clear g1
    have CS := Lib.hid hcs; clear hcs
    have HK := Lib.hid hk; clear hk
    have hfz := froz_heap hcur j
    by_cases hlt : j < n
    · obtain ⟨v, hv⟩ : ∃ v, wr.cell? ⟨w.heap.size + 1 + 1, j, none⟩ = some v := ⟨cur[j]'(by rw [CS.out]; exact hlt), by rw [cell_heap hcur]; simp [CS.out, hlt]⟩
      have HCUR := Lib.hid hcur; clear hcur
      go_wp2
      go_roundg (n - (j + 1))
      case measure => have := HK.out; omega
      case rel =>
        refine ⟨j + 1, cur.setIfInBounds j (.int .i64 j), by simp, by omega, rfl, heap_set HCUR.out _, by simp [CS.out], fun x hx => ?_, ?_, ?_, by simpa using hsz, G1.out.put _ _ _ (by omega)⟩
        · by_cases hxj : x = j
          · subst hxj; simp [CS.out, hlt]
          · rw [Array.getElem?_setIfInBounds_ne (by omega)]; exact ALL.out x (by omega)
        · rw [cell_other _ _ _ _ _ _ (by omega)]; exact e1
        · rw [cell_other _ _ _ _ _ _ (by omega)]; exact e2
    · obtain rfl : j = n := by omega
      have hir : IR wr (some ⟨w.heap.size + 1 + 1, 0, none⟩) j j (upto j) := by
        refine ⟨by simp [upto], Nat.le_refl _, by omega, by omega, fun e => (by cases e), fun h0 => ⟨_, 0, rfl, lt_heap hcur, fun i hi => ?_, _, _, hcur⟩⟩
        rw [cell_heap hcur, Nat.zero_add, ALL.out i hi, upto_getD _ _ hi]
      have hcl : CL wr 239 [.pointer (some ⟨w.heap.size + 1, 0, none⟩), .pointer (some ⟨w.heap.size, 0, none⟩)] (ltK ks) (fun i => 0 ≤ i ∧ i < j) := fun i k hi hk W g =>
        places1_any A j c ks (w.heap.size + 1) w.heap.size i k W ((H.out.g G1.out rfl).g g rfl) ((g.cell (by omega) (by simp)).trans e2) ((g.cell (by omega) (by simp)).trans e1) hi hk
      have HIR := Lib.hid hir
      have HCL := Lib.hid hcl
      clear hir hcl hcur e1 e2 ALL CS HK hfz
      go_wp2_with (go_at_call 238; refine (sorted_any (ltK ks) _ _ _ j _ _ _ _ _ (Nat.le_refl _) hn HIR.out HCL.out (by intro x hx; simp [upto] at hx; omega)).mono ?_; rintro e w2 ⟨A2, c2, rfl, hI2, hG2⟩)
      go_ret
      exact ⟨A2, c2, rfl, hI2, G1.out.trans (hG2.mono G1.out.size)⟩
end Go.Proofs.YtcfjiaogdmjlbaaGreat
