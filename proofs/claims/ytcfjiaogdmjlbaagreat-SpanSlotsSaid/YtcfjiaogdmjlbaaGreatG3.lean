/- The walk of Place; Slot, Find and Skip over an object of nulls; the document's example; a law for regions that draw, of which a last store turns a cell that they load. -/
import Derived.Test.YtcfjiaogdmjlbaaGreatF8
import Derived.OrdersHeld
namespace Go.Proofs.YtcfjiaogdmjlbaaGreat
open Go.RowKit
theorem place_mod (v n : Int) (hn : n = 8 ∨ n = 2) (hv : -9223372036854775808 ≤ v ∧ v ≤ 9223372036854775807) (w : World) :
    Calls Tryz.prog 8 #[.int .i64 v, .int .i64 n] w fun e w' => e = .returned (.int .i64 (v % n)) ∧ w = w' := by
  have ht : (0 ≤ v ∧ Int.tmod v n = v % n) ∨ (v < 0 ∧ Int.tmod v n = -((-v) % n)) := by
    by_cases h0 : 0 ≤ v
    · exact .inl ⟨h0, Int.tmod_eq_emod_of_nonneg h0⟩
    · exact .inr ⟨by omega, by rw [← Int.tmod_eq_emod_of_nonneg (by omega : 0 ≤ -v), Int.neg_tmod, Int.neg_neg]⟩
  have hb : -n < Int.tmod v n ∧ Int.tmod v n < n := by generalize Int.tmod v n = t at *; rcases hn with rfl | rfl <;> omega
  have hw : IntKind.i64.wrap (Int.tmod v n) = Int.tmod v n := IntWalk.i64_in _ (by rcases hn with rfl | rfl <;> omega)
  have HT := Lib.hid ht
  by_cases h : Int.tmod v n < 0
  · have e : v % n = Int.tmod v n + n := by clear hw; generalize Int.tmod v n = t at *; rcases hn with rfl | rfl <;> omega
    rw [e]
    clear e ht HT
    rcases hn with rfl | rfl
    all_goals
      go_enter Tryz.func8, Tryz.ntmps8
      go_wp2
      go_ret
      exact ⟨rfl, rfl⟩
  · have e : v % n = Int.tmod v n := by clear hw; generalize Int.tmod v n = t at *; rcases hn with rfl | rfl <;> omega
    rw [e]
    clear e ht HT
    rcases hn with rfl | rfl
    all_goals
      go_enter Tryz.func8, Tryz.ntmps8
      go_wp2
      go_ret
      exact ⟨rfl, rfl⟩
/-- The bytes of an object of nulls. -/
def encL (f : Int) (kw : List ByteArray) : List UInt8 := if f = 2 then UInt8.ofNat (160 + kw.length) :: body 96 246 kw else UInt8.ofNat (128 + kw.length) :: body 160 192 kw
/-- What is known of the names in their order, and of another one. -/
structure Good (f : Int) (kw : List ByteArray) (nm : ByteArray) (le : Nat) : Prop where
  fmt : f = 2 ∨ f = 3
  asc : ∀ k ∈ kw, Asc k
  few : kw.length ≤ 8
  tw : twAux [] kw 0 = (0, false)
  ne : ∀ j, j < kw.length → ((kw.getD j ⟨#[]⟩).toList == nm.toList) = false
  le_ : le ≤ kw.length
  lo : ∀ j, j < le → abv f (kw.getD j ⟨#[]⟩) nm = false
  hi : ∀ j, le ≤ j → j < kw.length → abv f (kw.getD j ⟨#[]⟩) nm = true
section
variable {f : Int} {kw : List ByteArray} {nm : ByteArray} {le : Nat}
theorem encL_len (hk : ∀ k ∈ kw, Asc k) : (encL f kw).length ≤ 1 + 26 * kw.length ∧ 0 < (encL f kw).length := by
  have h1 := body_le 96 246 kw (fun k h => (hk k h).1)
  have h2 := body_le 160 192 kw (fun k h => (hk k h).1)
  unfold encL
  split <;> (simp only [List.length_cons]; omega)
theorem Good.row (h : Good f kw nm le) : Row f (encL f kw) (encL f kw).length (psf 1 kw) (txf kw) (2 * kw.length) ∧ psf 1 kw (2 * kw.length) = (encL f kw).length := by
  rcases h.fmt with rfl | rfl
  · have := items_body kw [UInt8.ofNat (160 + kw.length)] h.asc
    exact row_of_items _ kw 1 this
  · have := pitems_body kw [UInt8.ofNat (128 + kw.length)] h.asc
    exact row_of_pitems _ kw 1 this
theorem Good.head (h : Good f kw nm le) : Tk f (encL f kw) (encL f kw).length 0 7 (psf 1 kw 0 : Nat) 0 (kw.length : Nat) ⟨#[]⟩ := by
  have hf := h.few
  rw [psf_zero]
  refine ⟨(encL_len h.asc).2, .inr (.inr (.inl ⟨kw.length, by omega, ?_, rfl, rfl, rfl, rfl, rfl⟩))⟩
  rcases h.fmt with rfl | rfl
  · refine .inl ⟨rfl, ?_⟩
    show ((UInt8.ofNat (160 + kw.length)).toNat : Int) = _
    rw [UInt8.toNat_ofNat', Nat.mod_eq_of_lt (by omega)]; omega
  · refine .inr ⟨rfl, ?_⟩
    show ((UInt8.ofNat (128 + kw.length)).toNat : Int) = _
    rw [UInt8.toNat_ofNat', Nat.mod_eq_of_lt (by omega)]; omega
theorem Good.right (h : Good f kw nm le) (W : World) : Calls Tryz.prog 26 #[.int .i64 f, .string ⟨(encL f kw).toArray⟩] W fun e w' => e = .returned (.bool true) ∧ G W.heap.size none W w' := by
  have hf := h.few
  have hl := encL_len (f := f) h.asc
  refine right_of f _ W h.fmt ?_
  rcases h.fmt with rfl | rfl
  · refine codec_cbor _ kw W (by simpa [ByteArray.size] using hl.2) (by simp only [ByteArray.size, List.size_toArray]; omega) (by omega) ?_ ?_ h.tw
    · show ((UInt8.ofNat (160 + kw.length)).toNat : Int) = _
      rw [UInt8.toNat_ofNat', Nat.mod_eq_of_lt (by omega)]; omega
    · exact items_body kw [UInt8.ofNat (160 + kw.length)] h.asc
  · refine codec_pack _ W (by simp only [ByteArray.size, List.size_toArray]; omega) ?_
    refine pval_object _ kw _ (by simp [ByteArray.size]) (by simpa [ByteArray.size] using hl.2) (by simp only [ByteArray.size, List.size_toArray]; omega) (by omega) ?_ ?_ h.tw
    · show ((UInt8.ofNat (128 + kw.length)).toNat : Int) = _
      rw [UInt8.toNat_ofNat', Nat.mod_eq_of_lt (by omega)]; omega
    · exact pitems_body kw [UInt8.ofNat (128 + kw.length)] h.asc
/-- Where the name would come. -/
def QN (f : Int) (kw : List ByteArray) (le : Nat) (k a z h b s m i : Int) (x : Bool) : Prop :=
  x = false ∧ k = (psf 1 kw (2 * le) : Nat) ∧ a = k ∧ z = k ∧ h = 0 ∧ b = 1 ∧ s = ((encL f kw).length : Nat) ∧ m = (kw.length : Nat) ∧ i = (le : Nat)
theorem Good.name (h : Good f kw nm le) (B cap : Nat) (W : World) (hc : (encL f kw).length ≤ cap) (hc2 : cap ≤ 9223372036854775807) (hB : BY W B (encL f kw)) :
    Calls Tryz.prog 34 #[scan f B (encL f kw).length cap, .int .i64 0, .string nm] W (Ans (QN f kw le) W) := by
  have hf := h.few
  have hl := encL_len (f := f) h.asc
  obtain ⟨r1, r2⟩ := h.row
  have hp0 : psf 1 kw 0 = 1 := psf_zero _ _
  refine (name_row f B _ cap (encL f kw) 0 kw.length (2 * kw.length) (psf 1 kw) (txf kw) nm W rfl (by omega) hc hc2 rfl (by omega) h.head r1 hB).mono ?_
  rintro e w' ⟨hg, hr⟩
  refine ⟨hg, ?_⟩
  rcases hr with ⟨j, hj, he, _⟩ | ⟨hne, K, I, hK, rfl⟩
  · exfalso
    have := h.ne j hj
    rw [txf_even] at he
    rw [he] at this
    simp at this
  · refine ⟨_, _, _, _, _, _, _, _, _, rfl, rfl, ?_, rfl, rfl, rfl, by rw [hp0]; rfl, by rw [r2], rfl, ?_⟩
    · rcases hK with ⟨h1, h2, h3⟩ | ⟨h1, h2, h3, h4⟩
      · have : le = kw.length := by
          rcases Nat.lt_or_ge le kw.length with hlt | hge
          · have a1 := h.hi le (Nat.le_refl _) hlt
            have a2 := h3 le hlt
            rw [txf_even, a1] at a2
            cases a2
          · have := h.le_; omega
        rw [this, h1]
      · have : I = le := by
          rcases Nat.lt_trichotomy I le with hlt | he | hgt
          · have a1 := h.lo I hlt
            rw [txf_even, a1] at h3
            cases h3
          · exact he
          · have a1 := h.hi le (Nat.le_refl _) (by omega)
            have a2 := h4 le hgt
            rw [txf_even, a1] at a2
            cases a2
        rw [h2, this]
    · rcases hK with ⟨h1, h2, h3⟩ | ⟨h1, h2, h3, h4⟩
      · have : le = kw.length := by
          rcases Nat.lt_or_ge le kw.length with hlt | hge
          · have a1 := h.hi le (Nat.le_refl _) hlt
            have a2 := h3 le hlt
            rw [txf_even, a1] at a2
            cases a2
          · have := h.le_; omega
        rw [this, h2]
      · have : I = le := by
          rcases Nat.lt_trichotomy I le with hlt | he | hgt
          · have a1 := h.lo I hlt
            rw [txf_even, a1] at h3
            cases h3
          · exact he
          · have a1 := h.hi le (Nat.le_refl _) (by omega)
            have a2 := h4 le hgt
            rw [txf_even, a1] at a2
            cases a2
        rw [this]
theorem Good.slot (h : Good f kw nm le) (PB po c : Nat) (w : World) (hP : PB < w.heap.size) (hc : w.cell? ⟨PB, po, none⟩ = some (.string nm)) (hcc : 1 ≤ c ∧ c ≤ 9223372036854775807) :
    Calls Tryz.prog 13 #[.int .i64 f, .string ⟨(encL f kw).toArray⟩, .slice (some ⟨PB, po, none⟩) 1 c] w (Ans (fun k a z h b s m i x => x = true ∧ ∃ x', QN f kw le k a z h b s m i x') w) := by
  have hf := h.few
  have hl := encL_len (f := f) h.asc
  have hs : (⟨(encL f kw).toArray⟩ : ByteArray).size = (encL f kw).length := by simp [ByteArray.size]
  refine slot_ok f ⟨(encL f kw).toArray⟩ PB po c kw.length (psf 1 kw 0 : Nat) nm (QN f kw le) w (by rw [hs]; omega) hP hc hcc h.right (by rw [hs]; exact h.head) ?_
  intro B cap W h1 h2 h3
  rw [hs] at h1 ⊢
  exact h.name B cap W h1 h2 h3
theorem Good.find (h : Good f kw nm le) (PB po c : Nat) (w : World) (hP : PB < w.heap.size) (hc : w.cell? ⟨PB, po, none⟩ = some (.string nm)) :
    Calls Tryz.prog 11 #[.int .i64 f, .string ⟨(encL f kw).toArray⟩, .slice (some ⟨PB, po, none⟩) 1 c] w (Ans (fun _ _ _ _ _ _ _ _ x => x = false) w) := by
  have hf := h.few
  have hl := encL_len (f := f) h.asc
  have hs : (⟨(encL f kw).toArray⟩ : ByteArray).size = (encL f kw).length := by simp [ByteArray.size]
  refine (find_ok f ⟨(encL f kw).toArray⟩ PB po c nm (QN f kw le) w (by rw [hs]; omega) hP hc h.right ?_).mono ?_
  · intro B cap W h1 h2 h3
    rw [hs] at h1 ⊢
    exact step_name f B _ cap (encL f kw) 0 kw.length _ nm (QN f kw le) W rfl (by omega) h1 h2 h.head h3 (fun W' hB => h.name B cap W' h1 h2 hB)
  · rintro e w' ⟨hg, k, a, z, h', b, s, m, i, x, he, hx, _⟩
    refine ⟨hg, k, a, z, h', b, s, m, i, x, he, ?_⟩
    cases x with
    | false => rfl
    | true => exact (hx rfl).1
theorem Good.skip (h : Good f kw nm le) (i : Nat) (hi : i < 2 * kw.length) (w : World) :
    Calls Tryz.prog 15 #[.int .i64 f, .string ⟨(encL f kw).toArray⟩, .int .i64 (psf 1 kw i : Nat)] w fun e w' => e = .returned (.tuple #[.int .i64 (psf 1 kw (i + 1) : Nat), .bool true]) ∧ G w.heap.size none w w' := by
  have hf := h.few
  have hl := encL_len (f := f) h.asc
  obtain ⟨r1, r2⟩ := h.row
  have hp0 : psf 1 kw 0 = 1 := psf_zero _ _
  have hs : (⟨(encL f kw).toArray⟩ : ByteArray).size = (encL f kw).length := by simp [ByteArray.size]
  refine skip_ok f _ _ ⟨(encL f kw).toArray⟩ w (by rw [hs]; omega) h.right ?_ ?_
  · intro B cap W h1 h2 h3
    rw [hs] at h1 ⊢
    exact begins_row f B _ cap (encL f kw) 0 7 kw.length (2 * kw.length) i (psf 1 kw) (txf kw) W rfl (by omega) h1 h2 (.inl ⟨rfl, rfl⟩) (by omega) (by omega) h.head r1 hi h3
  · intro B cap W h1 h2 h3
    rw [hs] at h1 ⊢
    exact skip_leaf f B _ cap (encL f kw) (psf 1 kw i) _ (txf kw i) W rfl (by omega) h1 h2 h3 (r1 i hi)
end
def LA : List UInt8 := [161, 97, 97, 1]
def LB : List UInt8 := [146, 1, 2]
def kA : List ByteArray := [⟨#[97]⟩]
theorem itemsA : Items LA kA 1 LA.length := by
  refine ⟨by decide, by decide, by decide, ?_, .inr ⟨1, by decide, by decide⟩, rfl⟩
  intro i h
  have h1 : i < 1 := h
  obtain rfl : i = 0 := by omega
  show (97 : UInt8).toNat < 128
  decide
theorem rightA (W : World) : Calls Tryz.prog 26 #[.int .i64 2, .string ⟨#[161, 97, 97, 1]⟩] W fun e w' => e = .returned (.bool true) ∧ G W.heap.size none W w' :=
  right_of 2 _ W (.inl rfl) (codec_cbor _ kA W (by decide) (by decide) (by decide) (by decide) itemsA (by decide))
theorem headA : Tk 2 LA 4 0 7 (psf 1 kA 0 : Nat) 0 ((1 : Nat) : Int) ⟨#[]⟩ :=
  ⟨by decide, .inr (.inr (.inl ⟨1, by decide, .inl ⟨rfl, by decide⟩, rfl, by decide, rfl, rfl, rfl⟩))⟩
theorem nameA (B cap : Nat) (W : World) (h1 : 4 ≤ cap) (h2 : cap ≤ 9223372036854775807) (hB : BY W B LA) :
    Calls Tryz.prog 34 #[scan 2 B 4 cap, .int .i64 0, .string ⟨#[97]⟩] W (Ans (fun k a z _ _ _ _ _ x => x = true ∧ k = 1 ∧ a = 3 ∧ z = 4) W) := by
  obtain ⟨r1, r2⟩ := row_of_items LA kA 1 itemsA
  refine (name_row 2 B 4 cap LA 0 1 2 (psf 1 kA) (txf kA) ⟨#[97]⟩ W rfl (by decide) h1 h2 rfl (by decide) headA r1 hB).mono ?_
  rintro e w' ⟨hg, hr⟩
  refine ⟨hg, ?_⟩
  rcases hr with ⟨j, hj, he, rfl⟩ | ⟨hne, _⟩
  · obtain rfl : j = 0 := by omega
    exact ⟨_, _, _, _, _, _, _, _, _, rfl, rfl, rfl, rfl, rfl⟩
  · exact absurd (hne 0 (by decide)) (by simp [txf, kA])
theorem findA (PB po c : Nat) (w : World) (hP : PB < w.heap.size) (hc : w.cell? ⟨PB, po, none⟩ = some (.string ⟨#[97]⟩)) :
    Calls Tryz.prog 11 #[.int .i64 2, .string ⟨#[161, 97, 97, 1]⟩, .slice (some ⟨PB, po, none⟩) 1 c] w (Ans (fun k a z _ _ _ _ _ x => x = true ∧ k = 1 ∧ a = 3 ∧ z = 4) w) := by
  refine (find_ok 2 ⟨#[161, 97, 97, 1]⟩ PB po c ⟨#[97]⟩ (fun k a z _ _ _ _ _ x => x = true ∧ k = 1 ∧ a = 3 ∧ z = 4) w (by decide) hP hc rightA ?_).mono ?_
  · intro B cap W h1 h2 h3
    exact step_name 2 B 4 cap LA 0 1 _ ⟨#[97]⟩ _ W rfl (by decide) h1 h2 headA h3 (fun W' hB => nameA B cap W' h1 h2 hB)
  · rintro e w' ⟨hg, k, a, z, h', b, s, m, i, x, he, hx, hy⟩
    refine ⟨hg, k, a, z, h', b, s, m, i, x, he, ?_⟩
    cases x with
    | true => exact hx rfl
    | false => obtain ⟨_, _, _, _, _, _, _, _, h, _⟩ := hy rfl; cases h
theorem rowB : Row 3 LB 3 (fun i => i + 1) (fun _ => ⟨#[]⟩) 2 := fun i hi => by
  match i, hi with
  | 0, _ => exact ⟨by decide, .inr (.inl ⟨.inr (.inr ⟨.inr rfl, 1, by decide, by decide⟩), rfl, rfl, rfl, rfl, rfl⟩)⟩
  | 1, _ => exact ⟨by decide, .inr (.inl ⟨.inr (.inr ⟨.inr rfl, 2, by decide, by decide⟩), rfl, rfl, rfl, rfl, rfl⟩)⟩
theorem rightB (W : World) : Calls Tryz.prog 26 #[.int .i64 3, .string ⟨#[146, 1, 2]⟩] W fun e w' => e = .returned (.bool true) ∧ G W.heap.size none W w' :=
  right_of 3 _ W (.inr rfl) (codec_pack _ W (by decide) (pval_array LB 2 3 rfl rfl (by decide) (by decide) (by decide) (fun i hi => by
    match i, hi with
    | 0, _ => exact .inr ⟨1, by decide, by decide⟩
    | 1, _ => exact .inr ⟨2, by decide, by decide⟩)))
theorem headB : Tk 3 LB 3 0 6 ((1 : Nat) : Int) 0 ((2 : Nat) : Int) ⟨#[]⟩ :=
  ⟨by decide, .inr (.inr (.inr ⟨2, by decide, .inr ⟨rfl, by decide⟩, rfl, by decide, rfl, rfl, rfl⟩))⟩
theorem skipB (w : World) : Calls Tryz.prog 15 #[.int .i64 3, .string ⟨#[146, 1, 2]⟩, .int .i64 1] w fun e w' => e = .returned (.tuple #[.int .i64 2, .bool true]) ∧ G w.heap.size none w w' := by
  refine skip_ok 3 1 2 ⟨#[146, 1, 2]⟩ w (by decide) rightB ?_ ?_
  · intro B cap W h1 h2 h3
    exact begins_row 3 B 3 cap LB 0 6 2 2 0 (fun i => i + 1) (fun _ => ⟨#[]⟩) W rfl (by decide) h1 h2 (.inr ⟨rfl, rfl⟩) (by decide) (by decide) headB rowB (by decide) h3
  · intro B cap W h1 h2 h3
    exact skip_leaf 3 B 3 cap LB 1 2 ⟨#[]⟩ W rfl (by decide) h1 h2 h3 (rowB 0 (by decide))
set_option maxRecDepth 20000 in
set_option maxHeartbeats 1000000 in
theorem awake_ok (w : World) : Calls Tryz.prog 6 #[] w fun e w' => e = .returned (.bool true) ∧ G w.heap.size none w w' := by
  have HF := Lib.hid (findA w.heap.size 0 1 (w.alloc (.cells #[.string ⟨#[97]⟩] 9)) (by simp) (cell_new _ _ _))
  go_enter Tryz.func6, Tryz.ntmps6
  go_wp2_with fail
  refine HF.out.mono ?_
  rintro e w1 ⟨hg1, k, a, z, h, b, s, m, i, x, rfl, rfl, rfl, rfl, rfl⟩
  have HG1 := Lib.hid hg1.past
  have hPL := heap_new w1 (.cells #[.int .i64 1, .int .i64 3, .int .i64 4, .int .i64 h, .int .i64 b, .int .i64 s, .int .i64 m, .bool false, .int .i64 i] 38)
  have hga := (G.refl w1.heap.size none w1).alloc (.cells #[.int .i64 1, .int .i64 3, .int .i64 4, .int .i64 h, .int .i64 b, .int .i64 s, .int .i64 m, .bool false, .int .i64 i] 38) (Nat.le_refl _)
  clear hg1
  go_wp2_with fail
  generalize w1.alloc (.cells #[.int .i64 1, .int .i64 3, .int .i64 4, .int .i64 h, .int .i64 b, .int .i64 s, .int .i64 m, .bool false, .int .i64 i] 38) = w2 at *
  have HG2 := Lib.hid (HG1.out.trans (hga.mono HG1.out.size))
  clear hga
  refine (skipB w2).mono ?_
  rintro e w3 ⟨rfl, hg3⟩
  have hP3 := (hg3.block _ (lt_heap hPL) (by simp)).trans hPL
  have HG3 := Lib.hid (HG2.out.trans (hg3.mono HG2.out.size))
  obtain ⟨q0, q1, q2, q3, q4, q5, q6, q7, q8⟩ := cells9 hP3
  clear hg3 hPL hP3
  go_wp2
  go_ret
  exact ⟨rfl, HG3.out⟩
open Go
section
variable {P : Program} {md : Region.Mode} {ops : Array Oper} {Q : Exit → Act → World → Prop} {d : Nat} {S : Bool → World → Prop}
/-- Whatever order is picked; what is held of the world turns once number d (a store) has been carried out. -/
def AnyT (P : Program) (md : Region.Mode) (ops : Array Oper) (Q : Exit → Act → World → Prop) (d : Nat) (S : Bool → World → Prop) : Nat → Array Bool → Act → World → Prop
  | 0, l, a, w => Region.ready md ops l = [] ∧ Q .normal a w
  | k + 1, l, a, w => (Region.ready md ops l = [] → Q .normal a w) ∧
      ∀ i ∈ Region.ready md ops l, wpOp P ops Q i (fun a' w' => S ((l.setIfInBounds i true).getD d false) w' ∧ AnyT P md ops Q d S k (l.setIfInBounds i true) a' w') a w
theorem AnyT.any : ∀ (k : Nat) (l : Array Bool) (a : Act) (w : World), AnyT P md ops Q d S k l a w → wpAny P md ops Q k l a w
  | 0, _, _, _, h => h
  | k + 1, _, _, _, h => ⟨h.1, fun i hi => wpOp_mono (fun a' w' h' => AnyT.any k _ a' w' h'.2) (h.2 i hi)⟩
theorem getD_other {l : Array Bool} {i j : Nat} (h : i ≠ j) (x : Bool) : (l.setIfInBounds i true).getD j x = l.getD j x := by
  simp [Array.getD_eq_getD_getElem?, Array.getElem?_setIfInBounds_ne h]
theorem getD_ft {l : Array Bool} {j : Nat} (h : l.getD j false = true) : l.getD j true = true := by
  rw [Array.getD_eq_getD_getElem?] at *
  cases e : l[j]? with
  | none => rfl
  | some b => rw [e] at h; exact h
theorem AnyT.first {i : Nat} {oi : Oper} {v : Value} {b : Bool} (hi : ops[i]? = some oi) (hsel : ∀ (j : Nat) (o : Oper) cs c, ops[j]? = some o → o.op ≠ .select cs c)
    (hQ : ∀ c a w, Q (.panic c) (a.put oi.dst v) w → Q (.panic c) a w) (hid : i ≠ d) (hw : b = true ∨ ∃ od, ops[d]? = some od ∧ ∃ e ∈ od.after, Region.binds md e = true ∧ e.on = i) :
    ∀ (k : Nat) (l : Array Bool) (a : Act) (w : World),
      (∀ j oj, ops[j]? = some oj → j ≠ i → l.getD j true = false → (∀ e ∈ oj.after, Region.binds md e = true → e.on ≠ i) → oi.apart ops oj = true) →
      i ∈ Region.ready md ops l → l.getD d false = b → YieldsIf P ops (S b) oi v a → S b w →
      AnyT P md ops Q d S k (l.setIfInBounds i true) (a.put oi.dst v) w → AnyT P md ops Q d S (k + 1) l a w := by
  intro k
  induction k with
  | zero =>
    intro l a w _ hr hb hy hS H
    refine ⟨fun h => (by rw [h] at hr; cases hr), fun j hj => ?_⟩
    by_cases hji : j = i
    · subst hji; exact hy.wpOp hi hS ⟨by rw [getD_other hid, hb]; exact hS, H⟩
    · have := ready_mono hj hji
      rw [H.1] at this
      cases this
  | succ k ih =>
    intro l a w hfree hr hb hy hS H
    refine ⟨fun h => (by rw [h] at hr; cases hr), fun j hj => ?_⟩
    by_cases hji : j = i
    · subst hji; exact hy.wpOp hi hS ⟨by rw [getD_other hid, hb]; exact hS, H⟩
    · have h1 := H.2 j (ready_mono hj hji)
      obtain ⟨hjun, oj, hoj, hall⟩ := mem_ready.1 hj
      have hiun := (mem_ready.1 hr).1
      have hlt : l.getD i false = true → False := fun h => by
        rw [getD_ft h] at hiun; cases hiun
      have hnot : ∀ e ∈ oj.after, Region.binds md e = true → e.on ≠ i := fun e he hbd heq => by
        have h1 := hall e he hbd
        rw [heq] at h1
        exact hlt h1
      have hb2 : (l.setIfInBounds j true).getD d false = b := by
        by_cases hjd : j = d
        · subst hjd
          rcases hw with rfl | ⟨od, hod, e, he, hbd, heq⟩
          · have := getD_ft hb
            rw [this] at hjun; cases hjun
          · rw [hoj] at hod; cases hod
            exact absurd heq (hnot e he hbd)
        · rw [getD_other hjd]; exact hb
      have h2 := wpOp_putIf hoj (hfree j oj hoj hji hjun hnot) (fun cs c => hsel i oi cs c hi) (fun cs c => hsel j oj cs c hoj) hQ hy h1
      have hfree' : ∀ k ok, ops[k]? = some ok → k ≠ i → (l.setIfInBounds j true).getD k true = false →
          (∀ e ∈ ok.after, Region.binds md e = true → e.on ≠ i) → oi.apart ops ok = true := fun k ok hk hki hun hno => by
        refine hfree k ok hk hki ?_ hno
        by_cases hjk : j = k
        · subst hjk; exact hjun
        · rw [getD_other hjk] at hun; exact hun
      refine wpOp_mono (fun a' w' h3 => ?_) h2
      obtain ⟨hy3, hs3, ht3⟩ := h3
      rw [Array.setIfInBounds_comm _ _ (Ne.symm hji), getD_other hid] at hs3
      rw [Array.setIfInBounds_comm _ _ (Ne.symm hji)] at ht3
      exact ⟨hs3, ih (l.setIfInBounds j true) a' w' hfree' (ready_mono hr (Ne.symm hji)) hb2 hy3 (by rw [hb2] at hs3; exact hs3) ht3⟩
theorem AnyT.take {i : Nat} {oi : Oper} {v : Value} {b : Bool} {k : Nat} {l : Array Bool} {a : Act} {w : World} (hi : ops[i]? = some oi) (hs : Region.noSelect ops = true) (hf : Region.free md ops l i = true)
    (hr : (Region.ready md ops l).contains i = true) (hid : i ≠ d) (hw : b = true ∨ ∃ od, ops[d]? = some od ∧ ∃ e ∈ od.after, Region.binds md e = true ∧ e.on = i) (hb : l.getD d false = b)
    (hQ : ∀ c a w, Q (.panic c) (a.put oi.dst v) w → Q (.panic c) a w) (hy : YieldsIf P ops (S b) oi v a) (hS : S b w)
    (h : AnyT P md ops Q d S k (l.setIfInBounds i true) (a.put oi.dst v) w) : AnyT P md ops Q d S (k + 1) l a w :=
  AnyT.first hi (Region.noSelect_spec hs) hQ hid hw k l a w (Region.free_spec hi hf) (by simpa using hr) hb hy hS h
theorem AnyT.first0 {i : Nat} {oi : Oper} {v : Value} (hi : ops[i]? = some oi) (hsel : ∀ (j : Nat) (o : Oper) cs c, ops[j]? = some o → o.op ≠ .select cs c)
    (hQ : ∀ c a w, Q (.panic c) (a.put oi.dst v) w → Q (.panic c) a w) (hid : i ≠ d) :
    ∀ (k : Nat) (l : Array Bool) (a : Act) (w : World),
      (∀ j oj, ops[j]? = some oj → j ≠ i → l.getD j true = false → (∀ e ∈ oj.after, Region.binds md e = true → e.on ≠ i) → oi.apart ops oj = true) →
      i ∈ Region.ready md ops l → YieldsIf P ops (fun _ => True) oi v a → S (l.getD d false) w →
      AnyT P md ops Q d S k (l.setIfInBounds i true) (a.put oi.dst v) w → AnyT P md ops Q d S (k + 1) l a w := by
  intro k
  induction k with
  | zero =>
    intro l a w _ hr hy hS H
    refine ⟨fun h => (by rw [h] at hr; cases hr), fun j hj => ?_⟩
    by_cases hji : j = i
    · subst hji; exact hy.wpOp hi trivial ⟨by rw [getD_other hid]; exact hS, H⟩
    · have := ready_mono hj hji
      rw [H.1] at this
      cases this
  | succ k ih =>
    intro l a w hfree hr hy hS H
    refine ⟨fun h => (by rw [h] at hr; cases hr), fun j hj => ?_⟩
    by_cases hji : j = i
    · subst hji; exact hy.wpOp hi trivial ⟨by rw [getD_other hid]; exact hS, H⟩
    · have h1 := H.2 j (ready_mono hj hji)
      obtain ⟨hjun, oj, hoj, hall⟩ := mem_ready.1 hj
      have hiun := (mem_ready.1 hr).1
      have hnot : ∀ e ∈ oj.after, Region.binds md e = true → e.on ≠ i := fun e he hbd heq => by
        have h1 := hall e he hbd
        rw [heq] at h1
        rw [getD_ft h1] at hiun; cases hiun
      have h2 := wpOp_putIf hoj (hfree j oj hoj hji hjun hnot) (fun cs c => hsel i oi cs c hi) (fun cs c => hsel j oj cs c hoj) hQ hy h1
      have hfree' : ∀ k ok, ops[k]? = some ok → k ≠ i → (l.setIfInBounds j true).getD k true = false →
          (∀ e ∈ ok.after, Region.binds md e = true → e.on ≠ i) → oi.apart ops ok = true := fun k ok hk hki hun hno => by
        refine hfree k ok hk hki ?_ hno
        by_cases hjk : j = k
        · subst hjk; exact hjun
        · rw [getD_other hjk] at hun; exact hun
      refine wpOp_mono (fun a' w' h3 => ?_) h2
      obtain ⟨hy3, hs3, ht3⟩ := h3
      rw [Array.setIfInBounds_comm _ _ (Ne.symm hji), getD_other hid] at hs3
      rw [Array.setIfInBounds_comm _ _ (Ne.symm hji)] at ht3
      exact ⟨hs3, ih (l.setIfInBounds j true) a' w' hfree' (ready_mono hr (Ne.symm hji)) hy3 hs3 ht3⟩
/-- Take first what yields in whatever world. -/
theorem AnyT.take0 {i : Nat} {oi : Oper} {v : Value} {k : Nat} {l : Array Bool} {a : Act} {w : World} (hi : ops[i]? = some oi) (hs : Region.noSelect ops = true) (hf : Region.free md ops l i = true)
    (hr : (Region.ready md ops l).contains i = true) (hid : i ≠ d) (hQ : ∀ c a w, Q (.panic c) (a.put oi.dst v) w → Q (.panic c) a w) (hw : Region.wanted oi (yielded ops a.tmps) = true)
    (hy : ∀ w, (execOp a.eval oi).run P w = .ok (.value v) w) (hS : S (l.getD d false) w)
    (h : AnyT P md ops Q d S k (l.setIfInBounds i true) (a.put oi.dst v) w) : AnyT P md ops Q d S (k + 1) l a w :=
  AnyT.first0 hi (Region.noSelect_spec hs) hQ hid k l a w (Region.free_spec hi hf) (by simpa using hr) (.inl ⟨hw, fun w _ => hy w⟩) hS h
/-- Does number d wait for number i? -/
def waits (md : Region.Mode) (ops : Array Oper) (d i : Nat) : Bool := match ops[d]? with
  | some od => od.after.any fun e => Region.binds md e && e.on == i
  | none => false
theorem waits_spec {i : Nat} (h : waits md ops d i = true) : ∃ od, ops[d]? = some od ∧ ∃ e ∈ od.after, Region.binds md e = true ∧ e.on = i := by
  unfold waits at h
  split at h
  · rename_i od ho
    obtain ⟨e, he, hx⟩ := Array.any_eq_true'.1 h
    simp only [Bool.and_eq_true, beq_iff_eq] at hx
    exact ⟨od, ho, e, he, hx.1, hx.2⟩
  · cases h
/-- Take first a load of a cell that number d turns. -/
theorem AnyT.take1 {i : Nat} {oi : Oper} {v : Value} {k : Nat} {l : Array Bool} {a : Act} {w : World} (hi : ops[i]? = some oi) (hs : Region.noSelect ops = true) (hf : Region.free md ops l i = true)
    (hr : (Region.ready md ops l).contains i = true) (hid : i ≠ d) (hw : waits md ops d i = true) (hb : l.getD d false = false)
    (hQ : ∀ c a w, Q (.panic c) (a.put oi.dst v) w → Q (.panic c) a w) (hwd : Region.wanted oi (yielded ops a.tmps) = true) (hy : ∀ w, S false w → (execOp a.eval oi).run P w = .ok (.value v) w) (hS : S false w)
    (h : AnyT P md ops Q d S k (l.setIfInBounds i true) (a.put oi.dst v) w) : AnyT P md ops Q d S (k + 1) l a w :=
  AnyT.take hi hs hf hr hid (.inr (waits_spec hw)) hb hQ (.inl ⟨hwd, hy⟩) hS h
theorem AnyT.all {rs : List Nat} {k : Nat} {l : Array Bool} {a : Act} {w : World} (hr : Region.ready md ops l = rs) (hne : rs ≠ [])
    (h : ∀ i ∈ rs, wpOp P ops Q i (fun a' w' => S ((l.setIfInBounds i true).getD d false) w' ∧ AnyT P md ops Q d S k (l.setIfInBounds i true) a' w') a w) : AnyT P md ops Q d S (k + 1) l a w :=
  ⟨fun h0 => absurd (hr ▸ h0) hne, hr ▸ h⟩
theorem AnyT.done {l : Array Bool} {a : Act} {w : World} (hr : Region.ready md ops l = []) (h : Q .normal a w) : ∀ k, AnyT P md ops Q d S k l a w
  | 0 => ⟨hr, h⟩
  | _ + 1 => ⟨fun _ => h, by rw [hr]; simp⟩
/-- One operation that comes up; its step handed over behind a '∀ K'. -/
theorem AnyT.step {i : Nat} {o : Oper} {k : Nat} {l : Array Bool} {a : Act} {w : World} {b : Bool} (ho : ops[i]? = some o) (hb : (l.setIfInBounds i true).getD d false = b)
    (h : ∀ K' : Act → World → Prop, Shut (∀ a w, S b w → AnyT P md ops Q d S k (l.setIfInBounds i true) a w → K' a w) → if Region.wanted o (yielded ops a.tmps) = true then Oper.wp P o a w K' Q else K' (a.put o.dst undef) w) :
    wpOp P ops Q i (fun a' w' => S ((l.setIfInBounds i true).getD d false) w' ∧ AnyT P md ops Q d S k (l.setIfInBounds i true) a' w') a w :=
  wpOp_step ho (fun K' hK => h K' (fun a w hS hA => hK a w ⟨by rw [hb]; exact hS, hA⟩))
theorem region_T (d : Nat) (S : Bool → World → Prop) {id : Nat} {a : Act} {w : World} (hm : P.follows .mixedOrders = true)
    (h : AnyT P .any ops Q d S ops.size (Array.replicate ops.size false) a w.drew) : (Code.region id ops true).wp P Q a w :=
  wp_region_any hm (AnyT.any _ _ _ _ h)
end
end Go.Proofs.YtcfjiaogdmjlbaaGreat
