/- Rows and members out of bytes: plain. -/
import Derived.Test.YtcfjiaogdmjlbaaGreatE5
namespace Go.Proofs.YtcfjiaogdmjlbaaGreat
open Go.RowKit
/-- Where members begin, and their values, one behind the other. -/
def psf (a : Nat) : List ByteArray → Nat → Nat
  | [], _ => a
  | _ :: _, 0 => a
  | k :: _, 1 => a + 1 + k.size
  | k :: ks, i + 2 => psf (a + 2 + k.size) ks i
def txf : List ByteArray → Nat → ByteArray
  | [], _ => ⟨#[]⟩
  | k :: _, 0 => k
  | _ :: _, 1 => ⟨#[]⟩
  | _ :: ks, i + 2 => txf ks i
theorem psf_zero (a : Nat) (ks : List ByteArray) : psf a ks 0 = a := by cases ks <;> rfl
theorem txf_even : ∀ (ks : List ByteArray) (j : Nat), txf ks (2 * j) = ks.getD j ⟨#[]⟩
  | [], j => by simp [txf]
  | k :: ks, 0 => rfl
  | k :: ks, j + 1 => by
    show txf (k :: ks) (2 * j + 2) = _
    rw [txf, txf_even ks j]; rfl
theorem row_of_items (L : List UInt8) : ∀ (ks : List ByteArray) (a : Nat), Items L ks a L.length → Row 2 L L.length (psf a ks) (txf ks) (2 * ks.length) ∧ psf a ks (2 * ks.length) = L.length
  | [], a, h => ⟨fun i hi => absurd hi (by simp), h⟩
  | k :: ks, a, h => by
    obtain ⟨h1, h2, h3, h4, h5, h6⟩ := h
    have hle := h6.le
    obtain ⟨r1, r2⟩ := row_of_items L ks (a + 2 + k.size) h6
    refine ⟨fun i hi => ?_, ?_⟩
    · match i, hi with
      | 0, _ => exact ⟨by show a < _; omega, .inl ⟨k.size, h1, by show a + 1 + k.size < _; omega, .inl ⟨rfl, h2⟩, rfl, rfl, by show ((a + 1 + k.size : Nat) : Int) = _; simp [psf], rfl, h3.symm⟩⟩
      | 1, _ =>
        have e : psf a (k :: ks) (1 + 1) = a + 2 + k.size := psf_zero _ _
        refine ⟨by show a + 1 + k.size < _; omega, .inr (.inl ⟨?_, rfl, rfl, by rw [e]; simp only [psf]; omega, rfl, rfl⟩)⟩
        rcases h5 with h5 | ⟨t, ht, h5⟩
        · exact .inl ⟨rfl, h5⟩
        · exact .inr (.inr ⟨.inl rfl, t, by omega, h5⟩)
      | i + 2, hi => exact r1 i (by simp at hi; omega)
    · rw [List.length_cons, Nat.mul_add]; exact r2
theorem row_of_pitems (L : List UInt8) : ∀ (ks : List ByteArray) (a : Nat), PItems L ks a L.length → Row 3 L L.length (psf a ks) (txf ks) (2 * ks.length) ∧ psf a ks (2 * ks.length) = L.length
  | [], a, h => ⟨fun i hi => absurd hi (by simp), h⟩
  | k :: ks, a, h => by
    obtain ⟨h1, h2, h3, h4, h5, h6⟩ := h
    have hle := h6.le
    obtain ⟨r1, r2⟩ := row_of_pitems L ks (a + 2 + k.size) h6
    refine ⟨fun i hi => ?_, ?_⟩
    · match i, hi with
      | 0, _ => exact ⟨by show a < _; omega, .inl ⟨k.size, h1, by show a + 1 + k.size < _; omega, .inr ⟨rfl, h2⟩, rfl, rfl, by show ((a + 1 + k.size : Nat) : Int) = _; simp [psf], rfl, h3.symm⟩⟩
      | 1, _ =>
        have e : psf a (k :: ks) (1 + 1) = a + 2 + k.size := psf_zero _ _
        refine ⟨by show a + 1 + k.size < _; omega, .inr (.inl ⟨?_, rfl, rfl, by rw [e]; simp only [psf]; omega, rfl, rfl⟩)⟩
        rcases h5 with h5 | ⟨t, ht, h5⟩
        · exact .inr (.inl ⟨rfl, h5⟩)
        · exact .inr (.inr ⟨.inr rfl, t, by omega, h5⟩)
      | i + 2, hi => exact r1 i (by simp at hi; omega)
    · rw [List.length_cons, Nat.mul_add]; exact r2
theorem sub_eq (pre k post : List UInt8) : sub (pre ++ k ++ post) pre.length k.length = ⟨k.toArray⟩ := by simp [sub]
theorem byt_eq (pre post : List UInt8) (c : UInt8) : byt (pre ++ c :: post) (pre.length : Nat) = (c.toNat : Int) := by simp [byt, List.getD]
/-- Members of null in a format: t the base of a text's head, z a null. -/
def body (t : Nat) (z : UInt8) : List ByteArray → List UInt8
  | [] => []
  | k :: ks => (UInt8.ofNat (t + k.size) :: k.data.toList) ++ (z :: body t z ks)
def Asc (k : ByteArray) : Prop := k.size < 24 ∧ ∀ i (h : i < k.size), (k[i]'h).toNat < 128
theorem parts3 (t : Nat) (ht : t + 24 ≤ 256) (z : UInt8) (k : ByteArray) (hk : k.size < 24) (pre post : List UInt8) (L : List UInt8) (hL : L = pre ++ ((UInt8.ofNat (t + k.size) :: k.data.toList) ++ (z :: post))) :
    byt L (pre.length : Nat) = ((t + k.size : Nat) : Int) ∧ sub L (pre.length + 1) k.size = k ∧ byt L ((pre.length + 1 + k.size : Nat) : Int) = (z.toNat : Int) := by
  subst hL
  refine ⟨?_, ?_, ?_⟩
  · rw [List.cons_append, byt_eq, UInt8.toNat_ofNat', Nat.mod_eq_of_lt (by omega)]
  · have := sub_eq (pre ++ [UInt8.ofNat (t + k.size)]) k.data.toList (z :: post)
    simp only [List.append_assoc, List.cons_append, List.nil_append, List.length_append, List.length_cons, List.length_nil] at this ⊢
    have e : k.data.toList.length = k.size := by simp
    rw [e] at this
    simpa using this
  · have := byt_eq (pre ++ (UInt8.ofNat (t + k.size) :: k.data.toList)) post z
    have e : k.data.toList.length = k.size := by simp
    simp only [List.append_assoc, List.cons_append, List.length_append, List.length_cons, e] at this ⊢
    rw [show pre.length + 1 + k.size = pre.length + (k.size + 1) by omega]
    exact this
theorem items_body : ∀ (ks : List ByteArray) (pre : List UInt8), (∀ k ∈ ks, Asc k) → Items (pre ++ body 96 246 ks) ks pre.length (pre ++ body 96 246 ks).length
  | [], pre, _ => by simp [body, Items]
  | k :: ks, pre, h => by
    have hk := h k (by simp)
    obtain ⟨p1, p2, p3⟩ := parts3 96 (by omega) 246 k hk.1 pre (body 96 246 ks) _ rfl
    have ih := items_body ks (pre ++ ((UInt8.ofNat (96 + k.size) :: k.data.toList) ++ [246])) (fun x hx => h x (by simp [hx]))
    have e : pre ++ ((UInt8.ofNat (96 + k.size) :: k.data.toList) ++ [246]) ++ body 96 246 ks = pre ++ body 96 246 (k :: ks) := by simp [body]
    have e2 : (pre ++ ((UInt8.ofNat (96 + k.size) :: k.data.toList) ++ [246])).length = pre.length + 2 + k.size := by simp; omega
    rw [e, e2] at ih
    exact ⟨hk.1, Eq.trans p1 (by omega), p2, hk.2, .inl p3, ih⟩
theorem pitems_body : ∀ (ks : List ByteArray) (pre : List UInt8), (∀ k ∈ ks, Asc k) → PItems (pre ++ body 160 192 ks) ks pre.length (pre ++ body 160 192 ks).length
  | [], pre, _ => by simp [body, PItems]
  | k :: ks, pre, h => by
    have hk := h k (by simp)
    obtain ⟨p1, p2, p3⟩ := parts3 160 (by omega) 192 k hk.1 pre (body 160 192 ks) _ rfl
    have ih := pitems_body ks (pre ++ ((UInt8.ofNat (160 + k.size) :: k.data.toList) ++ [192])) (fun x hx => h x (by simp [hx]))
    have e : pre ++ ((UInt8.ofNat (160 + k.size) :: k.data.toList) ++ [192]) ++ body 160 192 ks = pre ++ body 160 192 (k :: ks) := by simp [body]
    have e2 : (pre ++ ((UInt8.ofNat (160 + k.size) :: k.data.toList) ++ [192])).length = pre.length + 2 + k.size := by simp; omega
    rw [e, e2] at ih
    exact ⟨hk.1, Eq.trans p1 (by omega), p2, hk.2, .inl p3, ih⟩
end Go.Proofs.YtcfjiaogdmjlbaaGreat
