/- Words for members that stand one behind the other, and for rows of texts and values that a call owns. -/
import Derived.Test.YtcfjiaogdmjlbaaGreatB5
namespace Go.Proofs.YtcfjiaogdmjlbaaGreat
open Go.RowKit
/-- A value of one byte stands there: null, or a small whole number. -/
def Leaf (L : List UInt8) (a : Nat) : Prop := byt L a = 246 ∨ ∃ k : Nat, (0 < k ∧ k < 10) ∧ byt L a = (k : Nat)
/-- Members, one behind the other: a short name, a value of one byte. -/
def Items (L : List UInt8) : List ByteArray → Nat → Nat → Prop
  | [], a, z => a = z
  | k :: ks, a, z => k.size < 24 ∧ byt L a = 96 + (k.size : Nat) ∧ sub L (a + 1) k.size = k ∧ (∀ i (h : i < k.size), (k[i]'h).toNat < 128) ∧ Leaf L (a + 1 + k.size) ∧ Items L ks (a + 2 + k.size) z
theorem Items.le {L : List UInt8} : ∀ {ks : List ByteArray} {a z : Nat}, Items L ks a z → a + 2 * ks.length ≤ z
  | [], a, z, h => by have : a = z := h; simp [this]
  | k :: ks, a, z, h => by
    have := Items.le h.2.2.2.2.2
    simp only [List.length_cons]; omega
theorem value_leaf (R B n cap : Nat) (L : List UInt8) (a : Nat) (nd deep : Int) (w : World) (h1 : a < n) (hL : L.length = n) (hn : n ≤ 1000000) (hcap : n ≤ cap) (hcap2 : cap ≤ 9223372036854775807)
    (hd : deep ≤ 64) (hnd0 : 0 ≤ nd) (hnd : nd < 2000) (hr : Rdr 330 w R B n cap (a : Nat) nd) (hB : BY w B L) (hBR : B ≠ R) (hc : Leaf L a) :
    Calls Tryz.prog 294 #[.pointer (some ⟨R, 0, none⟩), .int .i64 deep] w fun e w' => ∃ v, e = .returned v ∧ Eight v ∧ G w.heap.size (some R) w w' ∧ Rdr 330 w' R B n cap ((a : Int) + 1) (nd + 1) := by
  rcases hc with hc | ⟨k, hk, hc⟩
  · exact value_null R B n cap L a nd deep w (by omega) (by omega) hL hn hcap hcap2 hd hnd0 hnd hr hB hBR hc
  · exact value_small R B n cap L a nd deep k w (by omega) (by omega) hL hn hcap hcap2 hd hnd0 hnd hr hB hBR hk hc
theorem own_g {w w' : World} {base : Nat} {e : TypeId} {size n : Nat} {v : Value} {xs : List Value} {R : Nat} (h : w.ownsRow base e size v n xs) (g : G w.heap.size (some R) w w') (hR : R < base) : w'.ownsRow base e size v n xs := by
  obtain ⟨h1, h2 | ⟨q, cap, cur, hv, hb, hh, r⟩⟩ := h
  · exact ⟨h1, .inl h2⟩
  · exact ⟨h1, .inr ⟨q, cap, cur, hv, hb, (g.block q (lt_heap hh) (some_ne (by omega))).trans hh, r⟩⟩
theorem own_form {w : World} {base : Nat} {e : TypeId} {size n : Nat} {v : Value} {xs : List Value} (h : w.ownsRow base e size v n xs) : ∃ A c, v = .slice A n c := by
  rcases h.2 with ⟨rfl, e⟩ | ⟨g, cap, cur, rfl, _⟩
  · exact ⟨none, 0, by rw [e]⟩
  · exact ⟨_, cap, rfl⟩
theorem SR.of_own {w : World} {base n : Nat} {A : Option Addr} {c : Nat} {ks : List ByteArray} (h : w.ownsRow base 9 1 (.slice A n c) n (ks.map Value.string)) (hc : c ≤ 9223372036854775807) (hsm : n ≤ 1000000) : SR w A n c ks := by
  have hl : ks.length = n := by simpa using h.1
  rcases h.2 with ⟨e, e2⟩ | ⟨g, cap, cur, e, _, hh, h3, h4, h5, h6⟩
  · cases e
    exact ⟨hl, Nat.le_refl _, by omega, by omega, fun _ => rfl, fun h => absurd h (by omega)⟩
  · simp only [Value.slice.injEq] at e
    obtain ⟨rfl, _, rfl⟩ := e
    refine ⟨hl, h3, hc, hsm, fun e => (by cases e), fun h0 => ⟨g, 0, rfl, lt_heap hh, fun i hi => ?_⟩⟩
    have := h.cells (g := g) rfl i (.string (ks.getD i ByteArray.empty)) (by simp [show i < ks.length by omega])
    rwa [add_plain] at this
theorem AR.of_own {w : World} {base n sz : Nat} {e : TypeId} {A : Option Addr} {c : Nat} {xs : List Value} (h : w.ownsRow base e sz (.slice A n c) n xs) (hc : c ≤ 9223372036854775807) (hsm : n ≤ 1000000) (h1 : ∀ u ∈ xs, u.oneCell' = true) : AR sz w A n c xs := by
  have hl : xs.length = n * sz := h.1
  rcases h.2 with ⟨e, e2⟩ | ⟨g, cap, cur, e, _, hh, h3, h4, h5, h6⟩
  · cases e
    exact ⟨hl, Nat.le_refl _, by omega, by omega, fun _ => rfl, h1, fun h => absurd h (by omega)⟩
  · simp only [Value.slice.injEq] at e
    obtain ⟨rfl, _, rfl⟩ := e
    refine ⟨hl, h3, hc, hsm, fun e => (by cases e), h1, fun h0 => ⟨g, 0, rfl, lt_heap hh, fun i hi => ?_⟩⟩
    have := h.cells (g := g) rfl i (xs.getD i undef) (by simp [show i < xs.length by omega])
    rwa [add_plain] at this
end Go.Proofs.YtcfjiaogdmjlbaaGreat
