/- Words for rows that a call makes, and for slices of values of several cells. -/
import Derived.Test.YtcfjiaogdmjlbaaGreatA6
import Derived.Deep.RegionLaw
namespace Go.Proofs.YtcfjiaogdmjlbaaGreat
open Go.RowKit
/-- append onto a row of the call's own, as one step of a region that draws. -/
theorem step_append_own {P : Program} {ops : Array Oper} {o : Oper} {a : Act} {w : World} {K : Act → World → Prop} {Q : Exit → Act → World → Prop} {E : Prop}
    (hg : o.guard = none) (s x : Operand) (t : TypeId) (hop : o.op = Op.call { callee := Callee.builtin Builtin.append, args := #[s, x], argTypes := #[t, t] })
    (e : TypeId) (i : TypeInfo) (z : Value) (size bytes : Nat) (h1 : P.underlying t = some (.slice e)) (h2 : P.info? e = some i) (h3 : i.zero = some z) (h4 : i.size = size) (h5 : i.bytes = bytes) (h6 : z.cells.size = size) (h7 : 0 < size)
    (base : Nat) (v : Value) (n : Nat) (xs : List Value) (hs : a.eval s = v) (hown : w.ownsRow base e size v n xs) (hb : base ≤ w.heap.size)
    (ad : Addr) (m c : Nat) (news : List Value) (hx : a.eval x = .slice (some ad) m c) (hn : news.length = m * size) (hc : ∀ j u, news[j]? = some u → w.cell? (ad.add j) = some u) (h1c : ∀ u ∈ news, u.oneCell' = true)
    (b1 : n + m ≤ maxLen) (b2 : (n + m) * bytes ≤ 140737488355328)
    (hK : ∀ A c' w', w'.ownsRow base e size (.slice A (n + m) c') (n + m) (xs ++ news) → w.grownBy w' v.ownBlock → K (a.put o.dst (.slice A (n + m) c')) w') :
    if Region.wanted o (yielded ops a.tmps) = true then Oper.wp P o a w K Q else E := by
  have hw : Region.wanted o (yielded ops a.tmps) = true := by simp [Region.wanted, hg]
  rw [if_pos hw]
  obtain ⟨v', w', hrun, r1, r2, _⟩ := run_append_own (P := P) w base t o.type e i z size bytes h1 h2 h3 h4 h5 h6 h7 v n xs hown ad m c news hn hc h1c b1 b2 hb
  obtain ⟨A, c', rfl⟩ : ∃ A c', v' = .slice A (n + m) c' := by
    rcases r1.2 with ⟨rfl, e⟩ | ⟨g, cap, cur, rfl, _⟩
    · exact ⟨none, 0, by rw [e]⟩
    · exact ⟨_, cap, rfl⟩
  unfold Oper.wp
  simp [execOp, hop, resolve, invoke, builtin, hs, hx, hrun, Result.andThen]
  exact hK A c' w' r1 r2
/-- The slice reads as these values, sz cells each: their cells one behind the other. -/
structure AR (sz : Nat) (w : World) (A : Option Addr) (n c : Nat) (xs : List Value) : Prop where
  len : xs.length = n * sz
  le : n ≤ c
  cap : c ≤ 9223372036854775807
  sm : n ≤ 1000000
  nil_ : A = none → c = 0
  one : ∀ u ∈ xs, u.oneCell' = true
  cells : 0 < n → ∃ B off, A = some ⟨B, off, none⟩ ∧ B < w.heap.size ∧ ∀ i, i < n * sz → w.cell? ⟨B, off + i, none⟩ = some (xs.getD i undef)
theorem AR.g {sz : Nat} {w w' : World} {A : Option Addr} {n c : Nat} {xs : List Value} (h : AR sz w A n c xs) (g : G w.heap.size none w w') : AR sz w' A n c xs :=
  ⟨h.len, h.le, h.cap, h.sm, h.nil_, h.one, fun hn => by
    obtain ⟨B, off, e, hB, hc⟩ := h.cells hn
    exact ⟨B, off, e, Nat.lt_of_lt_of_le hB g.size, fun i hi => (g.cell hB (by simp)).trans (hc i hi)⟩⟩
/-- A value's eight cells, stored one behind the other. -/
def set4 (w : World) (b o : Nat) (c0 c1 c2 c3 : Value) : World := (((w.setCell ⟨b, o, none⟩ c0).setCell ⟨b, o + 1, none⟩ c1).setCell ⟨b, o + 2, none⟩ c2).setCell ⟨b, o + 3, none⟩ c3
theorem set4_lo {w : World} {b : Nat} {a0 a1 a2 a3 a4 a5 a6 a7 : Value} {T : TypeId} {fz : Nat × Nat} (h : w.heap[b]? = some (.cells #[a0, a1, a2, a3, a4, a5, a6, a7] T fz)) (c0 c1 c2 c3 : Value) :
    (set4 w b 0 c0 c1 c2 c3).heap[b]? = some (.cells #[c0, c1, c2, c3, a4, a5, a6, a7] T fz) :=
  heap_set (j := 3) (heap_set (j := 2) (heap_set (j := 1) (heap_set (j := 0) h c0) c1) c2) c3
theorem set4_hi {w : World} {b : Nat} {a0 a1 a2 a3 a4 a5 a6 a7 : Value} {T : TypeId} {fz : Nat × Nat} (h : w.heap[b]? = some (.cells #[a0, a1, a2, a3, a4, a5, a6, a7] T fz)) (c0 c1 c2 c3 : Value) :
    (set4 w b 4 c0 c1 c2 c3).heap[b]? = some (.cells #[a0, a1, a2, a3, c0, c1, c2, c3] T fz) :=
  heap_set (j := 7) (heap_set (j := 6) (heap_set (j := 5) (heap_set (j := 4) h c0) c1) c2) c3
def set8 (w : World) (b : Nat) (c0 c1 c2 c3 c4 c5 c6 c7 : Value) : World :=
  (((((((w.setCell ⟨b, 0, none⟩ c0).setCell ⟨b, 1, none⟩ c1).setCell ⟨b, 2, none⟩ c2).setCell ⟨b, 3, none⟩ c3).setCell ⟨b, 4, none⟩ c4).setCell ⟨b, 5, none⟩ c5).setCell ⟨b, 6, none⟩ c6).setCell ⟨b, 7, none⟩ c7
theorem set8_heap {w : World} {b : Nat} {cs : Array Value} {T : TypeId} {fz : Nat × Nat} (h : w.heap[b]? = some (.cells cs T fz)) (hs : cs.size = 8) (c0 c1 c2 c3 c4 c5 c6 c7 : Value) :
    (set8 w b c0 c1 c2 c3 c4 c5 c6 c7).heap[b]? = some (.cells #[c0, c1, c2, c3, c4, c5, c6, c7] T fz) := by
  obtain ⟨l⟩ := cs
  match l, hs with
  | [a0, a1, a2, a3, a4, a5, a6, a7], _ =>
    exact set4_hi (set4_lo h c0 c1 c2 c3) c4 c5 c6 c7
theorem G.set8 {B0 : Nat} {R : Option Nat} {a w : World} (h : G B0 R a w) (b : Nat) (c0 c1 c2 c3 c4 c5 c6 c7 : Value) (hb : B0 ≤ b) : G B0 R a (set8 w b c0 c1 c2 c3 c4 c5 c6 c7) :=
  (((((((h.put b 0 c0 hb).put b 1 c1 hb).put b 2 c2 hb).put b 3 c3 hb).put b 4 c4 hb).put b 5 c5 hb).put b 6 c6 hb).put b 7 c7 hb
theorem set8_other (w : World) (b : Nat) (c0 c1 c2 c3 c4 c5 c6 c7 : Value) (k : Nat) (hk : k ≠ b) : (set8 w b c0 c1 c2 c3 c4 c5 c6 c7).heap[k]? = w.heap[k]? := by
  unfold set8
  rw [Below.heap_setCell _ _ _ _ hk, Below.heap_setCell _ _ _ _ hk, Below.heap_setCell _ _ _ _ hk, Below.heap_setCell _ _ _ _ hk, Below.heap_setCell _ _ _ _ hk, Below.heap_setCell _ _ _ _ hk, Below.heap_setCell _ _ _ _ hk, Below.heap_setCell _ _ _ _ hk]
theorem info9 : (Tryz.prog.info? 9).map (fun i => (i.zero, i.size, i.bytes)) = some (some (.string ByteArray.empty), 1, 16) := by kernel_rfl
end Go.Proofs.YtcfjiaogdmjlbaaGreat
