/- One visit of name's closure: what holds behind it. -/
import Derived.Test.YtcfjiaogdmjlbaaGreatD8
namespace Go.Proofs.YtcfjiaogdmjlbaaGreat
open Go.RowKit
/-- The parent's cells with a key, an end, an index laid in. -/
abbrev pl (k a e h b s m i : Int) : List Value := [.int .i64 k, .int .i64 a, .int .i64 e, .int .i64 h, .int .i64 b, .int .i64 s, .int .i64 m, .bool false, .int .i64 i]
/-- What holds behind i elements of name's walk: none was the name; the slot stands at the first name that is above, if one was. -/
def NInv (w0 : World) (f : Int) (B n cap : Nat) (L : List UInt8) (nm : ByteArray) (a m N : Nat) (ps : Nat → Nat) (tx : Nat → ByteArray) (S M P F1 F2 Q : Nat) (i : Nat) (W : World) : Prop :=
  BY W B L ∧ G w0.heap.size none w0 W ∧ (∀ j, 2 * j < i → ((tx (2 * j)).toList == nm.toList) = false) ∧ ∃ (b2 : Bool) (K I : Nat),
    NB W f B n cap nm S M P F1 F2 Q (pl (-1) 0 0 a (ps 0 : Nat) (ps N : Nat) m 0) (pl K 0 0 a (ps 0 : Nat) (ps N : Nat) m I) false b2 ∧
    ((b2 = false ∧ K = ps N ∧ I = m ∧ ∀ j, 2 * j < i → abv f (tx (2 * j)) nm = false) ∨ (b2 = true ∧ 2 * I < i ∧ K = ps (2 * I) ∧ abv f (tx (2 * I)) nm = true ∧ ∀ j, j < I → abv f (tx (2 * j)) nm = false))
/-- Where the name was found. -/
def NDone (w0 : World) (f : Int) (B n cap : Nat) (L : List UInt8) (nm : ByteArray) (a m N : Nat) (ps : Nat → Nat) (tx : Nat → ByteArray) (S M P F1 F2 Q : Nat) (i : Nat) (W : World) : Prop :=
  BY W B L ∧ G w0.heap.size none w0 W ∧ ∃ j, i = 2 * j ∧ (tx i).toList = nm.toList ∧ ∃ (b2 : Bool) (cq : List Value),
    NB W f B n cap nm S M P F1 F2 Q (pl (ps i : Nat) (ps (i + 1) : Nat) 0 a (ps 0 : Nat) (ps N : Nat) m j) cq true b2
theorem NB.g {W W' : World} {f : Int} {B n cap : Nat} {nm : ByteArray} {S M P F1 F2 Q : Nat} {cp cq : List Value} {b1 b2 : Bool} (h : NB W f B n cap nm S M P F1 F2 Q cp cq b1 b2) (g : G W.heap.size none W W') : NB W' f B n cap nm S M P F1 F2 Q cp cq b1 b2 :=
  ⟨(g.block _ (lt_heap h.s) (by simp)).trans h.s, (g.block _ (lt_heap h.m) (by simp)).trans h.m, (g.block _ (lt_heap h.p) (by simp)).trans h.p, (g.block _ (lt_heap h.f1) (by simp)).trans h.f1, (g.block _ (lt_heap h.f2) (by simp)).trans h.f2, (g.block _ (lt_heap h.q) (by simp)).trans h.q⟩
theorem NInv.g {w0 : World} {f : Int} {B n cap : Nat} {L : List UInt8} {nm : ByteArray} {a m N : Nat} {ps : Nat → Nat} {tx : Nat → ByteArray} {S M P F1 F2 Q i : Nat} {W W' : World}
    (h : NInv w0 f B n cap L nm a m N ps tx S M P F1 F2 Q i W) (g : G W.heap.size none W W') : NInv w0 f B n cap L nm a m N ps tx S M P F1 F2 Q i W' := by
  obtain ⟨h1, h2, h3, b2, K, I, h4, h5⟩ := h
  exact ⟨h1.g g h1.1 (by simp), h2.trans (g.mono h2.size), h3, b2, K, I, h4.g g, h5⟩
/-- Another element behind, that turned nothing. -/
theorem NInv.odd {w0 : World} {f : Int} {B n cap : Nat} {L : List UInt8} {nm : ByteArray} {a m N : Nat} {ps : Nat → Nat} {tx : Nat → ByteArray} {S M P F1 F2 Q j : Nat} {W : World}
    (h : NInv w0 f B n cap L nm a m N ps tx S M P F1 F2 Q (2 * j + 1) W) : NInv w0 f B n cap L nm a m N ps tx S M P F1 F2 Q (2 * j + 1 + 1) W := by
  obtain ⟨h1, h2, h3, b2, K, I, h4, h5⟩ := h
  refine ⟨h1, h2, fun i hi => h3 i (by omega), b2, K, I, h4, ?_⟩
  rcases h5 with ⟨e1, e2, e3, e4⟩ | ⟨e1, e2, e3⟩
  · exact .inl ⟨e1, e2, e3, fun i hi => e4 i (by omega)⟩
  · exact .inr ⟨e1, by omega, e3⟩
/-- The frame of stores into a block below the bound. -/
theorem frame_set {W w2 : World} {B1 b o : Nat} {v : Value} (h : ∀ k, B1 ≤ k → k < W.heap.size → w2.heap[k]? = W.heap[k]?) (hb : b < B1) : ∀ k, B1 ≤ k → k < W.heap.size → (w2.setCell ⟨b, o, none⟩ v).heap[k]? = W.heap[k]? :=
  fun k h1 h2 => (Below.heap_setCell _ _ _ _ (by simp; omega)).trans (h k h1 h2)
theorem NB.found {w : World} {f : Int} {B n cap : Nat} {nm : ByteArray} {S M P F1 F2 Q : Nat} {k a e h b s m i : Int} {cq : List Value} {b2 : Bool} (hb : NB w f B n cap nm S M P F1 F2 Q (pl k a e h b s m i) cq false b2)
    (k' a' i' : Int) (d1 : S ≠ P) (d2 : S ≠ F1) (d3 : M ≠ P) (d4 : M ≠ F1) (d5 : P ≠ F1) (d6 : F2 ≠ P) (d7 : F2 ≠ F1) (d8 : Q ≠ P) (d9 : Q ≠ F1) :
    NB ((((w.setCell ⟨P, 0, none⟩ (.int .i64 k')).setCell ⟨P, 1, none⟩ (.int .i64 a')).setCell ⟨P, 8, none⟩ (.int .i64 i')).setCell ⟨F1, 0, none⟩ (.bool true)) f B n cap nm S M P F1 F2 Q (pl k' a' e h b s m i') cq true b2 := by
  have ho : ∀ X, X ≠ P → X ≠ F1 → ((((w.setCell ⟨P, 0, none⟩ (.int .i64 k')).setCell ⟨P, 1, none⟩ (.int .i64 a')).setCell ⟨P, 8, none⟩ (.int .i64 i')).setCell ⟨F1, 0, none⟩ (.bool true)).heap[X]? = w.heap[X]? := fun X h1 h2 => by
    rw [Below.heap_setCell _ _ _ _ h2, Below.heap_setCell _ _ _ _ h1, Below.heap_setCell _ _ _ _ h1, Below.heap_setCell _ _ _ _ h1]
  refine ⟨(ho S d1 d2).trans hb.s, (ho M d3 d4).trans hb.m, (Below.heap_setCell _ _ _ _ d5).trans ?_, ?_, (ho F2 d6 d7).trans hb.f2, (ho Q d8 d9).trans hb.q⟩
  · exact heap_set (j := 8) (heap_set (j := 1) (heap_set (j := 0) hb.p _) _) _
  · refine heap_set (j := 0) (cs := #[.bool false]) (T := 4) (fz := (0, 0)) ?_ (.bool true)
    rw [Below.heap_setCell _ _ _ _ (Ne.symm d5), Below.heap_setCell _ _ _ _ (Ne.symm d5), Below.heap_setCell _ _ _ _ (Ne.symm d5)]
    exact hb.f1
theorem NB.first {w : World} {f : Int} {B n cap : Nat} {nm : ByteArray} {S M P F1 F2 Q : Nat} {k a e h b s m i : Int} {cp : List Value} (hb : NB w f B n cap nm S M P F1 F2 Q cp (pl k a e h b s m i) false false)
    (k' i' : Int) (d1 : S ≠ Q) (d2 : S ≠ F2) (d3 : M ≠ Q) (d4 : M ≠ F2) (d5 : Q ≠ F2) (d6 : F1 ≠ Q) (d7 : F1 ≠ F2) (d8 : P ≠ Q) (d9 : P ≠ F2) :
    NB (((w.setCell ⟨Q, 0, none⟩ (.int .i64 k')).setCell ⟨Q, 8, none⟩ (.int .i64 i')).setCell ⟨F2, 0, none⟩ (.bool true)) f B n cap nm S M P F1 F2 Q cp (pl k' a e h b s m i') false true := by
  have ho : ∀ X, X ≠ Q → X ≠ F2 → (((w.setCell ⟨Q, 0, none⟩ (.int .i64 k')).setCell ⟨Q, 8, none⟩ (.int .i64 i')).setCell ⟨F2, 0, none⟩ (.bool true)).heap[X]? = w.heap[X]? := fun X h1 h2 => by
    rw [Below.heap_setCell _ _ _ _ h2, Below.heap_setCell _ _ _ _ h1, Below.heap_setCell _ _ _ _ h1]
  refine ⟨(ho S d1 d2).trans hb.s, (ho M d3 d4).trans hb.m, (ho P d8 d9).trans hb.p, (ho F1 d6 d7).trans hb.f1, ?_, (Below.heap_setCell _ _ _ _ d5).trans ?_⟩
  · refine heap_set (j := 0) (cs := #[.bool false]) (T := 4) (fz := (0, 0)) ?_ (.bool true)
    rw [Below.heap_setCell _ _ _ _ (Ne.symm d5), Below.heap_setCell _ _ _ _ (Ne.symm d5)]
    exact hb.f2
  · exact heap_set (j := 8) (heap_set (j := 0) hb.q _) _
set_option maxHeartbeats 1000000 in
theorem visit61 (w0 : World) (f : Int) (B n cap : Nat) (L : List UInt8) (nm : ByteArray) (a m N : Nat) (ps : Nat → Nat) (tx : Nat → ByteArray) (S M P F1 F2 Q B1 i : Nat) (W : World)
    (hL : L.length = n) (hn : n ≤ 1000000) (hcap : n ≤ cap) (hcap2 : cap ≤ 9223372036854775807) (hm : m ≤ 1000) (hN : N = 2 * m) (hrow : Row f L n ps tx N)
    (hlt : P < B1 ∧ F1 < B1 ∧ F2 < B1 ∧ Q < B1) (hge : w0.heap.size ≤ P ∧ w0.heap.size ≤ F1 ∧ w0.heap.size ≤ F2 ∧ w0.heap.size ≤ Q) (hB0 : B < w0.heap.size) (hdist : [S, M, P, F1, F2, Q].Pairwise (· ≠ ·)) (hi : i < N)
    (h : NInv w0 f B n cap L nm a m N ps tx S M P F1 F2 Q i W) :
    Calls Tryz.prog 61 #[.int .i64 (i : Nat), .int .i64 (ps i : Nat), .pointer (some ⟨S, 0, none⟩), .pointer (some ⟨M, 0, none⟩), .pointer (some ⟨P, 0, none⟩), .pointer (some ⟨F1, 0, none⟩), .pointer (some ⟨F2, 0, none⟩), .pointer (some ⟨Q, 0, none⟩)] W
      fun e w' => ∃ c, e = .returned (.bool c) ∧ W.heap.size ≤ w'.heap.size ∧ (∀ k, B1 ≤ k → k < W.heap.size → w'.heap[k]? = W.heap[k]?) ∧
        (if c then NInv w0 f B n cap L nm a m N ps tx S M P F1 F2 Q (i + 1) w' else NDone w0 f B n cap L nm a m N ps tx S M P F1 F2 Q i w') := by
  simp only [List.pairwise_cons, List.mem_cons, forall_eq_or_imp, List.not_mem_nil, false_imp_iff, implies_true, and_true, List.Pairwise.nil, forall_eq] at hdist
  obtain ⟨⟨d1, d2, d3, d4, d5⟩, ⟨d6, d7, d8, d9⟩, ⟨d10, d11, d12⟩, ⟨d13, d14⟩, d15⟩ := hdist
  obtain ⟨l1, l2, l3, l4⟩ := hlt
  obtain ⟨g1, g2, g3, g4⟩ := hge
  obtain ⟨j, hj⟩ : ∃ j, i = 2 * j ∨ i = 2 * j + 1 := ⟨i / 2, by omega⟩
  rcases hj with rfl | rfl
  · have ht := hrow (2 * j) hi
    obtain ⟨h1, h2, h3, b2, K, I, h4, h5⟩ := h
    cases he : ((tx (2 * j)).toList == nm.toList) with
    | true =>
      refine (even_equal f B n cap L j (ps (2 * j)) (ps (2 * j + 1)) (tx (2 * j)) nm S M P F1 F2 Q _ b2 _ _ _ _ _ _ _ _ _ W hL hn hcap hcap2 (by omega) h1 ht h4 he (fun h => d10 h.symm)).mono ?_
      rintro e w' ⟨rfl, w2, hg, rfl⟩
      have hk := (h4.g hg).found (ps (2 * j) : Nat) (ps (2 * j + 1) : Nat) (j : Nat) d2 d3 d6 d7 d10 (Ne.symm d11) (Ne.symm d13) (Ne.symm d12) (Ne.symm d14)
      have hgw := ((((hg.mono h2.size).put P 0 (.int .i64 (ps (2 * j) : Nat)) g1).put P 1 (.int .i64 (ps (2 * j + 1) : Nat)) g1).put P 8 (.int .i64 (j : Nat)) g1).put F1 0 (.bool true) g2
      refine ⟨false, rfl, hgw.size, frame_set (frame_set (frame_set (frame_set (fun k _ hk => hg.block k hk (by simp)) l1) l1) l1) l2, ?_⟩
      exact ⟨h1.g hgw hB0 (by simp), h2.trans hgw, j, rfl, by simpa using he, b2, _, hk⟩
    | false =>
      by_cases hc : (!b2 && abv f (tx (2 * j)) nm) = true
      · obtain ⟨rfl, ha⟩ : b2 = false ∧ abv f (tx (2 * j)) nm = true := by simpa using hc
        rcases h5 with ⟨_, rfl, rfl, e4⟩ | ⟨e1, _⟩
        · refine (even_first f B n cap L j (ps (2 * j)) (ps (2 * j + 1)) (tx (2 * j)) nm S M P F1 F2 Q _ _ _ _ _ _ _ _ _ _ W hL hn hcap hcap2 (by omega) h1 ht h4 he ha ⟨d14, d15, d13⟩).mono ?_
          rintro e w' ⟨rfl, w2, hg, rfl⟩
          have hk := (h4.g hg).first (ps (2 * j) : Nat) (j : Nat) d5 d4 d9 d8 (Ne.symm d15) d14 d13 d12 d11
          have hgw := (((hg.mono h2.size).put Q 0 (.int .i64 (ps (2 * j) : Nat)) g4).put Q 8 (.int .i64 (j : Nat)) g4).put F2 0 (.bool true) g3
          refine ⟨true, rfl, hgw.size, frame_set (frame_set (frame_set (fun k _ hk => hg.block k hk (by simp)) l4) l4) l3, ?_⟩
          refine ⟨h1.g hgw hB0 (by simp), h2.trans hgw, fun i hi => ?_, true, ps (2 * j), j, hk, .inr ⟨rfl, by omega, rfl, ha, fun i hi => e4 i (by omega)⟩⟩
          rcases Nat.lt_or_ge i j with h | h
          · exact h3 i (by omega)
          · obtain rfl : i = j := by omega
            exact he
        · cases e1
      · have hc' : (!b2 && abv f (tx (2 * j)) nm) = false := by simpa using hc
        refine (even_else f B n cap L j (ps (2 * j)) (ps (2 * j + 1)) (tx (2 * j)) nm S M P F1 F2 Q _ _ b2 W hL hn hcap hcap2 (by omega) h1 ht h4 he hc').mono ?_
        rintro e w' ⟨rfl, hg⟩
        refine ⟨true, rfl, hg.size, fun k _ hk => hg.block k hk (by simp), ?_⟩
        refine ⟨h1.g hg h1.1 (by simp), h2.trans (hg.mono h2.size), fun i hi => ?_, b2, K, I, h4.g hg, ?_⟩
        · rcases Nat.lt_or_ge i j with h | h
          · exact h3 i (by omega)
          · obtain rfl : i = j := by omega
            exact he
        · rcases h5 with ⟨rfl, e2, e3, e4⟩ | ⟨e1, e2, e3⟩
          · refine .inl ⟨rfl, e2, e3, fun i hi => ?_⟩
            rcases Nat.lt_or_ge i j with h | h
            · exact e4 i (by omega)
            · obtain rfl : i = j := by omega
              simpa using hc'
          · exact .inr ⟨e1, by omega, e3⟩
  · refine (odd_visit _ _ (by rw [Int.tmod_eq_emod_of_nonneg (by omega)]; omega) _ _ _ _ _ _ W).mono ?_
    rintro e w' ⟨rfl, rfl⟩
    exact ⟨true, rfl, Nat.le_refl _, fun _ _ _ => rfl, by simpa using h.odd⟩
end Go.Proofs.YtcfjiaogdmjlbaaGreat
