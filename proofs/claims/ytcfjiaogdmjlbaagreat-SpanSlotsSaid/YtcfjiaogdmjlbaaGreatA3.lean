/- Walks of the merge of two sorted lists of places. -/
import Derived.Test.YtcfjiaogdmjlbaaGreatA1
import Derived.OwnWalk
namespace Go.Proofs.YtcfjiaogdmjlbaaGreat
open Go.RowKit
/-- A block of cells whose elements are of type T. -/
def IsRow (w : World) (B T : Nat) : Prop := ∃ cs fz, w.heap[B]? = some (.cells cs T fz)
theorem IsRow.ne {w : World} {B B' T T' : Nat} {cs : Array Value} {fz : Nat × Nat} (h : IsRow w B T) (h' : w.heap[B']? = some (.cells cs T' fz)) (hT : T ≠ T') : B ≠ B' := by
  rintro rfl
  obtain ⟨cs', fz', e⟩ := h
  rw [e] at h'
  injection h' with h'
  injection h' with _ h'
  exact hT h'
theorem IsRow.g {w w' : World} {B T B0 : Nat} {R : Option Nat} (h : IsRow w B T) (g : G B0 R w w') (hb : B < B0) (hr : some B ≠ R) : IsRow w' B T := by
  obtain ⟨cs, fz, e⟩ := h
  exact ⟨cs, fz, (g.block B hb hr).trans e⟩
/-- The slice reads as these whole numbers. -/
structure IR (w : World) (A : Option Addr) (n c : Nat) (xs : List Int) : Prop where
  len : xs.length = n
  le : n ≤ c
  cap : c ≤ 9223372036854775807
  sm : n ≤ 1000000
  nil_ : A = none → c = 0
  cells : 0 < n → ∃ B off, A = some ⟨B, off, none⟩ ∧ B < w.heap.size ∧ (∀ i, i < n → w.cell? ⟨B, off + i, none⟩ = some (.int .i64 (xs.getD i 0))) ∧ IsRow w B 3
theorem IR.g {w w' : World} {A : Option Addr} {n c : Nat} {xs : List Int} (h : IR w A n c xs) (g : G w.heap.size none w w') : IR w' A n c xs :=
  ⟨h.len, h.le, h.cap, h.sm, h.nil_, fun hn => by
    obtain ⟨B, off, e, hB, hc, hT⟩ := h.cells hn
    exact ⟨B, off, e, Nat.lt_of_lt_of_le hB g.size, fun i hi => (g.cell hB (by simp)).trans (hc i hi), hT.g g hB (by simp)⟩⟩
theorem IR.tail {w : World} {B off n c : Nat} {x : Int} {xs : List Int} (h : IR w (some ⟨B, off, none⟩) n c (x :: xs)) : IR w (some ⟨B, off + 1, none⟩) (n - 1) (c - 1) xs := by
  have h1 := h.len
  have h2 := h.le
  have h3 := h.cap
  have h4 := h.sm
  simp only [List.length_cons] at h1
  refine ⟨by omega, by omega, by omega, by omega, fun e => (by cases e), fun hn => ?_⟩
  obtain ⟨B', off', e, hB, hc, hT⟩ := h.cells (by omega)
  simp only [Option.some.injEq, Addr.mk.injEq, and_true] at e
  obtain ⟨rfl, rfl⟩ := e
  refine ⟨B, off + 1, rfl, hB, fun i hi => ?_, hT⟩
  have := hc (i + 1) (by omega)
  rw [show off + 1 + i = off + (i + 1) by omega, this]
  simp
theorem IR.nil (w : World) (A : Option Addr) : IR w A 0 0 [] := ⟨rfl, by omega, by omega, by omega, fun _ => rfl, fun h => absurd h (by omega)⟩
theorem add_plain (g o j : Nat) : (⟨g, o, none⟩ : Addr).add j = ⟨g, o + j, none⟩ := by unfold Addr.add; split <;> simp_all
theorem IR.news {w : World} {A : Option Addr} {n c : Nat} {xs : List Int} (h : IR w A n c xs) : ∀ ad, A = some ad → ∀ j u, (xs.map (Value.int .i64))[j]? = some u → w.cell? (ad.add j) = some u := by
  intro ad e j u hu
  have hj : j < xs.length := by
    have := (List.getElem?_eq_some_iff.1 hu).1
    simpa using this
  obtain ⟨B, off, e', hB, hc, _⟩ := h.cells (by have := h.len; omega)
  rw [e] at e'
  obtain rfl := Option.some.inj e'
  rw [add_plain, hc j (by have := h.len; omega)]
  rw [← hu]
  simp [hj]
theorem IR.of_own {w : World} {base B n c : Nat} {xs : List Int} (h : w.ownsRow base 3 1 (.slice (some ⟨B, 0, none⟩) n c) n (xs.map (Value.int .i64))) (hc : c ≤ 9223372036854775807) (hsm : n ≤ 1000000) (hn : n ≤ c) : IR w (some ⟨B, 0, none⟩) n c xs := by
  have hl : xs.length = n := by simpa using h.1
  have hT : IsRow w B 3 := by
    obtain ⟨_, h | ⟨g, cap, cur, hv, _, hh, _⟩⟩ := h
    · cases h.1
    · simp only [Value.slice.injEq, Option.some.injEq, Addr.mk.injEq, and_true] at hv
      obtain ⟨rfl, _⟩ := hv
      exact ⟨_, _, hh⟩
  refine ⟨hl, hn, hc, hsm, fun e => (by cases e), fun h0 => ⟨B, 0, rfl, (h.lt B rfl).2, fun i hi => ?_, hT⟩⟩
  have := h.cells (g := B) rfl i (.int .i64 (xs.getD i 0)) (by simp [show i < xs.length by omega])
  rwa [add_plain] at this
theorem cell_new (w : World) (v : Value) (T : TypeId) : (w.alloc (.cells #[v] T)).cell? ⟨w.heap.size, 0, none⟩ = some v :=
  (cell_heap (show (w.alloc (.cells #[v] T)).heap[w.heap.size]? = some (.cells #[v] T) by show (w.heap.push _)[_]? = _; simp) 0)
theorem one_news {W : World} {b : Nat} {v : Value} (h : W.cell? ⟨b, 0, none⟩ = some v) : ∀ j u, [v][j]? = some u → W.cell? ((⟨b, 0, none⟩ : Addr).add j) = some u := by
  intro j u hj
  match j, hj with
  | 0, hj => simp at hj; subst hj; rw [add_plain]; exact h
theorem one_oneCell {v : Value} (h : v.oneCell' = true) : ∀ u ∈ [v], u.oneCell' = true := by intro u hu; simp at hu; subst hu; exact h
def mergeF (lt : Int → Int → Bool) : List Int → List Int → List Int
  | [], b => b
  | a, [] => a
  | x :: a, y :: b => if lt y x then y :: mergeF lt (x :: a) b else x :: mergeF lt a (y :: b)
  termination_by a b => a.length + b.length
theorem mergeF_nil_right (lt : Int → Int → Bool) (a : List Int) : mergeF lt a [] = a := by cases a <;> simp [mergeF]
theorem mergeF_length (lt : Int → Int → Bool) : ∀ a b : List Int, (mergeF lt a b).length = a.length + b.length
  | [], b => by simp [mergeF]
  | x :: a, [] => by simp [mergeF]
  | x :: a, y :: b => by
    rw [mergeF]; split
    · have := mergeF_length lt (x :: a) b; simp [this]; omega
    · have := mergeF_length lt a (y :: b); simp [this]; omega
  termination_by a b => a.length + b.length
theorem info3 : (Tryz.prog.info? 3).map (fun i => (i.zero, i.size, i.bytes)) = some (some (.int .i64 0), 1, 8) := by kernel_rfl
/-- What a comparing closure is good for. -/
def CL (w : World) (f : Nat) (caps : List Value) (lt : Int → Int → Bool) (dom : Int → Prop) : Prop :=
  ∀ i k, dom i → dom k → ∀ w', G w.heap.size none w w' → Calls Tryz.prog f (#[.int .i64 i, .int .i64 k] ++ caps.toArray) w' fun e w'' => e = .returned (.bool (lt i k)) ∧ ∃ m, w'' = w'.drewN m
/-- The merge's loop: what holds at a round's head. -/
def MRel (w : World) (n1 n2 : Nat) (res : List Int) (lt : Int → Int → Bool) (dom : Int → Prop) (k : Nat) (a b out : Value) (wr : World) : Prop :=
  ∃ A1 n1' c1 xs A2 n2' c2 ys done, a = .slice A1 n1' c1 ∧ b = .slice A2 n2' c2 ∧ out = .slice (some ⟨w.heap.size, 0, none⟩) done.length (n1 + n2) ∧
    IR w A1 n1' c1 xs ∧ IR w A2 n2' c2 ys ∧ wr.ownsRow w.heap.size 3 1 (.slice (some ⟨w.heap.size, 0, none⟩) done.length (n1 + n2)) done.length (done.map (Value.int .i64)) ∧ done ++ mergeF lt xs ys = res ∧
    done.length + n1' + n2' = n1 + n2 ∧ k = n1' + n2' ∧ (∀ x ∈ xs, dom x) ∧ (∀ x ∈ ys, dom x) ∧ G w.heap.size none w wr
set_option maxRecDepth 20000 in
set_option maxHeartbeats 1000000 in
theorem merge_any (A1 A2 : Option Addr) (n1 c1 n2 c2 : Nat) (xs ys : List Int) (p q : Value) (lt : Int → Int → Bool) (dom : Int → Prop) (w : World)
    (h1 : IR w A1 n1 c1 xs) (h2 : IR w A2 n2 c2 ys) (hn : n1 + n2 ≤ 1000000) (hcl : CL w 239 [p, q] lt dom) (hd1 : ∀ x ∈ xs, dom x) (hd2 : ∀ x ∈ ys, dom x) :
    Calls Tryz.prog 249 #[.slice A1 n1 c1, .slice A2 n2 c2, .func (.func 239) #[] #[p, q]] w fun e w' => ∃ B cap, e = .returned (.slice (some ⟨B, 0, none⟩) (n1 + n2) cap) ∧ IR w' (some ⟨B, 0, none⟩) (n1 + n2) cap (mergeF lt xs ys) ∧ G w.heap.size none w w' := by
  obtain ⟨i3, hi3, hz3, hs3, hb3⟩ := info_parts info3
  have hn1 := h1.le
  have hn2 := h2.le
  have hc1 := h1.cap
  have hc2 := h2.cap
  have hs1 := h1.sm
  have hs2 := h2.sm
  have H1 := Lib.hid h1; clear h1
  have H2 := Lib.hid h2; clear h2
  have HC := Lib.hid hcl; clear hcl
  have D1 := Lib.hid hd1; clear hd1
  have D2 := Lib.hid hd2; clear hd2
  have K := Lib.hid (show i3.zero = some (.int .i64 0) ∧ i3.size = 1 ∧ i3.bytes = 8 from ⟨hz3, hs3, hb3⟩); clear hz3 hs3 hb3
  have HADD := Lib.hid (show (n1 : Int) + n2 = ((n1 + n2 : Nat) : Int) by omega)
  go_enter Tryz.func249, Tryz.ntmps249
  go_wp2_with (at_make; rw [HADD.out]; refine wpList_make_own w rfl _ _ 22 rfl w.heap.size 3 i3 (.int .i64 0) 1 Tryz.underlying22 hi3 K.out.1 K.out.2.1 _ _ _ (n1 + n2) rfl rfl rfl (by rw [K.out.2.2]; omega) (by unfold maxLen; omega) (Nat.le_refl _) ?_)
  intro w1 hown hg
  have HOWN := Lib.hid hown; clear hown
  have HG := Lib.hid ((G.refl w.heap.size none w).grown hg (Nat.le_refl _) (by simp)); clear hg
  go_wp2_with fail
  go_loopg [0, 1, 7] (n1 + n2) (fun k a b out wr => MRel w n1 n2 (mergeF lt xs ys) lt dom k a b out wr)
  case atStart => exact ⟨A1, n1, c1, xs, A2, n2, c2, ys, [], rfl, rfl, rfl, H1.out, H2.out, HOWN.out, rfl, by simp, rfl, D1.out, D2.out, HG.out⟩
  case round =>
    clear H1 H2 HOWN HG D1 D2 hc1 hc2 hn1 hn2 hs1 hs2
    obtain ⟨A1, n1', c1, xs', A2, n2', c2, ys', done, rfl, rfl, rfl, r1, r2, hown, hres, hlen, hk, d1, d2, hg⟩ := hrel
    have q1 := r1.len
    have q2 := r2.len
    have q3 := r1.le
    have q4 := r2.le
    have q5 := r1.cap
    have q6 := r2.cap
    have q7 := r1.sm
    have q8 := r2.sm
    have HRES := Lib.hid hres; clear hres
    have HG := Lib.hid hg; clear hg
    have HOWN := Lib.hid hown; clear hown
    have HK := Lib.hid hk; clear hk
    have z1 : ∀ u ∈ xs'.map (Value.int .i64), u.oneCell' = true := ints_oneCell _ _
    have z2 : ∀ u ∈ ys'.map (Value.int .i64), u.oneCell' = true := ints_oneCell _ _
    have R1 := Lib.hid r1; clear r1
    have R2 := Lib.hid r2; clear r2
    have Z1 := Lib.hid z1; clear z1
    have Z2 := Lib.hid z2; clear z2
    by_cases hx : n1' = 0 ∨ n2' = 0
    · have hend : done ++ (xs' ++ ys') = mergeF lt xs ys := by
        refine Eq.trans ?_ HRES.out
        congr 1
        rcases hx with hx | hx
        · obtain rfl : xs' = [] := List.eq_nil_of_length_eq_zero (by omega)
          simp [mergeF]
        · obtain rfl : ys' = [] := List.eq_nil_of_length_eq_zero (by omega)
          simp [mergeF_nil_right]
      have HEND := Lib.hid hend; clear hend
      have Q1 := Lib.hid q1; clear q1
      have Q2 := Lib.hid q2; clear q2
      have HLEN := Lib.hid hlen; clear hlen
      have hd : (decide ((n1' : Int) > 0) && decide ((n2' : Int) > 0)) = false := by
        rcases hx with hx | hx <;> simp [hx]
      go_wp2_with (at_builtin; go_loud (refine wpList_append_fits_any _ rfl _ _ 22 rfl w.heap.size 3 i3 1 Tryz.underlying22 hi3 K.out.2.1 w.heap.size done.length (n1 + n2) (done.map (Value.int .i64)) rfl HOWN.out A1 n1' c1 (xs'.map (Value.int .i64)) rfl (by simp [Q1.out]) (fun e => ⟨by have := R1.out.nil_ e; omega, R1.out.nil_ e⟩) (R1.out.g HG.out).news Z1.out (by have := HLEN.out; omega) ?_))
      all_goals
        intro w2 ho2 hg2
        have G2 := Lib.hid (HG.out.grown hg2 HG.out.size (by intro k hk; simp at hk; subst hk; exact .inl (Nat.le_refl _)))
        have O2 := Lib.hid ho2; clear ho2 hg2
        go_wp2_with (at_builtin; go_loud (refine wpList_append_fits_any _ rfl _ _ 22 rfl w.heap.size 3 i3 1 Tryz.underlying22 hi3 K.out.2.1 w.heap.size (done.length + n1') (n1 + n2) _ rfl O2.out A2 n2' c2 (ys'.map (Value.int .i64)) rfl (by simp [Q2.out]) (fun e => ⟨by have := R2.out.nil_ e; omega, R2.out.nil_ e⟩) (R2.out.g G2.out).news Z2.out (by have := HLEN.out; omega) ?_))
        intro w3 ho3 hg3
        go_wp2
        go_ret
        have hl : done.length + n1' + n2' = n1 + n2 := HLEN.out
        refine ⟨w.heap.size, n1 + n2, ret_eq (by rw [← hl]; rfl), ?_, G2.out.grown hg3 G2.out.size (by intro k hk; simp at hk; subst hk; exact .inl (Nat.le_refl _))⟩
        rw [← HEND.out]
        rw [hl] at ho3
        exact IR.of_own (base := w.heap.size) (by simpa [List.append_assoc] using ho3) (by omega) hn (Nat.le_refl _)
    · obtain ⟨x, xt, rfl⟩ : ∃ x xt, xs' = x :: xt := by
        cases xs' with
        | nil => simp at q1; omega
        | cons x xt => exact ⟨x, xt, rfl⟩
      obtain ⟨y, yt, rfl⟩ : ∃ y yt, ys' = y :: yt := by
        cases ys' with
        | nil => simp at q2; omega
        | cons y yt => exact ⟨y, yt, rfl⟩
      obtain ⟨B1, o1, rfl, hB1, hc1, _⟩ := R1.out.cells (by omega)
      obtain ⟨B2, o2, rfl, hB2, hc2, _⟩ := R2.out.cells (by omega)
      have e1 : wr.cell? ⟨B1, o1, none⟩ = some (.int .i64 x) := (HG.out.cell hB1 (by simp)).trans (by simpa using hc1 0 (by omega))
      have e2 : wr.cell? ⟨B2, o2, none⟩ = some (.int .i64 y) := (HG.out.cell hB2 (by simp)).trans (by simpa using hc2 0 (by omega))
      have hp1 : 0 < n1' := by omega
      have hp2 : 0 < n2' := by omega
      have hcl := Lib.hid (fun (W : World) (g : G w.heap.size none w W) => HC.out y x (d2 y (by simp)) (d1 x (by simp)) W g)
      have D1 := Lib.hid d1; clear d1
      have D2 := Lib.hid d2; clear d2
      have Q1 := Lib.hid q1; clear q1
      have Q2 := Lib.hid q2; clear q2
      have HLEN := Lib.hid hlen; clear hlen
      clear hc1 hc2 hx
      by_cases hb : lt y x = true
      · have hres : (done ++ [y]) ++ mergeF lt (x :: xt) yt = mergeF lt xs ys := by
          refine Eq.trans ?_ HRES.out
          rw [mergeF, if_pos hb]; simp
        have HRES2 := Lib.hid hres; clear hres
        have hcl' := hcl.out; rw [hb] at hcl'; have hcl2 := Lib.hid hcl'; clear hcl' hcl
        by_cases hcc : c2 = 1
        · go_wp2_with fail
          go_quiet ((go_at_call 239; exact Calls.quiet_of (hcl2.out _ (HG.out.drewN _))))
          go_wp2_with (at_builtin; refine wpList_append_fits _ rfl _ _ 22 rfl w.heap.size 3 i3 1 Tryz.underlying22 hi3 K.out.2.1 w.heap.size done.length (n1 + n2) (done.map (Value.int .i64)) rfl (by exact HOWN.out.alloc _) ⟨wr.heap.size, 0, none⟩ 1 1 [.int .i64 y] rfl rfl (one_news (cell_new _ _ _)) (one_oneCell rfl) (by have := HLEN.out; omega) ?_)
          intro w2 ho2 hg2
          have G2 := Lib.hid (((HG.out.drewN _).alloc _ HG.out.size).grown hg2 (by have := HG.out.size; simp; omega) (by intro k hk; simp at hk; subst hk; exact .inl (Nat.le_refl _)))
          have O2 := Lib.hid ho2; clear ho2 hg2
          go_wp2
          go_roundg (n1' + n2' - 1)
          case measure => have := HK.out; omega
          case rel => 
            have O3 : w2.ownsRow w.heap.size 3 1 (.slice (some ⟨w.heap.size, 0, none⟩) (done ++ [y]).length (n1 + n2)) (done ++ [y]).length ((done ++ [y]).map (Value.int .i64)) := by simpa using O2.out
            have L3 := HLEN.out
            obtain rfl : n2' = 1 := by omega
            obtain rfl : yt = [] := List.eq_nil_of_length_eq_zero (by have := Q2.out; simp only [List.length_cons] at this; omega)
            exact ⟨some ⟨B1, o1, none⟩, n1', c1, x :: xt, some ⟨B2, o2, none⟩, 0, 0, [], done ++ [y], rfl, rfl, by simp, R1.out, IR.nil _ _, O3, HRES2.out, by simp; omega, by omega, D1.out, by simp, G2.out⟩
        · go_wp2_with fail
          go_quiet ((go_at_call 239; exact Calls.quiet_of (hcl2.out _ (HG.out.drewN _))))
          go_wp2_with (at_builtin; refine wpList_append_fits _ rfl _ _ 22 rfl w.heap.size 3 i3 1 Tryz.underlying22 hi3 K.out.2.1 w.heap.size done.length (n1 + n2) (done.map (Value.int .i64)) rfl (by exact HOWN.out.alloc _) ⟨wr.heap.size, 0, none⟩ 1 1 [.int .i64 y] rfl rfl (one_news (cell_new _ _ _)) (one_oneCell rfl) (by have := HLEN.out; omega) ?_)
          intro w2 ho2 hg2
          have G2 := Lib.hid (((HG.out.drewN _).alloc _ HG.out.size).grown hg2 (by have := HG.out.size; simp; omega) (by intro k hk; simp at hk; subst hk; exact .inl (Nat.le_refl _)))
          have O2 := Lib.hid ho2; clear ho2 hg2
          go_wp2
          go_roundg (n1' + n2' - 1)
          case measure => have := HK.out; omega
          case rel => 
            have O3 : w2.ownsRow w.heap.size 3 1 (.slice (some ⟨w.heap.size, 0, none⟩) (done ++ [y]).length (n1 + n2)) (done ++ [y]).length ((done ++ [y]).map (Value.int .i64)) := by simpa using O2.out
            have L3 := HLEN.out
            exact ⟨some ⟨B1, o1, none⟩, n1', c1, x :: xt, some ⟨B2, o2 + 1, none⟩, n2' - 1, c2 - 1, yt, done ++ [y], rfl, rfl, by simp, R1.out, R2.out.tail, O3, HRES2.out, by simp; omega, by omega, D1.out, fun z hz => D2.out z (by simp [hz]), G2.out⟩
      · have hres : (done ++ [x]) ++ mergeF lt xt (y :: yt) = mergeF lt xs ys := by
          refine Eq.trans ?_ HRES.out
          rw [mergeF, if_neg hb]; simp
        have HRES2 := Lib.hid hres; clear hres
        replace hb : lt y x = false := by simpa using hb
        have hcl' := hcl.out; rw [hb] at hcl'; have hcl2 := Lib.hid hcl'; clear hcl' hcl
        by_cases hcc : c1 = 1
        · go_wp2_with fail
          go_quiet ((go_at_call 239; exact Calls.quiet_of (hcl2.out _ (HG.out.drewN _))))
          go_wp2_with (at_builtin; refine wpList_append_fits _ rfl _ _ 22 rfl w.heap.size 3 i3 1 Tryz.underlying22 hi3 K.out.2.1 w.heap.size done.length (n1 + n2) (done.map (Value.int .i64)) rfl (by exact HOWN.out.alloc _) ⟨wr.heap.size, 0, none⟩ 1 1 [.int .i64 x] rfl rfl (one_news (cell_new _ _ _)) (one_oneCell rfl) (by have := HLEN.out; omega) ?_)
          intro w2 ho2 hg2
          have G2 := Lib.hid (((HG.out.drewN _).alloc _ HG.out.size).grown hg2 (by have := HG.out.size; simp; omega) (by intro k hk; simp at hk; subst hk; exact .inl (Nat.le_refl _)))
          have O2 := Lib.hid ho2; clear ho2 hg2
          go_wp2
          go_roundg (n1' + n2' - 1)
          case measure => have := HK.out; omega
          case rel => 
            have O3 : w2.ownsRow w.heap.size 3 1 (.slice (some ⟨w.heap.size, 0, none⟩) (done ++ [x]).length (n1 + n2)) (done ++ [x]).length ((done ++ [x]).map (Value.int .i64)) := by simpa using O2.out
            have L3 := HLEN.out
            obtain rfl : n1' = 1 := by omega
            obtain rfl : xt = [] := List.eq_nil_of_length_eq_zero (by have := Q1.out; simp only [List.length_cons] at this; omega)
            exact ⟨some ⟨B1, o1, none⟩, 0, 0, [], some ⟨B2, o2, none⟩, n2', c2, y :: yt, done ++ [x], rfl, rfl, by simp, IR.nil _ _, R2.out, O3, HRES2.out, by simp; omega, by omega, by simp, D2.out, G2.out⟩
        · go_wp2_with fail
          go_quiet ((go_at_call 239; exact Calls.quiet_of (hcl2.out _ (HG.out.drewN _))))
          go_wp2_with (at_builtin; refine wpList_append_fits _ rfl _ _ 22 rfl w.heap.size 3 i3 1 Tryz.underlying22 hi3 K.out.2.1 w.heap.size done.length (n1 + n2) (done.map (Value.int .i64)) rfl (by exact HOWN.out.alloc _) ⟨wr.heap.size, 0, none⟩ 1 1 [.int .i64 x] rfl rfl (one_news (cell_new _ _ _)) (one_oneCell rfl) (by have := HLEN.out; omega) ?_)
          intro w2 ho2 hg2
          have G2 := Lib.hid (((HG.out.drewN _).alloc _ HG.out.size).grown hg2 (by have := HG.out.size; simp; omega) (by intro k hk; simp at hk; subst hk; exact .inl (Nat.le_refl _)))
          have O2 := Lib.hid ho2; clear ho2 hg2
          go_wp2
          go_roundg (n1' + n2' - 1)
          case measure => have := HK.out; omega
          case rel => 
            have O3 : w2.ownsRow w.heap.size 3 1 (.slice (some ⟨w.heap.size, 0, none⟩) (done ++ [x]).length (n1 + n2)) (done ++ [x]).length ((done ++ [x]).map (Value.int .i64)) := by simpa using O2.out
            have L3 := HLEN.out
            exact ⟨some ⟨B1, o1 + 1, none⟩, n1' - 1, c1 - 1, xt, some ⟨B2, o2, none⟩, n2', c2, y :: yt, done ++ [x], rfl, rfl, by simp, R1.out.tail, R2.out, O3, HRES2.out, by simp; omega, by omega, fun z hz => D1.out z (by simp [hz]), D2.out, G2.out⟩
end Go.Proofs.YtcfjiaogdmjlbaaGreat
