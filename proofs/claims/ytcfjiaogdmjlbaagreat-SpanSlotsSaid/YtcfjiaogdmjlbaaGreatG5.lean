/- The walk of the law SpanSlots itself. -/
import Derived.Test.YtcfjiaogdmjlbaaGreatG4
namespace Go.Proofs.YtcfjiaogdmjlbaaGreat
open Go.RowKit
abbrev arrO : Obj := .cells #[.string ⟨#[97]⟩, .string ⟨#[97, 97]⟩, .string ⟨#[97, 98]⟩, .string ⟨#[98]⟩, .string ⟨#[98, 97]⟩, .string ⟨#[99]⟩, .string ⟨#[99, 97, 98]⟩, .string ⟨#[100]⟩] 48
def boolO (hb : List Bool) : Obj := .cells (hb.map Value.bool).toArray 49
theorem arr_cell {w : World} {A : Nat} (h : w.heap[A]? = some arrO) (i : Nat) (hi : i < 8) : w.cell? ⟨A, i, none⟩ = some (.string (at8 i)) := by
  rw [cell_heap h i]
  match i, hi with
  | 0, _ => rfl
  | 1, _ => rfl
  | 2, _ => rfl
  | 3, _ => rfl
  | 4, _ => rfl
  | 5, _ => rfl
  | 6, _ => rfl
  | 7, _ => rfl
theorem bool_cell {w : World} {A : Nat} {hb : List Bool} (h : w.heap[A]? = some (boolO hb)) (i : Nat) (hi : i < hb.length) : w.cell? ⟨A, i, none⟩ = some (.bool (hb.getD i false)) := by
  rw [cell_heap h i]; simp [List.getD, hi]
theorem bool_set {w : World} {A : Nat} {hb : List Bool} (h : w.heap[A]? = some (boolO hb)) (i : Nat) : (w.setCell ⟨A, i, none⟩ (.bool true)).heap[A]? = some (boolO (hb.set i true)) := by
  rw [boolO, heap_set (j := i) h]
  simp [boolO, List.map_set]
/-- What stands in memory as the law runs: the tree, the names, the marks. -/
structure Mem (w : World) (vK vV : Value) (hb : List Bool) (wr : World) : Prop where
  t : wr.heap[w.heap.size]? = some (treO 7 vK vV)
  a : wr.heap[w.heap.size + 1]? = some arrO
  b : wr.heap[w.heap.size + 1 + 1]? = some (boolO hb)
  g : G w.heap.size none w wr
theorem Mem.g' {w wr w' : World} {vK vV : Value} {hb : List Bool} (h : Mem w vK vV hb wr) (g : G wr.heap.size none wr w') : Mem w vK vV hb w' :=
  ⟨(g.block _ (lt_heap h.t) (by simp)).trans h.t, (g.block _ (lt_heap h.a) (by simp)).trans h.a, (g.block _ (lt_heap h.b) (by simp)).trans h.b, h.g.trans (g.mono h.g.size)⟩
def L1 (w : World) (len k : Nat) (v : Value) (wr : World) : Prop :=
  ∃ (j : Nat) (hb : List Bool), j ≤ len ∧ k = len - j ∧ v = .int .i64 (j : Nat) ∧ hb.length = 8 ∧ Mem w (.slice none 0 0) (.slice none 0 0) hb wr
def nullV : List Value := [.int .i64 1, .bool false, .bool false, .slice none 0 0, .int .i64 0, .string ⟨#[]⟩, .slice none 0 0, .slice none 0 0]
def L2 (w : World) (f : Int) (hb : List Bool) (n k : Nat) (vl vi : Value) (wr : World) : Prop :=
  ∃ (j : Nat) (AK : Option Addr) (cK : Nat) (AV : Option Addr) (cV : Nat), j ≤ 8 ∧ k = 8 - j ∧ vi = .int .i64 (j : Nat) ∧ vl = .int .i64 (lessN f hb n j : Nat) ∧
    Mem w (.slice AK (kS hb n j).length cK) (.slice AV (kS hb n j).length cV) hb wr ∧ wr.ownsRow (w.heap.size + 3) 9 1 (.slice AK (kS hb n j).length cK) (kS hb n j).length ((kS hb n j).map Value.string) ∧
    wr.ownsRow (w.heap.size + 3) 30 8 (.slice AV (kS hb n j).length cV) (kS hb n j).length (List.replicate (kS hb n j).length nullV).flatten
theorem kept_succ (hb : List Bool) (n j : Nat) : kept hb n (j + 1) = kept hb n j ++ (if (hb.getD j false && j != n) = true then [j] else []) := by
  rw [kept, kept, List.range_succ, List.filter_append]
  congr 1
  simp only [List.filter_cons, List.filter_nil]
theorem kS_yes (hb : List Bool) (n j : Nat) (h : (hb.getD j false && j != n) = true) : kS hb n (j + 1) = kS hb n j ++ [at8 j] := by rw [kS, kept_succ, if_pos h, List.map_append]; rfl
theorem kS_no (hb : List Bool) (n j : Nat) (h : (hb.getD j false && j != n) = false) : kS hb n (j + 1) = kS hb n j := by rw [kS, kept_succ, if_neg (by rw [h]; simp), List.append_nil]; rfl
theorem less_yes (f : Int) (hb : List Bool) (n j : Nat) (h : (hb.getD j false && j != n) = true) : lessN f hb n (j + 1) = lessN f hb n j + (if lessT f n j = true then 1 else 0) := by
  rw [lessN, kept_succ, if_pos h, List.filter_append, List.length_append, lessN]
  congr 1
  simp only [List.filter_cons, List.filter_nil]
  split <;> simp
theorem less_no (f : Int) (hb : List Bool) (n j : Nat) (h : (hb.getD j false && j != n) = false) : lessN f hb n (j + 1) = lessN f hb n j := by rw [lessN, kept_succ, if_neg (by rw [h]; simp), List.append_nil, lessN]
theorem Mem.alloc {w wr : World} {vK vV : Value} {hb : List Bool} (h : Mem w vK vV hb wr) (o : Obj) : Mem w vK vV hb (wr.alloc o) := h.g' ((G.refl wr.heap.size none wr).alloc o (Nat.le_refl _))
theorem Mem.drew {w wr : World} {vK vV : Value} {hb : List Bool} (h : Mem w vK vV hb wr) : Mem w vK vV hb wr.drew := ⟨h.t, h.a, h.b, h.g.drew⟩
theorem Mem.drewN {w wr : World} {vK vV : Value} {hb : List Bool} (h : Mem w vK vV hb wr) (n : Nat) : Mem w vK vV hb (wr.drewN n) := ⟨h.t, h.a, h.b, h.g.drewN n⟩
theorem Mem.grown {w wr w' : World} {vK vV : Value} {hb : List Bool} {row : Option Nat} (h : Mem w vK vV hb wr) (hg : wr.grownBy w' row) (hr : ∀ k, row = some k → w.heap.size + 3 ≤ k) : Mem w vK vV hb w' := by
  have hz := h.g.size
  have h1 := lt_heap h.t
  have h2 := lt_heap h.a
  have h3 := lt_heap h.b
  exact ⟨(hg.block _ h1 (fun e => by have := hr _ e.symm; omega)).trans h.t, (hg.block _ h2 (fun e => by have := hr _ e.symm; omega)).trans h.a, (hg.block _ h3 (fun e => by have := hr _ e.symm; omega)).trans h.b,
    h.g.grown hg hz (fun k hk => .inl (by have := hr k hk; omega))⟩
theorem Mem.store {w wr : World} {vK vV : Value} {hb : List Bool} (h : Mem w vK vV hb wr) (vK' vV' : Value) : Mem w vK' vV' hb ((wr.setCell ⟨w.heap.size, 6, none⟩ vK').setCell ⟨w.heap.size, 7, none⟩ vV') :=
  ⟨heap_set (j := 7) (heap_set (j := 6) h.t vK') vV', (Below.heap_setCell _ _ _ _ (by simp)).trans ((Below.heap_setCell _ _ _ _ (by simp)).trans h.a),
    (Below.heap_setCell _ _ _ _ (by simp <;> omega)).trans ((Below.heap_setCell _ _ _ _ (by simp <;> omega)).trans h.b), (h.g.put _ _ _ (Nat.le_refl _)).put _ _ _ (Nat.le_refl _)⟩
/-- What the two loads of the statement that appends read, and the name. -/
def St (w : World) (vK vV : Value) (j : Nat) (key : ByteArray) (b : Bool) (X : World) : Prop :=
  b = false → X.cell? ⟨w.heap.size, 6, none⟩ = some vK ∧ X.cell? ⟨w.heap.size, 7, none⟩ = some vV ∧ X.cell? ⟨w.heap.size + 1, j, none⟩ = some (.string key)
theorem Mem.st {w wr : World} {vK vV : Value} {hb : List Bool} (h : Mem w vK vV hb wr) {j : Nat} (hj : j < 8) : St w vK vV j (at8 j) false wr := fun _ =>
  ⟨(cells8' h.t).2.2.2.2.2.2.1, (cells8' h.t).2.2.2.2.2.2.2, arr_cell h.a j hj⟩
theorem own_ty_ne {X : World} {B n gv : Nat} {e : TypeId} {size : Nat} {v : Value} {xs : List Value} {cs : Array Value} {T : TypeId} {fz : Nat × Nat} (h : X.ownsRow B e size v n xs) (hh : X.heap[gv]? = some (.cells cs T fz)) (hne : T ≠ e) : some gv ≠ v.ownBlock := by
  intro hv
  rcases h.2 with ⟨rfl, _⟩ | ⟨g', cap, cur, rfl, _, h3, _⟩
  · cases hv
  · simp only [Value.ownBlock, Option.some.injEq] at hv
    subst hv
    rw [h3] at hh
    simp only [Option.some.injEq, Obj.cells.injEq] at hh
    exact hne hh.2.1.symm
theorem null_news {X : World} {gv : Nat} (h : X.heap[gv]? = some (.cells nullV.toArray 30 (0, 0))) : ∀ j u, nullV[j]? = some u → X.cell? ((⟨gv, 0, none⟩ : Addr).add j) = some u := fun j u hu => by
  rw [add_plain, Nat.zero_add, cell_heap h j]
  simpa using hu
theorem psf_le : ∀ (ks : List ByteArray) (a : Nat), (∀ k ∈ ks, k.size < 24) → ∀ i, psf a ks i ≤ a + 26 * ks.length
  | [], a, _, i => by simp [psf]
  | k :: ks, a, h, 0 => by simp [psf]
  | k :: ks, a, h, 1 => by have := h k (by simp); simp only [psf, List.length_cons]; omega
  | k :: ks, a, h, i + 2 => by
    have h1 := h k (by simp)
    have h2 := psf_le ks (a + 2 + k.size) (fun x hx => h x (by simp [hx])) i
    simp only [psf, List.length_cons]; omega
theorem rep_succ (k : Nat) (l : List Value) : (List.replicate (k + 1) l).flatten = (List.replicate k l).flatten ++ l := by
  rw [List.replicate_succ', List.flatten_append]; simp
theorem rep_at (l : List Value) (hl : l.length = 8) : ∀ (m i q : Nat) (u : Value), i < m → l[q]? = some u → (List.replicate m l).flatten[i * 8 + q]? = some u
  | 0, i, q, u, h, _ => absurd h (by omega)
  | m + 1, i, q, u, h, hu => by
    have hq : q < 8 := by rw [← hl]; exact (List.getElem?_eq_some_iff.1 hu).1
    rw [List.replicate_succ, List.flatten_cons]
    match i with
    | 0 => rw [Nat.zero_mul, Nat.zero_add, List.getElem?_append_left (by omega)]; exact hu
    | i + 1 =>
      rw [List.getElem?_append_right (by rw [hl]; omega), hl, show (i + 1) * 8 + q - 8 = i * 8 + q by omega]
      exact rep_at l hl m i q u (by omega) hu
theorem NV.of_own {X : World} {base : Nat} {A : Option Addr} {n c : Nat} (h : X.ownsRow base 30 8 (.slice A n c) n (List.replicate n nullV).flatten) : NV X A n c := by
  have hc := own_cap h
  rcases h.2 with ⟨e, e2⟩ | ⟨g, cap, cur, e, _, hh, h3, h4, h5, h6⟩
  · cases e
    exact ⟨Nat.le_refl _, by omega, fun h => absurd h (by omega)⟩
  · simp only [Value.slice.injEq] at e
    obtain ⟨rfl, _, rfl⟩ := e
    refine ⟨h3, hc, fun h0 => ⟨g, 0, rfl, lt_heap hh, fun i hi q u hu => ?_⟩⟩
    have := h.cells (g := g) rfl (i * 8 + q) u (rep_at nullV rfl n i q u hi hu)
    rw [add_plain] at this
    rwa [← Nat.add_assoc] at this
theorem null_one : ∀ u ∈ nullV, u.oneCell' = true := by
  intro u hu
  simp only [nullV, List.mem_cons, List.not_mem_nil, or_false] at hu
  rcases hu with rfl | rfl | rfl | rfl | rfl | rfl | rfl | rfl <;> rfl
set_option maxRecDepth 100000 in
set_option maxHeartbeats 8000000 in
theorem slots_walk (A : Option Addr) (len c : Nat) (zs : Nat → Int) (x y : Int) (w : World) (hlen : len ≤ 9223372036854775807) (hc : len ≤ c)
    (hr : 0 < len → ∃ B off, A = some ⟨B, off, none⟩ ∧ B < w.heap.size ∧ ∀ i, i < len → w.cell? ⟨B, off + i, none⟩ = some (.int .i64 (zs i))) (hz : ∀ i, i < len → -9223372036854775808 ≤ zs i ∧ zs i ≤ 9223372036854775807)
    (hx : -9223372036854775808 ≤ x ∧ x ≤ 9223372036854775807) (hy : -9223372036854775808 ≤ y ∧ y ≤ 9223372036854775807) :
    Calls Tryz.prog 4 #[.slice A len c, .int .i64 x, .int .i64 y] w fun e w' => e = .returned (.bool true) ∧ G w.heap.size none w w' := by
  obtain ⟨n, hn, hxn⟩ : ∃ n : Nat, n < 8 ∧ x % 8 = (n : Int) := ⟨(x % 8).toNat, by omega, by omega⟩
  obtain ⟨m, hm, hym⟩ : ∃ m : Nat, m < 2 ∧ y % 2 = (m : Int) := ⟨(y % 2).toNat, by omega, by omega⟩
  have HX := Lib.hid (fun W => place_mod x 8 (.inl rfl) hx W)
  have HY := Lib.hid (fun W => place_mod y 2 (.inr rfl) hy W)
  rw [hxn] at HX
  rw [hym] at HY
  have HR := Lib.hid hr
  have HZ := Lib.hid (fun i hi W => place_mod (zs i) 8 (.inl rfl) (hz i hi) W)
  clear hr hz hxn hym hx hy
  have hM0 : Mem w (.slice none 0 0) (.slice none 0 0) [false, false, false, false, false, false, false, false] (((w.alloc (treO 7 (.slice none 0 0) (.slice none 0 0))).alloc arrO).alloc (boolO [false, false, false, false, false, false, false, false])) := by
    refine ⟨(Below.heap_alloc _ _ _ (by simp; omega)).trans ((Below.heap_alloc _ _ _ (by simp)).trans (heap_new w _)), (Below.heap_alloc _ _ _ (by simp)).trans ?_, ?_, (((G.refl _ _ _).alloc _ (Nat.le_refl _)).alloc _ (by simp)).alloc _ (by simp; omega)⟩
    · have h := heap_new (w.alloc (treO 7 (.slice none 0 0) (.slice none 0 0))) arrO
      simpa using h
    · have h := heap_new ((w.alloc (treO 7 (.slice none 0 0) (.slice none 0 0))).alloc arrO) (boolO [false, false, false, false, false, false, false, false])
      simpa using h
  have HM0 := Lib.hid hM0; clear hM0
  go_enter Tryz.func4, Tryz.ntmps4
  go_wp2_with fail
  go_loopg [10] len (fun k v wr => L1 w len k v wr)
  case atStart => exact ⟨0, _, Nat.zero_le _, rfl, rfl, rfl, HM0.out⟩
  case round =>
    clear HM0
    obtain ⟨j, hb, hj, hk, rfl, hbl, hM⟩ := hrel
    have HK := Lib.hid hk; clear hk
    have HM := Lib.hid hM; clear hM
    by_cases hlt : j < len
    · obtain ⟨B, off, rfl, hB, hcl⟩ := HR.out (by omega)
      have e1 := (HM.out.g.cell hB (by simp)).trans (hcl j hlt)
      obtain ⟨p, hp, hxp⟩ : ∃ p : Nat, p < 8 ∧ zs j % 8 = (p : Int) := ⟨(zs j % 8).toNat, by omega, by omega⟩
      have HZ1 := Lib.hid (HZ.out j hlt)
      rw [hxp] at HZ1
      generalize zs j = z at *
      have c1 := bool_cell HM.out.b p (by omega)
      have f1 := fun i => froz_heap (show wr.heap[w.heap.size + 1 + 1]? = some (.cells (hb.map Value.bool).toArray 49 (0, 0)) from HM.out.b) i
      have p0 : (0 : Int) ≤ (p : Int) := by omega
      have p1 : (p : Int) < 8 := by omega
      clear hcl hxp
      go_wp2_with (go_at_call 8; (with_reducible refine (HZ1.out _).mono ?_); rintro e w1 ⟨rfl, rfl⟩)
      go_roundg (len - (j + 1))
      case measure => have := HK.out; omega
      case rel =>
        refine ⟨j + 1, hb.set p true, hlt, rfl, by simp, by simpa using hbl, ⟨(Below.heap_setCell _ _ _ _ (by simp <;> omega)).trans HM.out.t, (Below.heap_setCell _ _ _ _ (by simp <;> omega)).trans HM.out.a, bool_set HM.out.b p, HM.out.g.put _ _ _ (by omega)⟩⟩
    · obtain rfl : j = len := by omega
      clear HR HZ HK
      go_wp2_with (first | (go_at_call 8; (with_reducible refine (HX.out _).mono ?_); rintro e w1 ⟨rfl, rfl⟩) | (go_at_call 8; (with_reducible refine (HY.out _).mono ?_); rintro e w1 ⟨rfl, rfl⟩))
      have HM := Lib.hid (show Mem w _ _ hb wr from HM.out)
      have hfq : (2 + (m : Int) = 2 ∨ 2 + (m : Int) = 3) := by omega
      generalize 2 + (m : Int) = f at *
      obtain ⟨i9, hi9, hz9, hs9, hb9⟩ := info_parts info9
      obtain ⟨i30, hi30, hz30, hs30, hb30⟩ := info_parts info30
      have K9 := Lib.hid (And.intro hz9 (And.intro hs9 hb9)); clear hz9 hs9 hb9
      have K30 := Lib.hid (And.intro hz30 (And.intro hs30 hb30)); clear hz30 hs30 hb30
      have HFQ := Lib.hid hfq; clear hfq HX HY hm
      go_loopg [13, 14] 8 (fun k vl vi wr2 => L2 w f hb n k vl vi wr2)
      case atStart => exact ⟨0, none, 0, none, 0, by omega, rfl, rfl, rfl, HM.out, World.ownsRow_nil _ _ _ _, World.ownsRow_nil _ _ _ _⟩
      case round =>
        rename World => wr2
        obtain ⟨j, AK, cK, AV, cV, hj, hk, rfl, rfl, hM, hK, hV⟩ := hrel
        have HK2 := Lib.hid hk; clear hk
        clear HM
        by_cases hj8 : j < 8
        · have c1 := bool_cell hM.b j (by omega)
          by_cases hyes : (hb.getD j false && j != n) = true
          · have hb1 : hb.getD j false = true := by simp only [Bool.and_eq_true] at hyes; exact hyes.1
            have hjn : ¬ j = n := by simp only [Bool.and_eq_true, bne_iff_ne] at hyes; exact hyes.2
            have hjn2 : ((j : Int) == (n : Int)) = false := beq_eq_false_iff_ne.2 (by omega)
            have hjn3 : (j == n) = false := beq_eq_false_iff_ne.2 hjn
            rw [hb1] at c1
            have HYES := Lib.hid hyes; clear hyes
            obtain ⟨kl, hkl⟩ : ∃ kl, (kS hb n j).length = kl := ⟨_, rfl⟩
            have hkl8 : kl ≤ 8 := by rw [← hkl, kS, List.length_map]; exact Nat.le_trans (kept_len hb n j) hj
            rw [hkl] at hM hK hV
            have HKL := Lib.hid hkl; clear hkl
            obtain ⟨le, hle⟩ : ∃ le, lessN f hb n j = le := ⟨_, rfl⟩
            have hle8 : le ≤ 8 := by rw [← hle]; exact Nat.le_trans (List.length_filter_le _ _) (Nat.le_trans (kept_len hb n j) hj)
            rw [hle]
            have HLE := Lib.hid hle; clear hle
            have HM := Lib.hid hM; have HOK := Lib.hid hK; have HOV := Lib.hid hV
            clear hM hK hV hb1
            have j0 : (0 : Int) ≤ (j : Int) := by omega
            have j8 : (j : Int) < 8 := by omega
            go_wp2_with fail
            clear c1
            have HM0 := Lib.hid HM.out.drew
            have HOK0 := Lib.hid (show wr2.drew.ownsRow _ 9 1 _ _ _ from HOK.out)
            have HOV0 := Lib.hid (show wr2.drew.ownsRow _ 30 8 _ _ _ from HOV.out)
            refine region_T 13 (St w (.slice AK kl cK) (.slice AV kl cV) j (at8 j)) (by kernel_rfl) ?_
            generalize wr2.drew = X0 at *
            refine AnyT.take0 (i := 0) (oi := ⟨some 57, _, _, _, _, _⟩) (v := ?_) rfl (by kernel_rfl) (by kernel_rfl) (by kernel_rfl) (by decide) (fun _ _ _ h => h) (by rfl) ?_ (HM0.out.st hj8) ?_
            rotate_left
            · intro w; go_simp; try (with_reducible rfl)
            try simp only [Act.put, List.setIfInBounds_toArray, List.set_cons_zero, List.set_cons_succ]
            refine AnyT.take1 (i := 1) (oi := ⟨some 58, _, _, _, _, _⟩) (v := ?_) rfl (by kernel_rfl) (by kernel_rfl) (by kernel_rfl) (by decide) (by kernel_rfl) rfl (fun _ _ _ h => h) (by rfl) ?_ (HM0.out.st hj8) ?_
            rotate_left
            · intro w hSw; obtain ⟨s6, s7, s8⟩ := hSw rfl; go_simp; try (with_reducible rfl)
            try simp only [Act.put, List.setIfInBounds_toArray, List.set_cons_zero, List.set_cons_succ]
            refine AnyT.take0 (i := 2) (oi := ⟨some 59, _, _, _, _, _⟩) (v := ?_) rfl (by kernel_rfl) (by kernel_rfl) (by kernel_rfl) (by decide) (fun _ _ _ h => h) (by rfl) ?_ (HM0.out.st hj8) ?_
            rotate_left
            · intro w; go_simp; try (with_reducible rfl)
            try simp only [Act.put, List.setIfInBounds_toArray, List.set_cons_zero, List.set_cons_succ]
            refine AnyT.take0 (i := 3) (oi := ⟨some 60, _, _, _, _, _⟩) (v := ?_) rfl (by kernel_rfl) (by kernel_rfl) (by kernel_rfl) (by decide) (fun _ _ _ h => h) (by rfl) ?_ (HM0.out.st hj8) ?_
            rotate_left
            · intro w; go_simp; try (with_reducible rfl)
            try simp only [Act.put, List.setIfInBounds_toArray, List.set_cons_zero, List.set_cons_succ]
            refine AnyT.take1 (i := 4) (oi := ⟨some 61, _, _, _, _, _⟩) (v := ?_) rfl (by kernel_rfl) (by kernel_rfl) (by kernel_rfl) (by decide) (by kernel_rfl) rfl (fun _ _ _ h => h) (by rfl) ?_ (HM0.out.st hj8) ?_
            rotate_left
            · intro w hSw; obtain ⟨s6, s7, s8⟩ := hSw rfl; go_simp; try (with_reducible rfl)
            try simp only [Act.put, List.setIfInBounds_toArray, List.set_cons_zero, List.set_cons_succ]
            refine AnyT.take0 (i := 7) (oi := ⟨some 64, _, _, _, _, _⟩) (v := ?_) rfl (by kernel_rfl) (by kernel_rfl) (by kernel_rfl) (by decide) (fun _ _ _ h => h) (by rfl) ?_ (HM0.out.st hj8) ?_
            rotate_left
            · intro w; go_simp; try (with_reducible rfl)
            try simp only [Act.put, List.setIfInBounds_toArray, List.set_cons_zero, List.set_cons_succ]
            refine AnyT.take1 (i := 8) (oi := ⟨some 65, _, _, _, _, _⟩) (v := ?_) rfl (by kernel_rfl) (by kernel_rfl) (by kernel_rfl) (by decide) (by kernel_rfl) rfl (fun _ _ _ h => h) (by rfl) ?_ (HM0.out.st hj8) ?_
            rotate_left
            · intro w hSw; obtain ⟨s6, s7, s8⟩ := hSw rfl; go_simp; try (with_reducible rfl)
            try simp only [Act.put, List.setIfInBounds_toArray, List.set_cons_zero, List.set_cons_succ]
            refine AnyT.take0 (i := 9) (oi := ⟨some 66, _, _, _, _, _⟩) (v := ?_) rfl (by kernel_rfl) (by kernel_rfl) (by kernel_rfl) (by decide) (fun _ _ _ h => h) (by rfl) ?_ (HM0.out.st hj8) ?_
            rotate_left
            · intro w; go_simp; try (with_reducible rfl)
            try simp only [Act.put, List.setIfInBounds_toArray, List.set_cons_zero, List.set_cons_succ]
            refine AnyT.all (rs := [5, 10]) (by kernel_rfl) (by simp) (List.forall_mem_cons.2 ⟨?_, List.forall_mem_cons.2 ⟨?_, fun _ h => by cases h⟩⟩)
            · refine AnyT.step (o := ⟨some 62, _, _, _, _, _⟩) (b := false) rfl rfl (fun K hK => ?_)
              go_simp
              have HM1 := Lib.hid (HM0.out.alloc (.cells #[.string (at8 j)] 9))
              have HOK1 := Lib.hid (HOK0.out.alloc (.cells #[.string (at8 j)] 9))
              have HOV1 := Lib.hid (HOV0.out.alloc (.cells #[.string (at8 j)] 9))
              have HSK1 := Lib.hid (heap_new X0 (.cells #[.string (at8 j)] 9))
              generalize X0.alloc (.cells #[.string (at8 j)] 9) = X1 at *
              refine hK.out _ _ (HM1.out.st hj8) ?_
              clear hK K
              try simp only [Act.put, List.setIfInBounds_toArray, List.set_cons_zero, List.set_cons_succ]
              refine AnyT.all (rs := [6, 10]) (by kernel_rfl) (by simp) (List.forall_mem_cons.2 ⟨?_, List.forall_mem_cons.2 ⟨?_, fun _ h => by cases h⟩⟩)
              · refine AnyT.step (o := ⟨some 63, _, _, _, _, _⟩) (b := false) rfl rfl (fun K hK => ?_)
                refine step_append_src rfl (.tmp 58) (.tmp 62) 27 27 rfl (w.heap.size + 3) 9 i9 (.string ByteArray.empty) 1 16 Tryz.underlying27 hi9 K9.out.1 K9.out.2.1 K9.out.2.2 rfl (by decide) (.slice AK kl cK) kl _ rfl HOK1.out (.slice (some ⟨X0.heap.size, 0, none⟩) 1 1) 1 [.string (at8 j)] rfl (Src.ofSlice _ Tryz.underlying27 ⟨X0.heap.size, 0, none⟩ 1 1 _ rfl (one_news (cells1 HSK1.out)) (one_oneCell rfl)) (by unfold maxLen; omega) (by omega) (by have := lt_heap HM1.out.b; omega) ?_
                intro AK2 cK2 X2 hO hg
                have HM2 := Lib.hid (HM1.out.grown hg (fun k hk => (HOK1.out.lt k hk).1))
                have HOK2 := Lib.hid hO
                have HOV2 := Lib.hid (HOV1.out.kept hg (own_type_ne HOV1.out HOK1.out (by decide)))
                clear hO hg
                refine hK.out _ _ (HM2.out.st hj8) ?_
                clear hK K
                try simp only [Act.put, List.setIfInBounds_toArray, List.set_cons_zero, List.set_cons_succ]
                refine AnyT.take0 (i := 12) (oi := ⟨some 69, _, _, _, _, _⟩) (v := ?_) rfl (by kernel_rfl) (by kernel_rfl) (by kernel_rfl) (by decide) (fun _ _ _ h => h) (by rfl) ?_ (HM2.out.st hj8) ?_
                rotate_left
                · intro w; go_simp; try (with_reducible rfl)
                try simp only [Act.put, List.setIfInBounds_toArray, List.set_cons_zero, List.set_cons_succ]
                refine AnyT.all (rs := [10]) (by kernel_rfl) (by simp) (List.forall_mem_cons.2 ⟨?_, fun _ h => by cases h⟩)
                refine AnyT.step (o := ⟨some 67, _, _, _, _, _⟩) (b := false) rfl rfl (fun K hK => ?_)
                go_simp
                have HM3 := Lib.hid (HM2.out.alloc (.cells #[.int .i64 1, .bool false, .bool false, .slice none 0 0, .int .i64 0, .string ⟨#[]⟩, .slice none 0 0, .slice none 0 0] 30))
                have HOK3 := Lib.hid (HOK2.out.alloc (.cells #[.int .i64 1, .bool false, .bool false, .slice none 0 0, .int .i64 0, .string ⟨#[]⟩, .slice none 0 0, .slice none 0 0] 30))
                have HOV3 := Lib.hid (HOV2.out.alloc (.cells #[.int .i64 1, .bool false, .bool false, .slice none 0 0, .int .i64 0, .string ⟨#[]⟩, .slice none 0 0, .slice none 0 0] 30))
                have HSV3 := Lib.hid (heap_new X2 (.cells #[.int .i64 1, .bool false, .bool false, .slice none 0 0, .int .i64 0, .string ⟨#[]⟩, .slice none 0 0, .slice none 0 0] 30))
                generalize X2.alloc (.cells #[.int .i64 1, .bool false, .bool false, .slice none 0 0, .int .i64 0, .string ⟨#[]⟩, .slice none 0 0, .slice none 0 0] 30) = X3 at *
                refine hK.out _ _ (HM3.out.st hj8) ?_
                clear hK K
                try simp only [Act.put, List.setIfInBounds_toArray, List.set_cons_zero, List.set_cons_succ]
                refine AnyT.all (rs := [11]) (by kernel_rfl) (by simp) (List.forall_mem_cons.2 ⟨?_, fun _ h => by cases h⟩)
                refine AnyT.step (o := ⟨some 68, _, _, _, _, _⟩) (b := false) rfl rfl (fun K hK => ?_)
                refine step_append_src rfl (.tmp 65) (.tmp 67) 28 28 rfl (w.heap.size + 3) 30 i30 _ 8 120 Tryz.underlying28 hi30 K30.out.1 K30.out.2.1 K30.out.2.2 rfl (by decide) (.slice AV kl cV) kl _ rfl HOV3.out (.slice (some ⟨X2.heap.size, 0, none⟩) 1 1) 1 nullV rfl (Src.ofSlice _ Tryz.underlying28 ⟨X2.heap.size, 0, none⟩ 1 1 _ rfl (null_news HSV3.out) null_one) (by unfold maxLen; omega) (by omega) (by have := lt_heap HM3.out.b; omega) ?_
                intro AV2 cV2 X4 hO hg
                have HM4 := Lib.hid (HM3.out.grown hg (fun k hk => (HOV3.out.lt k hk).1))
                have HOV4 := Lib.hid hO
                have HOK4 := Lib.hid (HOK3.out.kept hg (own_type_ne HOK3.out HOV3.out (by decide)))
                clear hO hg
                refine hK.out _ _ (HM4.out.st hj8) ?_
                clear hK K
                try simp only [Act.put, List.setIfInBounds_toArray, List.set_cons_zero, List.set_cons_succ]
                obtain ⟨c0', c1', c2', c3', c4', c5', c6', c7'⟩ := cells8' HM4.out.t
                have fT := fun q => froz_heap HM4.out.t q
                refine AnyT.all (rs := [13]) (by kernel_rfl) (by simp) (List.forall_mem_cons.2 ⟨?_, fun _ h => by cases h⟩)
                refine AnyT.step (o := ⟨none, _, _, _, _, _⟩) (b := true) rfl rfl (fun K hK => ?_)
                go_simp
                refine hK.out _ _ (fun h => by cases h) ?_
                clear hK K
                try simp only [Act.put, List.setIfInBounds_toArray, List.set_cons_zero, List.set_cons_succ]
                refine AnyT.take0 (i := 14) (oi := ⟨some 70, _, _, _, _, _⟩) (v := ?_) rfl (by kernel_rfl) (by kernel_rfl) (by kernel_rfl) (by decide) (fun _ _ _ h => h) (by rfl) ?_ (fun h => by cases h) ?_
                rotate_left
                · intro w; go_simp; try (with_reducible rfl)
                try simp only [Act.put, List.setIfInBounds_toArray, List.set_cons_zero, List.set_cons_succ]
                refine AnyT.all (rs := [15]) (by kernel_rfl) (by simp) (List.forall_mem_cons.2 ⟨?_, fun _ h => by cases h⟩)
                refine AnyT.step (o := ⟨none, _, _, _, _, _⟩) (b := true) rfl rfl (fun K hK => ?_)
                go_simp
                refine hK.out _ _ (fun h => by cases h) ?_
                clear hK K
                try simp only [Act.put, List.setIfInBounds_toArray, List.set_cons_zero, List.set_cons_succ]
                refine AnyT.done (by kernel_rfl) ?_ _
                have HM9 := Lib.hid (HM4.out.store (.slice AK2 (kl + 1) cK2) (.slice AV2 (kl + 1) cV2))
                have HOK9 := Lib.hid (ownsRow_setCell_below (ownsRow_setCell_below HOK4.out (a := ⟨w.heap.size, 6, none⟩) (by show w.heap.size < _; omega) (.slice AK2 (kl + 1) cK2)) (a := ⟨w.heap.size, 7, none⟩) (by show w.heap.size < _; omega) (.slice AV2 (kl + 1) cV2))
                have HOV9 := Lib.hid (ownsRow_setCell_below (ownsRow_setCell_below HOV4.out (a := ⟨w.heap.size, 6, none⟩) (by show w.heap.size < _; omega) (.slice AK2 (kl + 1) cK2)) (a := ⟨w.heap.size, 7, none⟩) (by show w.heap.size < _; omega) (.slice AV2 (kl + 1) cV2))
                clear c0' c1' c2' c3' c4' c5' c6' c7' fT
                generalize (X4.setCell ⟨w.heap.size, 6, none⟩ (.slice AK2 (kl + 1) cK2)).setCell ⟨w.heap.size, 7, none⟩ (.slice AV2 (kl + 1) cV2) = X9 at *
                have n0 : (0 : Int) ≤ (n : Int) := by omega
                have n8 : (n : Int) < 8 := by omega
                rcases HFQ.out with rfl | rfl
                · have ej := arr_cell HM9.out.a j hj8
                  have en := arr_cell HM9.out.a n hn
                  rcases Nat.lt_trichotomy (at8 j).size (at8 n).size with q1 | q1 | q1
                  · have hT : lessT 2 n j = true := by simp [lessT, q1]
                    have q2 : ((at8 j).size : Int) < ((at8 n).size : Int) := by omega
                    go_wp2
                    go_quiet (fail)
                    go_wp2
                    go_roundg (8 - (j + 1))
                    case measure => have := HK2.out; omega
                    case rel =>
                      have hkS := kS_yes hb n j HYES.out
                      have hl : (kS hb n (j + 1)).length = kl + 1 := by rw [hkS, List.length_append, HKL.out]; rfl
                      refine ⟨j + 1, AK2, cK2, AV2, cV2, by omega, rfl, by simp, ?_, ?_, ?_, ?_⟩
                      · rw [less_yes _ hb n j HYES.out, if_pos hT, HLE.out]; simp
                      · rw [hl]; exact HM9.out.drewN nq
                      · rw [hl, hkS, List.map_append]; exact HOK9.out
                      · rw [hl, rep_succ]; exact HOV9.out
                  · have q3 : ¬ (at8 j).size < (at8 n).size := by omega
                    by_cases q4 : j < n
                    · have hT : lessT 2 n j = true := by simp [lessT, q1, q4]
                      have q5 : (j : Int) < (n : Int) := by omega
                      go_wp2
                      go_quiet (fail)
                      go_wp2
                      go_roundg (8 - (j + 1))
                      case measure => have := HK2.out; omega
                      case rel =>
                        have hkS := kS_yes hb n j HYES.out
                        have hl : (kS hb n (j + 1)).length = kl + 1 := by rw [hkS, List.length_append, HKL.out]; rfl
                        refine ⟨j + 1, AK2, cK2, AV2, cV2, by omega, rfl, by simp, ?_, ?_, ?_, ?_⟩
                        · rw [less_yes _ hb n j HYES.out, if_pos hT, HLE.out]; simp
                        · rw [hl]; exact HM9.out.drewN nq
                        · rw [hl, hkS, List.map_append]; exact HOK9.out
                        · rw [hl, rep_succ]; exact HOV9.out
                    · have hT : lessT 2 n j = false := by simp [lessT, q1, q4]
                      have q5 : ¬ (j : Int) < (n : Int) := by omega
                      have q6 : decide (j < n) = false := by simpa using q4
                      go_wp2
                      go_quiet (fail)
                      go_wp2
                      go_roundg (8 - (j + 1))
                      case measure => have := HK2.out; omega
                      case rel =>
                        have hkS := kS_yes hb n j HYES.out
                        have hl : (kS hb n (j + 1)).length = kl + 1 := by rw [hkS, List.length_append, HKL.out]; rfl
                        refine ⟨j + 1, AK2, cK2, AV2, cV2, by omega, rfl, by simp, ?_, ?_, ?_, ?_⟩
                        · rw [less_yes _ hb n j HYES.out, if_neg (by rw [hT]; simp), HLE.out]; rfl
                        · rw [hl]; exact HM9.out.drewN nq
                        · rw [hl, hkS, List.map_append]; exact HOK9.out
                        · rw [hl, rep_succ]; exact HOV9.out
                  · have q3 : ¬ (at8 j).size < (at8 n).size := by omega
                    have q4 : ¬ (at8 j).size = (at8 n).size := by omega
                    have q5 : (((at8 j).size : Int) == ((at8 n).size : Int)) = false := beq_eq_false_iff_ne.2 (by omega)
                    have q6 : ((at8 j).size == (at8 n).size) = false := beq_eq_false_iff_ne.2 q4
                    have hT : lessT 2 n j = false := by simp [lessT, q3, q4]
                    go_wp2
                    go_quiet (fail)
                    go_wp2
                    go_roundg (8 - (j + 1))
                    case measure => have := HK2.out; omega
                    case rel =>
                      have hkS := kS_yes hb n j HYES.out
                      have hl : (kS hb n (j + 1)).length = kl + 1 := by rw [hkS, List.length_append, HKL.out]; rfl
                      refine ⟨j + 1, AK2, cK2, AV2, cV2, by omega, rfl, by simp, ?_, ?_, ?_, ?_⟩
                      · rw [less_yes _ hb n j HYES.out, if_neg (by rw [hT]; simp), HLE.out]; rfl
                      · rw [hl]; exact HM9.out.drewN nq
                      · rw [hl, hkS, List.map_append]; exact HOK9.out
                      · rw [hl, rep_succ]; exact HOV9.out
                · by_cases q4 : j < n
                  · have hT : lessT 3 n j = true := by simp [lessT, q4]
                    have q5 : (j : Int) < (n : Int) := by omega
                    go_wp2
                    go_quiet (fail)
                    go_wp2
                    go_roundg (8 - (j + 1))
                    case measure => have := HK2.out; omega
                    case rel =>
                      have hkS := kS_yes hb n j HYES.out
                      have hl : (kS hb n (j + 1)).length = kl + 1 := by rw [hkS, List.length_append, HKL.out]; rfl
                      refine ⟨j + 1, AK2, cK2, AV2, cV2, by omega, rfl, by simp, ?_, ?_, ?_, ?_⟩
                      · rw [less_yes _ hb n j HYES.out, if_pos hT, HLE.out]; simp
                      · rw [hl]; exact HM9.out.drewN nq
                      · rw [hl, hkS, List.map_append]; exact HOK9.out
                      · rw [hl, rep_succ]; exact HOV9.out
                  · have hT : lessT 3 n j = false := by simp [lessT, q4]
                    have q5 : ¬ (j : Int) < (n : Int) := by omega
                    have q6 : decide (j < n) = false := by simpa using q4
                    go_wp2
                    go_quiet (fail)
                    go_wp2
                    go_roundg (8 - (j + 1))
                    case measure => have := HK2.out; omega
                    case rel =>
                      have hkS := kS_yes hb n j HYES.out
                      have hl : (kS hb n (j + 1)).length = kl + 1 := by rw [hkS, List.length_append, HKL.out]; rfl
                      refine ⟨j + 1, AK2, cK2, AV2, cV2, by omega, rfl, by simp, ?_, ?_, ?_, ?_⟩
                      · rw [less_yes _ hb n j HYES.out, if_neg (by rw [hT]; simp), HLE.out]; rfl
                      · rw [hl]; exact HM9.out.drewN nq
                      · rw [hl, hkS, List.map_append]; exact HOK9.out
                      · rw [hl, rep_succ]; exact HOV9.out
              · refine AnyT.step (o := ⟨some 67, _, _, _, _, _⟩) (b := false) rfl rfl (fun K hK => ?_)
                go_simp
                have HM2 := Lib.hid (HM1.out.alloc (.cells #[.int .i64 1, .bool false, .bool false, .slice none 0 0, .int .i64 0, .string ⟨#[]⟩, .slice none 0 0, .slice none 0 0] 30))
                have HOK2 := Lib.hid (HOK1.out.alloc (.cells #[.int .i64 1, .bool false, .bool false, .slice none 0 0, .int .i64 0, .string ⟨#[]⟩, .slice none 0 0, .slice none 0 0] 30))
                have HOV2 := Lib.hid (HOV1.out.alloc (.cells #[.int .i64 1, .bool false, .bool false, .slice none 0 0, .int .i64 0, .string ⟨#[]⟩, .slice none 0 0, .slice none 0 0] 30))
                have HSK2 := Lib.hid ((Below.heap_alloc X1 (.cells #[.int .i64 1, .bool false, .bool false, .slice none 0 0, .int .i64 0, .string ⟨#[]⟩, .slice none 0 0, .slice none 0 0] 30) _ (lt_heap HSK1.out)).trans HSK1.out)
                have HSV2 := Lib.hid (heap_new X1 (.cells #[.int .i64 1, .bool false, .bool false, .slice none 0 0, .int .i64 0, .string ⟨#[]⟩, .slice none 0 0, .slice none 0 0] 30))
                generalize X1.alloc (.cells #[.int .i64 1, .bool false, .bool false, .slice none 0 0, .int .i64 0, .string ⟨#[]⟩, .slice none 0 0, .slice none 0 0] 30) = X2 at *
                refine hK.out _ _ (HM2.out.st hj8) ?_
                clear hK K
                try simp only [Act.put, List.setIfInBounds_toArray, List.set_cons_zero, List.set_cons_succ]
                refine AnyT.all (rs := [6]) (by kernel_rfl) (by simp) (List.forall_mem_cons.2 ⟨?_, fun _ h => by cases h⟩)
                refine AnyT.step (o := ⟨some 63, _, _, _, _, _⟩) (b := false) rfl rfl (fun K hK => ?_)
                refine step_append_src rfl (.tmp 58) (.tmp 62) 27 27 rfl (w.heap.size + 3) 9 i9 (.string ByteArray.empty) 1 16 Tryz.underlying27 hi9 K9.out.1 K9.out.2.1 K9.out.2.2 rfl (by decide) (.slice AK kl cK) kl _ rfl HOK2.out (.slice (some ⟨X0.heap.size, 0, none⟩) 1 1) 1 [.string (at8 j)] rfl (Src.ofSlice _ Tryz.underlying27 ⟨X0.heap.size, 0, none⟩ 1 1 _ rfl (one_news (cells1 HSK2.out)) (one_oneCell rfl)) (by unfold maxLen; omega) (by omega) (by have := lt_heap HM2.out.b; omega) ?_
                intro AK2 cK2 X3 hO hg
                have HM3 := Lib.hid (HM2.out.grown hg (fun k hk => (HOK2.out.lt k hk).1))
                have HOK3 := Lib.hid hO
                have HOV3 := Lib.hid (HOV2.out.kept hg (own_type_ne HOV2.out HOK2.out (by decide)))
                have HSV3 := Lib.hid ((hg.block _ (lt_heap HSV2.out) (own_ty_ne HOK2.out HSV2.out (by decide))).trans HSV2.out)
                clear hO hg
                refine hK.out _ _ (HM3.out.st hj8) ?_
                clear hK K
                try simp only [Act.put, List.setIfInBounds_toArray, List.set_cons_zero, List.set_cons_succ]
                refine AnyT.take0 (i := 12) (oi := ⟨some 69, _, _, _, _, _⟩) (v := ?_) rfl (by kernel_rfl) (by kernel_rfl) (by kernel_rfl) (by decide) (fun _ _ _ h => h) (by rfl) ?_ (HM3.out.st hj8) ?_
                rotate_left
                · intro w; go_simp; try (with_reducible rfl)
                try simp only [Act.put, List.setIfInBounds_toArray, List.set_cons_zero, List.set_cons_succ]
                refine AnyT.all (rs := [11]) (by kernel_rfl) (by simp) (List.forall_mem_cons.2 ⟨?_, fun _ h => by cases h⟩)
                refine AnyT.step (o := ⟨some 68, _, _, _, _, _⟩) (b := false) rfl rfl (fun K hK => ?_)
                refine step_append_src rfl (.tmp 65) (.tmp 67) 28 28 rfl (w.heap.size + 3) 30 i30 _ 8 120 Tryz.underlying28 hi30 K30.out.1 K30.out.2.1 K30.out.2.2 rfl (by decide) (.slice AV kl cV) kl _ rfl HOV3.out (.slice (some ⟨X1.heap.size, 0, none⟩) 1 1) 1 nullV rfl (Src.ofSlice _ Tryz.underlying28 ⟨X1.heap.size, 0, none⟩ 1 1 _ rfl (null_news HSV3.out) null_one) (by unfold maxLen; omega) (by omega) (by have := lt_heap HM3.out.b; omega) ?_
                intro AV2 cV2 X4 hO hg
                have HM4 := Lib.hid (HM3.out.grown hg (fun k hk => (HOV3.out.lt k hk).1))
                have HOV4 := Lib.hid hO
                have HOK4 := Lib.hid (HOK3.out.kept hg (own_type_ne HOK3.out HOV3.out (by decide)))
                clear hO hg
                refine hK.out _ _ (HM4.out.st hj8) ?_
                clear hK K
                try simp only [Act.put, List.setIfInBounds_toArray, List.set_cons_zero, List.set_cons_succ]
                obtain ⟨c0', c1', c2', c3', c4', c5', c6', c7'⟩ := cells8' HM4.out.t
                have fT := fun q => froz_heap HM4.out.t q
                refine AnyT.all (rs := [13]) (by kernel_rfl) (by simp) (List.forall_mem_cons.2 ⟨?_, fun _ h => by cases h⟩)
                refine AnyT.step (o := ⟨none, _, _, _, _, _⟩) (b := true) rfl rfl (fun K hK => ?_)
                go_simp
                refine hK.out _ _ (fun h => by cases h) ?_
                clear hK K
                try simp only [Act.put, List.setIfInBounds_toArray, List.set_cons_zero, List.set_cons_succ]
                refine AnyT.take0 (i := 14) (oi := ⟨some 70, _, _, _, _, _⟩) (v := ?_) rfl (by kernel_rfl) (by kernel_rfl) (by kernel_rfl) (by decide) (fun _ _ _ h => h) (by rfl) ?_ (fun h => by cases h) ?_
                rotate_left
                · intro w; go_simp; try (with_reducible rfl)
                try simp only [Act.put, List.setIfInBounds_toArray, List.set_cons_zero, List.set_cons_succ]
                refine AnyT.all (rs := [15]) (by kernel_rfl) (by simp) (List.forall_mem_cons.2 ⟨?_, fun _ h => by cases h⟩)
                refine AnyT.step (o := ⟨none, _, _, _, _, _⟩) (b := true) rfl rfl (fun K hK => ?_)
                go_simp
                refine hK.out _ _ (fun h => by cases h) ?_
                clear hK K
                try simp only [Act.put, List.setIfInBounds_toArray, List.set_cons_zero, List.set_cons_succ]
                refine AnyT.done (by kernel_rfl) ?_ _
                have HM9 := Lib.hid (HM4.out.store (.slice AK2 (kl + 1) cK2) (.slice AV2 (kl + 1) cV2))
                have HOK9 := Lib.hid (ownsRow_setCell_below (ownsRow_setCell_below HOK4.out (a := ⟨w.heap.size, 6, none⟩) (by show w.heap.size < _; omega) (.slice AK2 (kl + 1) cK2)) (a := ⟨w.heap.size, 7, none⟩) (by show w.heap.size < _; omega) (.slice AV2 (kl + 1) cV2))
                have HOV9 := Lib.hid (ownsRow_setCell_below (ownsRow_setCell_below HOV4.out (a := ⟨w.heap.size, 6, none⟩) (by show w.heap.size < _; omega) (.slice AK2 (kl + 1) cK2)) (a := ⟨w.heap.size, 7, none⟩) (by show w.heap.size < _; omega) (.slice AV2 (kl + 1) cV2))
                clear c0' c1' c2' c3' c4' c5' c6' c7' fT
                generalize (X4.setCell ⟨w.heap.size, 6, none⟩ (.slice AK2 (kl + 1) cK2)).setCell ⟨w.heap.size, 7, none⟩ (.slice AV2 (kl + 1) cV2) = X9 at *
                have n0 : (0 : Int) ≤ (n : Int) := by omega
                have n8 : (n : Int) < 8 := by omega
                rcases HFQ.out with rfl | rfl
                · have ej := arr_cell HM9.out.a j hj8
                  have en := arr_cell HM9.out.a n hn
                  rcases Nat.lt_trichotomy (at8 j).size (at8 n).size with q1 | q1 | q1
                  · have hT : lessT 2 n j = true := by simp [lessT, q1]
                    have q2 : ((at8 j).size : Int) < ((at8 n).size : Int) := by omega
                    go_wp2
                    go_quiet (fail)
                    go_wp2
                    go_roundg (8 - (j + 1))
                    case measure => have := HK2.out; omega
                    case rel =>
                      have hkS := kS_yes hb n j HYES.out
                      have hl : (kS hb n (j + 1)).length = kl + 1 := by rw [hkS, List.length_append, HKL.out]; rfl
                      refine ⟨j + 1, AK2, cK2, AV2, cV2, by omega, rfl, by simp, ?_, ?_, ?_, ?_⟩
                      · rw [less_yes _ hb n j HYES.out, if_pos hT, HLE.out]; simp
                      · rw [hl]; exact HM9.out.drewN nq
                      · rw [hl, hkS, List.map_append]; exact HOK9.out
                      · rw [hl, rep_succ]; exact HOV9.out
                  · have q3 : ¬ (at8 j).size < (at8 n).size := by omega
                    by_cases q4 : j < n
                    · have hT : lessT 2 n j = true := by simp [lessT, q1, q4]
                      have q5 : (j : Int) < (n : Int) := by omega
                      go_wp2
                      go_quiet (fail)
                      go_wp2
                      go_roundg (8 - (j + 1))
                      case measure => have := HK2.out; omega
                      case rel =>
                        have hkS := kS_yes hb n j HYES.out
                        have hl : (kS hb n (j + 1)).length = kl + 1 := by rw [hkS, List.length_append, HKL.out]; rfl
                        refine ⟨j + 1, AK2, cK2, AV2, cV2, by omega, rfl, by simp, ?_, ?_, ?_, ?_⟩
                        · rw [less_yes _ hb n j HYES.out, if_pos hT, HLE.out]; simp
                        · rw [hl]; exact HM9.out.drewN nq
                        · rw [hl, hkS, List.map_append]; exact HOK9.out
                        · rw [hl, rep_succ]; exact HOV9.out
                    · have hT : lessT 2 n j = false := by simp [lessT, q1, q4]
                      have q5 : ¬ (j : Int) < (n : Int) := by omega
                      have q6 : decide (j < n) = false := by simpa using q4
                      go_wp2
                      go_quiet (fail)
                      go_wp2
                      go_roundg (8 - (j + 1))
                      case measure => have := HK2.out; omega
                      case rel =>
                        have hkS := kS_yes hb n j HYES.out
                        have hl : (kS hb n (j + 1)).length = kl + 1 := by rw [hkS, List.length_append, HKL.out]; rfl
                        refine ⟨j + 1, AK2, cK2, AV2, cV2, by omega, rfl, by simp, ?_, ?_, ?_, ?_⟩
                        · rw [less_yes _ hb n j HYES.out, if_neg (by rw [hT]; simp), HLE.out]; rfl
                        · rw [hl]; exact HM9.out.drewN nq
                        · rw [hl, hkS, List.map_append]; exact HOK9.out
                        · rw [hl, rep_succ]; exact HOV9.out
                  · have q3 : ¬ (at8 j).size < (at8 n).size := by omega
                    have q4 : ¬ (at8 j).size = (at8 n).size := by omega
                    have q5 : (((at8 j).size : Int) == ((at8 n).size : Int)) = false := beq_eq_false_iff_ne.2 (by omega)
                    have q6 : ((at8 j).size == (at8 n).size) = false := beq_eq_false_iff_ne.2 q4
                    have hT : lessT 2 n j = false := by simp [lessT, q3, q4]
                    go_wp2
                    go_quiet (fail)
                    go_wp2
                    go_roundg (8 - (j + 1))
                    case measure => have := HK2.out; omega
                    case rel =>
                      have hkS := kS_yes hb n j HYES.out
                      have hl : (kS hb n (j + 1)).length = kl + 1 := by rw [hkS, List.length_append, HKL.out]; rfl
                      refine ⟨j + 1, AK2, cK2, AV2, cV2, by omega, rfl, by simp, ?_, ?_, ?_, ?_⟩
                      · rw [less_yes _ hb n j HYES.out, if_neg (by rw [hT]; simp), HLE.out]; rfl
                      · rw [hl]; exact HM9.out.drewN nq
                      · rw [hl, hkS, List.map_append]; exact HOK9.out
                      · rw [hl, rep_succ]; exact HOV9.out
                · by_cases q4 : j < n
                  · have hT : lessT 3 n j = true := by simp [lessT, q4]
                    have q5 : (j : Int) < (n : Int) := by omega
                    go_wp2
                    go_quiet (fail)
                    go_wp2
                    go_roundg (8 - (j + 1))
                    case measure => have := HK2.out; omega
                    case rel =>
                      have hkS := kS_yes hb n j HYES.out
                      have hl : (kS hb n (j + 1)).length = kl + 1 := by rw [hkS, List.length_append, HKL.out]; rfl
                      refine ⟨j + 1, AK2, cK2, AV2, cV2, by omega, rfl, by simp, ?_, ?_, ?_, ?_⟩
                      · rw [less_yes _ hb n j HYES.out, if_pos hT, HLE.out]; simp
                      · rw [hl]; exact HM9.out.drewN nq
                      · rw [hl, hkS, List.map_append]; exact HOK9.out
                      · rw [hl, rep_succ]; exact HOV9.out
                  · have hT : lessT 3 n j = false := by simp [lessT, q4]
                    have q5 : ¬ (j : Int) < (n : Int) := by omega
                    have q6 : decide (j < n) = false := by simpa using q4
                    go_wp2
                    go_quiet (fail)
                    go_wp2
                    go_roundg (8 - (j + 1))
                    case measure => have := HK2.out; omega
                    case rel =>
                      have hkS := kS_yes hb n j HYES.out
                      have hl : (kS hb n (j + 1)).length = kl + 1 := by rw [hkS, List.length_append, HKL.out]; rfl
                      refine ⟨j + 1, AK2, cK2, AV2, cV2, by omega, rfl, by simp, ?_, ?_, ?_, ?_⟩
                      · rw [less_yes _ hb n j HYES.out, if_neg (by rw [hT]; simp), HLE.out]; rfl
                      · rw [hl]; exact HM9.out.drewN nq
                      · rw [hl, hkS, List.map_append]; exact HOK9.out
                      · rw [hl, rep_succ]; exact HOV9.out
            · refine AnyT.step (o := ⟨some 67, _, _, _, _, _⟩) (b := false) rfl rfl (fun K hK => ?_)
              go_simp
              have HM1 := Lib.hid (HM0.out.alloc (.cells #[.int .i64 1, .bool false, .bool false, .slice none 0 0, .int .i64 0, .string ⟨#[]⟩, .slice none 0 0, .slice none 0 0] 30))
              have HOK1 := Lib.hid (HOK0.out.alloc (.cells #[.int .i64 1, .bool false, .bool false, .slice none 0 0, .int .i64 0, .string ⟨#[]⟩, .slice none 0 0, .slice none 0 0] 30))
              have HOV1 := Lib.hid (HOV0.out.alloc (.cells #[.int .i64 1, .bool false, .bool false, .slice none 0 0, .int .i64 0, .string ⟨#[]⟩, .slice none 0 0, .slice none 0 0] 30))
              have HSV1 := Lib.hid (heap_new X0 (.cells #[.int .i64 1, .bool false, .bool false, .slice none 0 0, .int .i64 0, .string ⟨#[]⟩, .slice none 0 0, .slice none 0 0] 30))
              generalize X0.alloc (.cells #[.int .i64 1, .bool false, .bool false, .slice none 0 0, .int .i64 0, .string ⟨#[]⟩, .slice none 0 0, .slice none 0 0] 30) = X1 at *
              refine hK.out _ _ (HM1.out.st hj8) ?_
              clear hK K
              try simp only [Act.put, List.setIfInBounds_toArray, List.set_cons_zero, List.set_cons_succ]
              refine AnyT.all (rs := [5]) (by kernel_rfl) (by simp) (List.forall_mem_cons.2 ⟨?_, fun _ h => by cases h⟩)
              refine AnyT.step (o := ⟨some 62, _, _, _, _, _⟩) (b := false) rfl rfl (fun K hK => ?_)
              go_simp
              have HM2 := Lib.hid (HM1.out.alloc (.cells #[.string (at8 j)] 9))
              have HOK2 := Lib.hid (HOK1.out.alloc (.cells #[.string (at8 j)] 9))
              have HOV2 := Lib.hid (HOV1.out.alloc (.cells #[.string (at8 j)] 9))
              have HSV2 := Lib.hid ((Below.heap_alloc X1 (.cells #[.string (at8 j)] 9) _ (lt_heap HSV1.out)).trans HSV1.out)
              have HSK2 := Lib.hid (heap_new X1 (.cells #[.string (at8 j)] 9))
              generalize X1.alloc (.cells #[.string (at8 j)] 9) = X2 at *
              refine hK.out _ _ (HM2.out.st hj8) ?_
              clear hK K
              try simp only [Act.put, List.setIfInBounds_toArray, List.set_cons_zero, List.set_cons_succ]
              refine AnyT.all (rs := [6]) (by kernel_rfl) (by simp) (List.forall_mem_cons.2 ⟨?_, fun _ h => by cases h⟩)
              refine AnyT.step (o := ⟨some 63, _, _, _, _, _⟩) (b := false) rfl rfl (fun K hK => ?_)
              refine step_append_src rfl (.tmp 58) (.tmp 62) 27 27 rfl (w.heap.size + 3) 9 i9 (.string ByteArray.empty) 1 16 Tryz.underlying27 hi9 K9.out.1 K9.out.2.1 K9.out.2.2 rfl (by decide) (.slice AK kl cK) kl _ rfl HOK2.out (.slice (some ⟨X1.heap.size, 0, none⟩) 1 1) 1 [.string (at8 j)] rfl (Src.ofSlice _ Tryz.underlying27 ⟨X1.heap.size, 0, none⟩ 1 1 _ rfl (one_news (cells1 HSK2.out)) (one_oneCell rfl)) (by unfold maxLen; omega) (by omega) (by have := lt_heap HM2.out.b; omega) ?_
              intro AK2 cK2 X3 hO hg
              have HM3 := Lib.hid (HM2.out.grown hg (fun k hk => (HOK2.out.lt k hk).1))
              have HOK3 := Lib.hid hO
              have HOV3 := Lib.hid (HOV2.out.kept hg (own_type_ne HOV2.out HOK2.out (by decide)))
              have HSV3 := Lib.hid ((hg.block _ (lt_heap HSV2.out) (own_ty_ne HOK2.out HSV2.out (by decide))).trans HSV2.out)
              clear hO hg
              refine hK.out _ _ (HM3.out.st hj8) ?_
              clear hK K
              try simp only [Act.put, List.setIfInBounds_toArray, List.set_cons_zero, List.set_cons_succ]
              refine AnyT.take0 (i := 12) (oi := ⟨some 69, _, _, _, _, _⟩) (v := ?_) rfl (by kernel_rfl) (by kernel_rfl) (by kernel_rfl) (by decide) (fun _ _ _ h => h) (by rfl) ?_ (HM3.out.st hj8) ?_
              rotate_left
              · intro w; go_simp; try (with_reducible rfl)
              try simp only [Act.put, List.setIfInBounds_toArray, List.set_cons_zero, List.set_cons_succ]
              refine AnyT.all (rs := [11]) (by kernel_rfl) (by simp) (List.forall_mem_cons.2 ⟨?_, fun _ h => by cases h⟩)
              refine AnyT.step (o := ⟨some 68, _, _, _, _, _⟩) (b := false) rfl rfl (fun K hK => ?_)
              refine step_append_src rfl (.tmp 65) (.tmp 67) 28 28 rfl (w.heap.size + 3) 30 i30 _ 8 120 Tryz.underlying28 hi30 K30.out.1 K30.out.2.1 K30.out.2.2 rfl (by decide) (.slice AV kl cV) kl _ rfl HOV3.out (.slice (some ⟨X0.heap.size, 0, none⟩) 1 1) 1 nullV rfl (Src.ofSlice _ Tryz.underlying28 ⟨X0.heap.size, 0, none⟩ 1 1 _ rfl (null_news HSV3.out) null_one) (by unfold maxLen; omega) (by omega) (by have := lt_heap HM3.out.b; omega) ?_
              intro AV2 cV2 X4 hO hg
              have HM4 := Lib.hid (HM3.out.grown hg (fun k hk => (HOV3.out.lt k hk).1))
              have HOV4 := Lib.hid hO
              have HOK4 := Lib.hid (HOK3.out.kept hg (own_type_ne HOK3.out HOV3.out (by decide)))
              clear hO hg
              refine hK.out _ _ (HM4.out.st hj8) ?_
              clear hK K
              try simp only [Act.put, List.setIfInBounds_toArray, List.set_cons_zero, List.set_cons_succ]
              obtain ⟨c0', c1', c2', c3', c4', c5', c6', c7'⟩ := cells8' HM4.out.t
              have fT := fun q => froz_heap HM4.out.t q
              refine AnyT.all (rs := [13]) (by kernel_rfl) (by simp) (List.forall_mem_cons.2 ⟨?_, fun _ h => by cases h⟩)
              refine AnyT.step (o := ⟨none, _, _, _, _, _⟩) (b := true) rfl rfl (fun K hK => ?_)
              go_simp
              refine hK.out _ _ (fun h => by cases h) ?_
              clear hK K
              try simp only [Act.put, List.setIfInBounds_toArray, List.set_cons_zero, List.set_cons_succ]
              refine AnyT.take0 (i := 14) (oi := ⟨some 70, _, _, _, _, _⟩) (v := ?_) rfl (by kernel_rfl) (by kernel_rfl) (by kernel_rfl) (by decide) (fun _ _ _ h => h) (by rfl) ?_ (fun h => by cases h) ?_
              rotate_left
              · intro w; go_simp; try (with_reducible rfl)
              try simp only [Act.put, List.setIfInBounds_toArray, List.set_cons_zero, List.set_cons_succ]
              refine AnyT.all (rs := [15]) (by kernel_rfl) (by simp) (List.forall_mem_cons.2 ⟨?_, fun _ h => by cases h⟩)
              refine AnyT.step (o := ⟨none, _, _, _, _, _⟩) (b := true) rfl rfl (fun K hK => ?_)
              go_simp
              refine hK.out _ _ (fun h => by cases h) ?_
              clear hK K
              try simp only [Act.put, List.setIfInBounds_toArray, List.set_cons_zero, List.set_cons_succ]
              refine AnyT.done (by kernel_rfl) ?_ _
              have HM9 := Lib.hid (HM4.out.store (.slice AK2 (kl + 1) cK2) (.slice AV2 (kl + 1) cV2))
              have HOK9 := Lib.hid (ownsRow_setCell_below (ownsRow_setCell_below HOK4.out (a := ⟨w.heap.size, 6, none⟩) (by show w.heap.size < _; omega) (.slice AK2 (kl + 1) cK2)) (a := ⟨w.heap.size, 7, none⟩) (by show w.heap.size < _; omega) (.slice AV2 (kl + 1) cV2))
              have HOV9 := Lib.hid (ownsRow_setCell_below (ownsRow_setCell_below HOV4.out (a := ⟨w.heap.size, 6, none⟩) (by show w.heap.size < _; omega) (.slice AK2 (kl + 1) cK2)) (a := ⟨w.heap.size, 7, none⟩) (by show w.heap.size < _; omega) (.slice AV2 (kl + 1) cV2))
              clear c0' c1' c2' c3' c4' c5' c6' c7' fT
              generalize (X4.setCell ⟨w.heap.size, 6, none⟩ (.slice AK2 (kl + 1) cK2)).setCell ⟨w.heap.size, 7, none⟩ (.slice AV2 (kl + 1) cV2) = X9 at *
              have n0 : (0 : Int) ≤ (n : Int) := by omega
              have n8 : (n : Int) < 8 := by omega
              rcases HFQ.out with rfl | rfl
              · have ej := arr_cell HM9.out.a j hj8
                have en := arr_cell HM9.out.a n hn
                rcases Nat.lt_trichotomy (at8 j).size (at8 n).size with q1 | q1 | q1
                · have hT : lessT 2 n j = true := by simp [lessT, q1]
                  have q2 : ((at8 j).size : Int) < ((at8 n).size : Int) := by omega
                  go_wp2
                  go_quiet (fail)
                  go_wp2
                  go_roundg (8 - (j + 1))
                  case measure => have := HK2.out; omega
                  case rel =>
                    have hkS := kS_yes hb n j HYES.out
                    have hl : (kS hb n (j + 1)).length = kl + 1 := by rw [hkS, List.length_append, HKL.out]; rfl
                    refine ⟨j + 1, AK2, cK2, AV2, cV2, by omega, rfl, by simp, ?_, ?_, ?_, ?_⟩
                    · rw [less_yes _ hb n j HYES.out, if_pos hT, HLE.out]; simp
                    · rw [hl]; exact HM9.out.drewN nq
                    · rw [hl, hkS, List.map_append]; exact HOK9.out
                    · rw [hl, rep_succ]; exact HOV9.out
                · have q3 : ¬ (at8 j).size < (at8 n).size := by omega
                  by_cases q4 : j < n
                  · have hT : lessT 2 n j = true := by simp [lessT, q1, q4]
                    have q5 : (j : Int) < (n : Int) := by omega
                    go_wp2
                    go_quiet (fail)
                    go_wp2
                    go_roundg (8 - (j + 1))
                    case measure => have := HK2.out; omega
                    case rel =>
                      have hkS := kS_yes hb n j HYES.out
                      have hl : (kS hb n (j + 1)).length = kl + 1 := by rw [hkS, List.length_append, HKL.out]; rfl
                      refine ⟨j + 1, AK2, cK2, AV2, cV2, by omega, rfl, by simp, ?_, ?_, ?_, ?_⟩
                      · rw [less_yes _ hb n j HYES.out, if_pos hT, HLE.out]; simp
                      · rw [hl]; exact HM9.out.drewN nq
                      · rw [hl, hkS, List.map_append]; exact HOK9.out
                      · rw [hl, rep_succ]; exact HOV9.out
                  · have hT : lessT 2 n j = false := by simp [lessT, q1, q4]
                    have q5 : ¬ (j : Int) < (n : Int) := by omega
                    have q6 : decide (j < n) = false := by simpa using q4
                    go_wp2
                    go_quiet (fail)
                    go_wp2
                    go_roundg (8 - (j + 1))
                    case measure => have := HK2.out; omega
                    case rel =>
                      have hkS := kS_yes hb n j HYES.out
                      have hl : (kS hb n (j + 1)).length = kl + 1 := by rw [hkS, List.length_append, HKL.out]; rfl
                      refine ⟨j + 1, AK2, cK2, AV2, cV2, by omega, rfl, by simp, ?_, ?_, ?_, ?_⟩
                      · rw [less_yes _ hb n j HYES.out, if_neg (by rw [hT]; simp), HLE.out]; rfl
                      · rw [hl]; exact HM9.out.drewN nq
                      · rw [hl, hkS, List.map_append]; exact HOK9.out
                      · rw [hl, rep_succ]; exact HOV9.out
                · have q3 : ¬ (at8 j).size < (at8 n).size := by omega
                  have q4 : ¬ (at8 j).size = (at8 n).size := by omega
                  have q5 : (((at8 j).size : Int) == ((at8 n).size : Int)) = false := beq_eq_false_iff_ne.2 (by omega)
                  have q6 : ((at8 j).size == (at8 n).size) = false := beq_eq_false_iff_ne.2 q4
                  have hT : lessT 2 n j = false := by simp [lessT, q3, q4]
                  go_wp2
                  go_quiet (fail)
                  go_wp2
                  go_roundg (8 - (j + 1))
                  case measure => have := HK2.out; omega
                  case rel =>
                    have hkS := kS_yes hb n j HYES.out
                    have hl : (kS hb n (j + 1)).length = kl + 1 := by rw [hkS, List.length_append, HKL.out]; rfl
                    refine ⟨j + 1, AK2, cK2, AV2, cV2, by omega, rfl, by simp, ?_, ?_, ?_, ?_⟩
                    · rw [less_yes _ hb n j HYES.out, if_neg (by rw [hT]; simp), HLE.out]; rfl
                    · rw [hl]; exact HM9.out.drewN nq
                    · rw [hl, hkS, List.map_append]; exact HOK9.out
                    · rw [hl, rep_succ]; exact HOV9.out
              · by_cases q4 : j < n
                · have hT : lessT 3 n j = true := by simp [lessT, q4]
                  have q5 : (j : Int) < (n : Int) := by omega
                  go_wp2
                  go_quiet (fail)
                  go_wp2
                  go_roundg (8 - (j + 1))
                  case measure => have := HK2.out; omega
                  case rel =>
                    have hkS := kS_yes hb n j HYES.out
                    have hl : (kS hb n (j + 1)).length = kl + 1 := by rw [hkS, List.length_append, HKL.out]; rfl
                    refine ⟨j + 1, AK2, cK2, AV2, cV2, by omega, rfl, by simp, ?_, ?_, ?_, ?_⟩
                    · rw [less_yes _ hb n j HYES.out, if_pos hT, HLE.out]; simp
                    · rw [hl]; exact HM9.out.drewN nq
                    · rw [hl, hkS, List.map_append]; exact HOK9.out
                    · rw [hl, rep_succ]; exact HOV9.out
                · have hT : lessT 3 n j = false := by simp [lessT, q4]
                  have q5 : ¬ (j : Int) < (n : Int) := by omega
                  have q6 : decide (j < n) = false := by simpa using q4
                  go_wp2
                  go_quiet (fail)
                  go_wp2
                  go_roundg (8 - (j + 1))
                  case measure => have := HK2.out; omega
                  case rel =>
                    have hkS := kS_yes hb n j HYES.out
                    have hl : (kS hb n (j + 1)).length = kl + 1 := by rw [hkS, List.length_append, HKL.out]; rfl
                    refine ⟨j + 1, AK2, cK2, AV2, cV2, by omega, rfl, by simp, ?_, ?_, ?_, ?_⟩
                    · rw [less_yes _ hb n j HYES.out, if_neg (by rw [hT]; simp), HLE.out]; rfl
                    · rw [hl]; exact HM9.out.drewN nq
                    · rw [hl, hkS, List.map_append]; exact HOK9.out
                    · rw [hl, rep_succ]; exact HOV9.out
          · have hno : (hb.getD j false && j != n) = false := by simpa using hyes
            clear hyes
            have HM := Lib.hid hM; have HOK := Lib.hid hK; have HOV := Lib.hid hV
            have HNO := Lib.hid hno
            clear hM hK hV
            obtain ⟨le, hle⟩ : ∃ le, lessN f hb n j = le := ⟨_, rfl⟩
            rw [hle]
            have HLE := Lib.hid hle; clear hle
            have j0 : (0 : Int) ≤ (j : Int) := by omega
            have j8 : (j : Int) < 8 := by omega
            have hway : hb.getD j false = false ∨ (hb.getD j false = true ∧ j = n) := by
              cases h : hb.getD j false with
              | false => exact .inl rfl
              | true => rw [h] at hno; exact .inr ⟨rfl, by simpa using hno⟩
            clear hno
            rcases hway with hw0 | ⟨hw0, hw1⟩
            · rw [hw0] at c1
              clear hw0
              go_wp2
              go_roundg (8 - (j + 1))
              case measure => have := HK2.out; omega
              case rel =>
                refine ⟨j + 1, AK, cK, AV, cV, by omega, rfl, by simp, ?_, ?_, ?_, ?_⟩
                · rw [less_no f hb n j HNO.out, HLE.out]
                · rw [kS_no hb n j HNO.out]; exact HM.out
                · rw [kS_no hb n j HNO.out]; exact HOK.out
                · rw [kS_no hb n j HNO.out]; exact HOV.out
            · rw [hw0] at c1
              clear hw0
              subst hw1
              go_wp2
              go_roundg (8 - (j + 1))
              case measure => have := HK2.out; omega
              case rel =>
                refine ⟨j + 1, AK, cK, AV, cV, by omega, rfl, by simp, ?_, ?_, ?_, ?_⟩
                · rw [less_no f hb j j HNO.out, HLE.out]
                · rw [kS_no hb j j HNO.out]; exact HM.out
                · rw [kS_no hb j j HNO.out]; exact HOK.out
                · rw [kS_no hb j j HNO.out]; exact HOV.out
        · obtain rfl : j = 8 := by omega
          clear HK2
          have hm8 : (kS hb n 8).length ≤ 8 := by have := kept_len hb n 8; simpa [kS] using this
          have hGood := kW_good f HFQ.out hb hbl n hn
          have hlele := hGood.le_
          rw [kW_len] at hlele
          have HSR := Lib.hid (SR.of_own hK (own_cap hK) (by omega))
          have HNV := Lib.hid (NV.of_own hV)
          have HM := Lib.hid hM
          have hE : Calls Tryz.prog 9 #[.int .i64 f, tre 7 (.slice AK (kS hb n 8).length cK) (.slice AV (kS hb n 8).length cV)] wr2 fun e w' => e = .returned (.tuple #[.string ⟨(encL f (kW f hb n)).toArray⟩, .int .i64 0]) ∧ G wr2.heap.size none wr2 w' := by
            refine encode_ok f _ _ _ wr2 (encL_len hGood.asc).2 ?_
            rcases HFQ.out with rfl | rfl
            · refine .inl ⟨rfl, fun W g => ?_⟩
              rw [encL_two]
              exact enc_cbor AK AV _ cK cV (kS hb n 8) W (HSR.out.g g rfl) (HNV.out.g g) (by omega) (kS_inc 2 (.inl rfl) hb hbl n hn)
            · refine .inr ⟨rfl, fun W g => ?_⟩
              rw [encL_three]
              exact enc_pack AK AV _ cK cV (kS hb n 8) W (HSR.out.g g rfl) (HNV.out.g g) (by omega) (kS_inc 3 (.inr rfl) hb hbl n hn)
          have hsz : (⟨(encL f (kW f hb n)).toArray⟩ : ByteArray).size = (encL f (kW f hb n)).length := by simp [ByteArray.size]
          have hSL := fun PB po c w => hGood.slot PB po c w
          have hFI := fun PB po c w => hGood.find PB po c w
          have hSK := fun i hi w => hGood.skip i hi w
          have hQN := @QN f (kW f hb n) (lessN f hb n 8)
          obtain ⟨sB, hsB⟩ : ∃ sB : ByteArray, ⟨(encL f (kW f hb n)).toArray⟩ = sB := ⟨_, rfl⟩
          rw [hsB] at hE hsz
          simp only [hsB] at hSL hFI hSK
          have HE := Lib.hid hE; have HSL := Lib.hid hSL; have HFI := Lib.hid hFI; have HSK := Lib.hid hSK
          have HSZ := Lib.hid hsz
          have HKWL := Lib.hid (kW_len f hb n)
          have hsmall := encL_len (f := f) hGood.asc
          rw [kW_len] at hsmall
          have hpl : ∀ i, psf 1 (kW f hb n) i ≤ 1000000 := fun i => by have h1 := psf_le (kW f hb n) 1 (fun k hk => (hGood.asc k hk).1) i; rw [kW_len] at h1; omega
          clear hE hSL hFI hSK hsz hsB hGood hK hV hM hQN
          generalize kW f hb n = kw at *
          obtain ⟨mm, hmm⟩ : ∃ mm, (kS hb n 8).length = mm := ⟨_, rfl⟩
          rw [hmm] at HE HSR HNV HM hm8 hlele HKWL hsmall
          obtain ⟨le, hle⟩ : ∃ le, lessN f hb n 8 = le := ⟨_, rfl⟩
          rw [hle] at hlele HSL ⊢
          clear hle hmm
          obtain ⟨c0, c1, c2, c3, c4, c5, c6, c7⟩ := cells8' HM.out.t
          go_wp2_with fail
          refine HE.out.mono ?_
          rintro e w3 ⟨rfl, hg3⟩
          have HM3 := Lib.hid (HM.out.g' hg3)
          clear hg3 c0 c1 c2 c3 c4 c5 c6 c7 HM HE HSR HNV
          have en := arr_cell HM3.out.a n hn
          have n0 : (0 : Int) ≤ (n : Int) := by omega
          have n8 : (n : Int) < 8 := by omega
          have hA4 := heap_new w3 (.cells #[.string (at8 n)] 9)
          have HM4 := Lib.hid (HM3.out.alloc (.cells #[.string (at8 n)] 9))
          have HS4 := Lib.hid (HSL.out w3.heap.size 0 1 (w3.alloc (.cells #[.string (at8 n)] 9)) (by simp) (cells1 hA4) ⟨Nat.le_refl _, by omega⟩)
          go_wp2_with fail
          refine HS4.out.mono ?_
          rintro e w5 ⟨hg5, k, a, z, h, b, s, mq, i, xx, rfl, rfl, x', hq⟩
          obtain ⟨_, rfl, rfl, rfl, rfl, rfl, rfl, rfl, rfl⟩ := hq
          rw [HKWL.out, ← HSZ.out]
          have HM5 := Lib.hid (HM4.out.g' hg5)
          obtain ⟨pe, hpe⟩ : ∃ pe, psf 1 kw (2 * le) = pe := ⟨_, rfl⟩
          rw [hpe]
          have hpe6 : pe ≤ 1000000 := by rw [← hpe]; exact hpl _
          have HPE := Lib.hid hpe
          obtain ⟨sz, hsz⟩ : ∃ sz, sB.size = sz := ⟨_, rfl⟩
          have hsz6 : sz ≤ 1000000 := by rw [← hsz, HSZ.out]; omega
          rw [hsz]
          have HSB := Lib.hid hsz
          have hP6 := heap_new w5 (.cells #[.int .i64 (pe : Nat), .int .i64 (pe : Nat), .int .i64 (pe : Nat), .int .i64 0, .int .i64 1, .int .i64 (sz : Nat), .int .i64 (mm : Nat), .bool false, .int .i64 (le : Nat)] 38)
          have hg6 := (G.refl w5.heap.size none w5).alloc (.cells #[.int .i64 (pe : Nat), .int .i64 (pe : Nat), .int .i64 (pe : Nat), .int .i64 0, .int .i64 1, .int .i64 (sz : Nat), .int .i64 (mm : Nat), .bool false, .int .i64 (le : Nat)] 38) (Nat.le_refl _)
          clear hA4 en hg5 hpe hsz HM3 HM4
          have en5 := arr_cell (HM5.out.g' hg6).a n hn
          have en5' := arr_cell HM5.out.a n hn
          have HZ6 := Lib.hid (show (w5.alloc (.cells #[.int .i64 (pe : Nat), .int .i64 (pe : Nat), .int .i64 (pe : Nat), .int .i64 0, .int .i64 1, .int .i64 (sz : Nat), .int .i64 (mm : Nat), .bool false, .int .i64 (le : Nat)] 38)).heap.size = w5.heap.size + 1 by simp)
          go_wp2_with fail
          generalize w5.alloc (.cells #[.int .i64 (pe : Nat), .int .i64 (pe : Nat), .int .i64 (pe : Nat), .int .i64 0, .int .i64 1, .int .i64 (sz : Nat), .int .i64 (mm : Nat), .bool false, .int .i64 (le : Nat)] 38) = w6 at *
          have HM6 := Lib.hid (HM5.out.g' hg6)
          have hA7 := heap_new w6 (.cells #[.string (at8 n)] 9)
          have HM7 := Lib.hid (HM6.out.alloc (.cells #[.string (at8 n)] 9))
          have HP7 := Lib.hid ((Below.heap_alloc w6 (.cells #[.string (at8 n)] 9) _ (lt_heap hP6)).trans hP6)
          have HF7 := Lib.hid (HFI.out (w5.heap.size + 1) 0 1 (w6.alloc (.cells #[.string (at8 n)] 9)) (by have := HZ6.out; simp; omega) (by rw [← HZ6.out]; exact cells1 hA7))
          clear hA7 hP6 hg6 en5' HM5
          go_wp2_with fail
          refine HF7.out.mono ?_
          rintro e w8 ⟨hg8, k, a, z, h, b, s, mq, i, xx, rfl, rfl⟩
          have HM8 := Lib.hid (HM7.out.g' hg8)
          have HP8 := Lib.hid ((hg8.block _ (lt_heap HP7.out) (by simp)).trans HP7.out)
          have hg9 := (G.refl w8.heap.size none w8).alloc (.cells #[.int .i64 k, .int .i64 a, .int .i64 z, .int .i64 h, .int .i64 b, .int .i64 s, .int .i64 mq, .bool false, .int .i64 i] 38) (Nat.le_refl _)
          have HM9 := Lib.hid (HM8.out.g' hg9)
          have HP9 := Lib.hid ((hg9.block _ (lt_heap HP8.out) (by simp)).trans HP8.out)
          have lp9 := lt_heap HP8.out
          clear hg8 hg9 en5
          obtain ⟨q0, q1, q2, q3, q4, q5, q6, q7, q8⟩ := cells9 HP9.out
          obtain ⟨c0, c1, c2, c3, c4, c5, c6, c7⟩ := cells8' HM9.out.t
          go_wp2_with fail
          generalize w8.alloc (.cells #[.int .i64 k, .int .i64 a, .int .i64 z, .int .i64 h, .int .i64 b, .int .i64 s, .int .i64 mq, .bool false, .int .i64 i] 38) = w9 at *
          clear q0 q1 q2 q3 q4 q5 q6 q7 q8 c0 c1 c2 c3 c4 c5 c6 c7 HM6 HM7 HM8 HP7 HP8 HF7 HS4 HSL HFI
          go_loopg [21, 22] (2 * le) (fun k va vi wr3 => ∃ t : Nat, t ≤ 2 * le ∧ k = 2 * le - t ∧ va = .int .i64 (psf 1 kw t : Nat) ∧ vi = .int .i64 (t : Nat) ∧ wr3.heap[w5.heap.size]? = some (.cells #[.int .i64 (pe : Nat), .int .i64 (pe : Nat), .int .i64 (pe : Nat), .int .i64 0, .int .i64 1, .int .i64 (sz : Nat), .int .i64 (mm : Nat), .bool false, .int .i64 (le : Nat)] 38) ∧ G w.heap.size none w wr3)
          case atStart => exact ⟨0, Nat.zero_le _, rfl, by rw [psf_zero]; rfl, rfl, HP9.out, HM9.out.g⟩
          case round =>
            rename World => wr3
            obtain ⟨t, ht, hk, rfl, rfl, hP, hg⟩ := hrel
            have HK3 := Lib.hid hk; clear hk
            have HG := Lib.hid hg; clear hg
            obtain ⟨q0, q1, q2, q3, q4, q5, q6, q7, q8⟩ := cells9 hP
            have HP := Lib.hid hP; clear hP
            clear HP9 HM9
            by_cases hlt : t < 2 * le
            · have HS := Lib.hid (HSK.out t (by rw [HKWL.out]; omega) wr3)
              have hp1 := hpl t
              have hp2 := hpl (t + 1)
              have u1 : (t : Int) < 2 * (le : Int) := by omega
              clear q0 q1 q2 q3 q4 q5 q6 q7 q8
              generalize psf 1 kw t = pt at *
              generalize hpn : psf 1 kw (t + 1) = pn at *
              have HPN := Lib.hid hpn; clear hpn
              go_wp2_with (go_at_call 15; (with_reducible refine HS.out.mono ?_); rintro e w10 ⟨rfl, hg10⟩)
              go_roundg (2 * le - (t + 1))
              case measure => have := HK3.out; omega
              case rel => exact ⟨t + 1, hlt, rfl, by rw [HPN.out], by simp, (hg10.block _ (lt_heap HP.out) (by simp)).trans HP.out, HG.out.trans (hg10.mono HG.out.size)⟩
            · obtain rfl : t = 2 * le := by omega
              rw [HPE.out]
              have hs1 := HSB.out
              have u1 : ¬ ((2 * le : Nat) : Int) < 2 * (le : Int) := by omega
              clear hpl
              go_wp2_with (go_at_call 6; refine (awake_ok _).mono ?_; rintro e w10 ⟨rfl, hg10⟩)
              go_ret
              exact ⟨rfl, HG.out.trans (hg10.mono HG.out.size)⟩
end Go.Proofs.YtcfjiaogdmjlbaaGreat
