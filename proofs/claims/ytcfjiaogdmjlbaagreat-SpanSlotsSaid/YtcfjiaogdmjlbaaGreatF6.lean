/- The walk of the reference's put over an object of nulls, CBOR. -/
import Derived.Test.YtcfjiaogdmjlbaaGreatF5
namespace Go.Proofs.YtcfjiaogdmjlbaaGreat
open Go.RowKit
theorem cbor_order (A : Option Addr) (n c : Nat) (ks : List ByteArray) (w : World) (h : SR w A n c ks) (hn : n ≤ 300) :
    Calls Tryz.prog 75 #[.slice A n c] w fun e w' => ∃ A' c', e = .returned (.slice A' n c') ∧ w'.ownsRow w.heap.size 3 1 (.slice A' n c') n (iv (ordF ks n)) ∧ G w.heap.size none w w' := by
  have HP := Lib.hid (place_any A n c ks w h hn)
  clear h
  go_enter Tryz.func75, Tryz.ntmps75
  go_wp2_with (go_at_call 101; refine HP.out.mono ?_; rintro e w1 ⟨A1, c1, rfl, h1, h2⟩; have H1 := Lib.hid h1; have H2 := Lib.hid h2; clear h1 h2)
  go_ret
  exact ⟨A1, c1, rfl, H1.out, H2.out⟩
theorem body_snoc (t : Nat) (z : UInt8) (k : ByteArray) : ∀ l, body t z (l ++ [k]) = body t z l ++ (UInt8.ofNat (t + k.size) :: k.data.toList) ++ [z]
  | [] => by simp [body]
  | x :: l => by simp [body, body_snoc t z k l]
theorem body_take (t : Nat) (z : UInt8) (l : List ByteArray) (j : Nat) (hj : j < l.length) : body t z (l.take (j + 1)) = body t z (l.take j) ++ (UInt8.ofNat (t + (l.getD j ByteArray.empty).size) :: (l.getD j ByteArray.empty).data.toList) ++ [z] := by
  rw [← body_snoc, List.take_add_one]
  simp [List.getD, hj]
theorem body_le (t : Nat) (z : UInt8) : ∀ l : List ByteArray, (∀ k ∈ l, k.size < 24) → (body t z l).length ≤ 26 * l.length
  | [], _ => by simp [body]
  | k :: l, h => by
    have h1 := h k (by simp)
    have h2 := body_le t z l (fun x hx => h x (by simp [hx]))
    have e : k.data.toList.length = k.size := by simp
    simp only [body, List.length_append, List.length_cons, e]
    omega
/-- The names in an order. -/
def inO (ks : List ByteArray) (o : List Nat) : List ByteArray := o.map fun x => ks.getD x ByteArray.empty
theorem inO_asc {ks : List ByteArray} {o : List Nat} (h : ∀ k ∈ ks, Asc k) (ho : ∀ x ∈ o, x < ks.length) : ∀ k ∈ inO ks o, Asc k := fun k hk => by
  obtain ⟨x, hx, rfl⟩ := List.mem_map.1 hk
  refine h _ ?_
  rw [List.getD_eq_getElem?_getD, List.getElem?_eq_getElem (ho x hx)]
  exact List.getElem_mem _
theorem inO_len (ks : List ByteArray) (o : List Nat) : (inO ks o).length = o.length := by simp [inO]
theorem inO_at (ks : List ByteArray) (o : List Nat) (j : Nat) (hj : j < o.length) : (inO ks o).getD j ByteArray.empty = ks.getD (o.getD j 0) ByteArray.empty := by simp [inO, List.getD, hj]
theorem sB {w wr X X' : World} {T lg j KB ok VB ov : Nat} {lc : Array Value} {vK vV vx : Value} {key : ByteArray} (h : G w.heap.size none w X ∧ wr.heap.size ≤ X.heap.size ∧ X.heap[lg]? = some (.cells lc 3 (0, 0)) ∧ X.cell? ⟨T, 6, none⟩ = some vK ∧ X.cell? ⟨T, 7, none⟩ = some vV ∧ X.cell? ⟨lg, j, none⟩ = some vx ∧ X.cell? ⟨KB, ok, none⟩ = some (.string key) ∧ X.cell? ⟨VB, ov, none⟩ = some (.int .i64 1) ∧ X.cell? ⟨VB, ov + 1, none⟩ = some (.bool false) ∧ X.cell? ⟨VB, ov + 2, none⟩ = some (.bool false) ∧ X.cell? ⟨VB, ov + 3, none⟩ = some (.slice none 0 0) ∧ X.cell? ⟨VB, ov + 4, none⟩ = some (.int .i64 0) ∧ X.cell? ⟨VB, ov + 5, none⟩ = some (.string ⟨#[]⟩) ∧ X.cell? ⟨VB, ov + 6, none⟩ = some (.slice none 0 0) ∧ X.cell? ⟨VB, ov + 7, none⟩ = some (.slice none 0 0)) (hg : G w.heap.size none w X') (hz : X.heap.size ≤ X'.heap.size)
    (hk : ∀ k, k = T ∨ k = lg ∨ k = KB ∨ k = VB → X'.heap[k]? = X.heap[k]?) : G w.heap.size none w X' ∧ wr.heap.size ≤ X'.heap.size ∧ X'.heap[lg]? = some (.cells lc 3 (0, 0)) ∧ X'.cell? ⟨T, 6, none⟩ = some vK ∧ X'.cell? ⟨T, 7, none⟩ = some vV ∧ X'.cell? ⟨lg, j, none⟩ = some vx ∧ X'.cell? ⟨KB, ok, none⟩ = some (.string key) ∧ X'.cell? ⟨VB, ov, none⟩ = some (.int .i64 1) ∧ X'.cell? ⟨VB, ov + 1, none⟩ = some (.bool false) ∧ X'.cell? ⟨VB, ov + 2, none⟩ = some (.bool false) ∧ X'.cell? ⟨VB, ov + 3, none⟩ = some (.slice none 0 0) ∧ X'.cell? ⟨VB, ov + 4, none⟩ = some (.int .i64 0) ∧ X'.cell? ⟨VB, ov + 5, none⟩ = some (.string ⟨#[]⟩) ∧ X'.cell? ⟨VB, ov + 6, none⟩ = some (.slice none 0 0) ∧ X'.cell? ⟨VB, ov + 7, none⟩ = some (.slice none 0 0) := by
  obtain ⟨h01, h02, h03, h1, h2, h3, h4, h5, h6, h7, h8, h9, h10, h11, h12⟩ := h
  have a1 := fun i => World.cell?_of_block (a := ⟨T, i, none⟩) (hk T (.inl rfl))
  have a2 := fun i => World.cell?_of_block (a := ⟨lg, i, none⟩) (hk lg (.inr (.inl rfl)))
  have a3 := fun i => World.cell?_of_block (a := ⟨KB, i, none⟩) (hk KB (.inr (.inr (.inl rfl))))
  have a4 := fun i => World.cell?_of_block (a := ⟨VB, i, none⟩) (hk VB (.inr (.inr (.inr rfl))))
  exact ⟨hg, Nat.le_trans h02 hz, (hk lg (.inr (.inl rfl))).trans h03, (a1 _).trans h1, (a1 _).trans h2, (a2 _).trans h3, (a3 _).trans h4, (a4 _).trans h5, (a4 _).trans h6, (a4 _).trans h7, (a4 _).trans h8, (a4 _).trans h9, (a4 _).trans h10, (a4 _).trans h11, (a4 _).trans h12⟩
theorem sG {w wr X X' : World} {T lg j KB ok VB ov : Nat} {lc : Array Value} {vK vV vx : Value} {key : ByteArray} (h : G w.heap.size none w X ∧ wr.heap.size ≤ X.heap.size ∧ X.heap[lg]? = some (.cells lc 3 (0, 0)) ∧ X.cell? ⟨T, 6, none⟩ = some vK ∧ X.cell? ⟨T, 7, none⟩ = some vV ∧ X.cell? ⟨lg, j, none⟩ = some vx ∧ X.cell? ⟨KB, ok, none⟩ = some (.string key) ∧ X.cell? ⟨VB, ov, none⟩ = some (.int .i64 1) ∧ X.cell? ⟨VB, ov + 1, none⟩ = some (.bool false) ∧ X.cell? ⟨VB, ov + 2, none⟩ = some (.bool false) ∧ X.cell? ⟨VB, ov + 3, none⟩ = some (.slice none 0 0) ∧ X.cell? ⟨VB, ov + 4, none⟩ = some (.int .i64 0) ∧ X.cell? ⟨VB, ov + 5, none⟩ = some (.string ⟨#[]⟩) ∧ X.cell? ⟨VB, ov + 6, none⟩ = some (.slice none 0 0) ∧ X.cell? ⟨VB, ov + 7, none⟩ = some (.slice none 0 0)) (hg : G X.heap.size none X X') (hw : w.heap.size ≤ wr.heap.size)
    (hT : T < wr.heap.size) (hl : lg < wr.heap.size) (hK : KB < wr.heap.size) (hV : VB < wr.heap.size) : G w.heap.size none w X' ∧ wr.heap.size ≤ X'.heap.size ∧ X'.heap[lg]? = some (.cells lc 3 (0, 0)) ∧ X'.cell? ⟨T, 6, none⟩ = some vK ∧ X'.cell? ⟨T, 7, none⟩ = some vV ∧ X'.cell? ⟨lg, j, none⟩ = some vx ∧ X'.cell? ⟨KB, ok, none⟩ = some (.string key) ∧ X'.cell? ⟨VB, ov, none⟩ = some (.int .i64 1) ∧ X'.cell? ⟨VB, ov + 1, none⟩ = some (.bool false) ∧ X'.cell? ⟨VB, ov + 2, none⟩ = some (.bool false) ∧ X'.cell? ⟨VB, ov + 3, none⟩ = some (.slice none 0 0) ∧ X'.cell? ⟨VB, ov + 4, none⟩ = some (.int .i64 0) ∧ X'.cell? ⟨VB, ov + 5, none⟩ = some (.string ⟨#[]⟩) ∧ X'.cell? ⟨VB, ov + 6, none⟩ = some (.slice none 0 0) ∧ X'.cell? ⟨VB, ov + 7, none⟩ = some (.slice none 0 0) :=
  sB h (h.1.trans (hg.mono (Nat.le_trans hw h.2.1))) hg.size (fun k hk => hg.block k (Nat.lt_of_lt_of_le (by rcases hk with rfl | rfl | rfl | rfl <;> assumption) h.2.1) (by simp))
theorem sA {w wr X X' : World} {T lg j KB ok VB ov : Nat} {lc : Array Value} {vK vV vx : Value} {key : ByteArray} {gb : Nat} (h : G w.heap.size none w X ∧ wr.heap.size ≤ X.heap.size ∧ X.heap[lg]? = some (.cells lc 3 (0, 0)) ∧ X.cell? ⟨T, 6, none⟩ = some vK ∧ X.cell? ⟨T, 7, none⟩ = some vV ∧ X.cell? ⟨lg, j, none⟩ = some vx ∧ X.cell? ⟨KB, ok, none⟩ = some (.string key) ∧ X.cell? ⟨VB, ov, none⟩ = some (.int .i64 1) ∧ X.cell? ⟨VB, ov + 1, none⟩ = some (.bool false) ∧ X.cell? ⟨VB, ov + 2, none⟩ = some (.bool false) ∧ X.cell? ⟨VB, ov + 3, none⟩ = some (.slice none 0 0) ∧ X.cell? ⟨VB, ov + 4, none⟩ = some (.int .i64 0) ∧ X.cell? ⟨VB, ov + 5, none⟩ = some (.string ⟨#[]⟩) ∧ X.cell? ⟨VB, ov + 6, none⟩ = some (.slice none 0 0) ∧ X.cell? ⟨VB, ov + 7, none⟩ = some (.slice none 0 0)) (hg : X.grownBy X' (some gb)) (hw : w.heap.size ≤ wr.heap.size)
    (hT : T < wr.heap.size) (hl : lg < wr.heap.size) (hK : KB < wr.heap.size) (hV : VB < wr.heap.size) (b0 : w.heap.size ≤ gb) (b1 : gb ≠ T) (b2 : gb ≠ lg) (b3 : gb ≠ KB) (b4 : gb ≠ VB) : G w.heap.size none w X' ∧ wr.heap.size ≤ X'.heap.size ∧ X'.heap[lg]? = some (.cells lc 3 (0, 0)) ∧ X'.cell? ⟨T, 6, none⟩ = some vK ∧ X'.cell? ⟨T, 7, none⟩ = some vV ∧ X'.cell? ⟨lg, j, none⟩ = some vx ∧ X'.cell? ⟨KB, ok, none⟩ = some (.string key) ∧ X'.cell? ⟨VB, ov, none⟩ = some (.int .i64 1) ∧ X'.cell? ⟨VB, ov + 1, none⟩ = some (.bool false) ∧ X'.cell? ⟨VB, ov + 2, none⟩ = some (.bool false) ∧ X'.cell? ⟨VB, ov + 3, none⟩ = some (.slice none 0 0) ∧ X'.cell? ⟨VB, ov + 4, none⟩ = some (.int .i64 0) ∧ X'.cell? ⟨VB, ov + 5, none⟩ = some (.string ⟨#[]⟩) ∧ X'.cell? ⟨VB, ov + 6, none⟩ = some (.slice none 0 0) ∧ X'.cell? ⟨VB, ov + 7, none⟩ = some (.slice none 0 0) :=
  sB h (h.1.grown hg (Nat.le_trans hw h.2.1) (fun k hk => .inl (by cases hk; exact b0))) hg.size (fun k hk => hg.block k (Nat.lt_of_lt_of_le (by rcases hk with rfl | rfl | rfl | rfl <;> assumption) h.2.1) (fun e => by cases e; rcases hk with rfl | rfl | rfl | rfl <;> contradiction))
theorem own_of_heap {X X' : World} {B g n c : Nat} {e : TypeId} {size : Nat} {xs : List Value} (h : X.ownsRow B e size (.slice (some ⟨g, 0, none⟩) n c) n xs) (hh : X'.heap[g]? = X.heap[g]?) : X'.ownsRow B e size (.slice (some ⟨g, 0, none⟩) n c) n xs := by
  obtain ⟨h1, ⟨e1, _⟩ | ⟨g', cap, cur, e1, h2, h3, h4⟩⟩ := h
  · cases e1
  · simp only [Value.slice.injEq, Option.some.injEq, Addr.mk.injEq] at e1
    obtain ⟨⟨rfl, _⟩, _, rfl⟩ := e1
    exact ⟨h1, .inr ⟨_, _, cur, rfl, h2, hh.trans h3, h4⟩⟩
theorem own_base {X : World} {B g n c : Nat} {e : TypeId} {xs : List Value} (h : X.ownsRow B e 1 (.slice (some ⟨g, 0, none⟩) n c) n xs) : B ≤ X.heap.size := by have := h.lt g rfl; omega
theorem own_ty {X : World} {B g n c lg : Nat} {lc : Array Value} {xs : List Value} (h : X.ownsRow B 5 1 (.slice (some ⟨g, 0, none⟩) n c) n xs) (hl : X.heap[lg]? = some (.cells lc 3 (0, 0))) : g ≠ lg := by
  intro e
  subst e
  rcases h.2 with ⟨e, _⟩ | ⟨g', cap, cur, e, _, hh, _⟩
  · cases e
  · simp only [Value.slice.injEq, Option.some.injEq, Addr.mk.injEq] at e
    obtain ⟨⟨rfl, _⟩, _⟩ := e
    rw [hl] at hh
    cases hh
theorem bv_one (L : List UInt8) : ∀ u ∈ bv L, u.oneCell' = true := fun u hu => by
  obtain ⟨x, _, rfl⟩ := List.mem_map.1 hu
  rfl
theorem own_src {X : World} {B g n c : Nat} {L : List UInt8} (h : X.ownsRow B 5 1 (.slice (some ⟨g, 0, none⟩) n c) n (bv L)) : Src Tryz.prog 1 59 (.slice (some ⟨g, 0, none⟩) n c) n (bv L) X :=
  Src.ofSlice _ Tryz.underlying59 ⟨g, 0, none⟩ n c _ h.1 (h.cells (g := g) rfl) (bv_one L)
def ERel2 (w : World) (n : Nat) (hd : UInt8) (t : Nat) (z : UInt8) (kk : List ByteArray) (vK vV : Value) (k : Nat) (vB vI : Value) (wr : World) : Prop :=
  ∃ (j : Nat) (Ab : Option Addr) (cb : Nat), j ≤ n ∧ k = n - j ∧ vI = .int .i64 (j : Nat) ∧ vB = .slice Ab (hd :: body t z (kk.take j)).length cb ∧
    wr.ownsRow (w.heap.size + 1) 5 1 vB (hd :: body t z (kk.take j)).length (bv (hd :: body t z (kk.take j))) ∧ (wr.cell? ⟨w.heap.size, 6, none⟩ = some vK ∧ wr.cell? ⟨w.heap.size, 7, none⟩ = some vV ∧ w.heap.size < wr.heap.size) ∧ G w.heap.size none w wr
set_option maxRecDepth 20000 in
set_option maxHeartbeats 4000000 in
theorem put_obj (A AV : Option Addr) (n c cv : Nat) (ks : List ByteArray) (w : World) (h : SR w A n c ks) (hv : NV w AV n cv) (hn : n < 24) (hi : Inc ks) :
    Calls Tryz.prog 49 #[tre 7 (.slice A n c) (.slice AV n cv)] w (BOut w (UInt8.ofNat (160 + n) :: body 96 246 (inO ks (ordF ks n)))) := by
  obtain ⟨i5, hi5, hz5, hs5, hb5⟩ := info_parts info5
  have K5 := Lib.hid (And.intro hz5 (And.intro hs5 hb5)); clear hz5 hs5 hb5
  have ga0 : G w.heap.size none w (w.alloc (treO 7 (.slice A n c) (.slice AV n cv))) := (G.refl _ _ _).alloc _ (Nat.le_refl _)
  have HP := Lib.hid (put5 n hn (w.alloc (treO 7 (.slice A n c) (.slice AV n cv))))
  have HCO := Lib.hid (fun W g => cbor_order A n c ks W (h.g (R := none) g rfl) (by omega))
  have HV := Lib.hid hv
  have H := Lib.hid h
  have HI := Lib.hid hi
  have hle := h.le
  have hcap := h.cap
  have hvle := hv.le
  have hvcap := hv.cap
  have hlenK := h.len
  have HALL := Lib.hid (inO_asc (o := ordF ks n) hi.1 (fun x hx => by rw [hlenK]; exact ordF_mem ks n x hx))
  clear h hv hi
  go_enter Tryz.func49, Tryz.ntmps49
  go_wp2_with fail
  refine HP.out.mono ?_
  rintro e w1 ⟨Ab, cb, rfl, hb, hg1⟩
  have hT := hg1.newest (by simp)
  have HG1 := Lib.hid hg1.past
  rw [World.size_alloc] at hb
  obtain ⟨c0, c1, c2, c3, c4, c5, c6, c7⟩ := cells8' hT
  have HT1 := Lib.hid hT
  have HB1 := Lib.hid hb
  clear hg1 hT hb ga0
  go_wp2_with fail
  refine (HCO.out w1 HG1.out).mono ?_
  rintro e w2 ⟨Al, cl, rfl, hl, hg2⟩
  have HB2 := Lib.hid (own_g0 HB1.out hg2)
  have HT2 := Lib.hid ((hg2.block _ (lt_heap HT1.out) (by simp)).trans HT1.out)
  have HG2 := Lib.hid (HG1.out.trans (hg2.mono HG1.out.size))
  have HL2 := Lib.hid hl
  have HW1 := Lib.hid (lt_heap HT1.out)
  clear hg2 hl c0 c1 c2 c3 c4 c5 c6 c7 HB1 HT1 HG1
  go_wp2_with fail
  go_loopg [5, 7] n (fun k vB vI wr => ERel2 w n (UInt8.ofNat (160 + n)) 96 246 (inO ks (ordF ks n)) (.slice A n c) (.slice AV n cv) k vB vI wr ∧ wr.ownsRow w1.heap.size 3 1 (.slice Al n cl) n (iv (ordF ks n)))
  case atStart => exact ⟨⟨0, Ab, cb, Nat.zero_le _, rfl, rfl, rfl, HB2.out, ⟨(cells8' HT2.out).2.2.2.2.2.2.1, (cells8' HT2.out).2.2.2.2.2.2.2, lt_heap HT2.out⟩, HG2.out⟩, HL2.out⟩
  case round =>
    obtain ⟨⟨j, Ab0, cb0, hj, hk, rfl, rfl, hO, hT, hg⟩, hl⟩ := hrel
    have HK := Lib.hid hk; clear hk
    have HG := Lib.hid hg; clear hg
    have HTr := Lib.hid hT; clear hT
    by_cases hlt : j < n
    · obtain ⟨KB, ok, rfl, hKB0, hcK⟩ := H.out.cells (by omega)
      obtain ⟨VB, ov, rfl, hVB0, hcV⟩ := HV.out.cells (by omega)
      obtain ⟨lg, rfl, hlg0, hlg, hlc1, hlc2, hlcell⟩ := own_at hl (by omega)
      obtain ⟨lc, hlc⟩ : ∃ lc, wr.heap[lg]? = some (.cells lc 3 (0, 0)) := by
        rcases hl.2 with ⟨e, _⟩ | ⟨g', cap, cur, e, _, hh, _⟩
        · cases e
        · simp only [Value.slice.injEq, Option.some.injEq, Addr.mk.injEq] at e
          obtain ⟨⟨rfl, _⟩, _⟩ := e
          exact ⟨cur, hh⟩
      obtain ⟨gb, hab, hgb1, hgb2, hgb3, hgb4, _⟩ := own_at hO (by simp)
      subst hab
      have hbt := body_take 96 246 (inO ks (ordF ks n)) j (by rw [inO_len, ordF_len]; exact hlt)
      rw [inO_at ks _ j (by rw [ordF_len]; exact hlt)] at hbt
      have hxl : (ordF ks n).getD j 0 < n := ordF_mem ks n _ (by rw [List.getD_eq_getElem?_getD, List.getElem?_eq_getElem (by rw [ordF_len]; exact hlt)]; exact List.getElem_mem _)
      have hlj := hlcell j hlt
      rw [iv_at _ j (by rw [ordF_len]; exact hlt)] at hlj
      have HL := Lib.hid hl
      generalize (ordF ks n).getD j 0 = x at *
      have hKx := (HG.out.cell hKB0 (by simp)).trans (hcK x hxl)
      have hasc := HI.out.1 (ks.getD x ByteArray.empty) (by rw [List.getD_eq_getElem?_getD, List.getElem?_eq_getElem (by omega)]; exact List.getElem_mem _)
      generalize ks.getD x ByteArray.empty = key at *
      have HBT := Lib.hid hbt
      have HT := Lib.hid (fun W => text_ok key hasc.1 W)
      have ksz := hasc.1
      have e8 : ∀ q u, [Value.int .i64 1, .bool false, .bool false, .slice none 0 0, .int .i64 0, .string ⟨#[]⟩, .slice none 0 0, .slice none 0 0][q]? = some u → wr.cell? ⟨VB, ov + x * 8 + q, none⟩ = some u := fun q u hu => (HG.out.cell hVB0 (by simp)).trans (hcV x hxl q u hu)
      have x0 : wr.cell? ⟨VB, ov + x * 8, none⟩ = some _ := e8 0 _ rfl
      have x1 := e8 1 _ rfl
      have x2 := e8 2 _ rfl
      have x3 := e8 3 _ rfl
      have x4 := e8 4 _ rfl
      have x5 := e8 5 _ rfl
      have x6 := e8 6 _ rfl
      have x7 := e8 7 _ rfl
      obtain ⟨c6, c7, hT⟩ := HTr.out
      have hbl : (body 96 246 ((inO ks (ordF ks n)).take j)).length ≤ 10000 := by have := body_le 96 246 ((inO ks (ordF ks n)).take j) (fun k hk => (HALL.out k (List.mem_of_mem_take hk)).1); rw [List.length_take, inO_len, ordF_len] at this; omega
      generalize hLb : UInt8.ofNat (160 + n) :: body 96 246 ((inO ks (ordF ks n)).take j) = Lb at *
      obtain ⟨nb, hnb⟩ : ∃ nb, Lb.length = nb := ⟨_, rfl⟩
      have hnb1 : nb ≤ 10001 := by rw [← hnb, ← hLb]; simp; omega
      have hnb0 : 0 < nb := by rw [← hnb, ← hLb]; simp
      rw [hnb] at hO hgb3 ⊢
      have HNB := Lib.hid hnb; clear hnb
      have HLB := Lib.hid hLb; clear hLb
      have hw := HG.out.size
      have hKB : KB < wr.heap.size := by omega
      have hVB : VB < wr.heap.size := by omega
      have gbw : w.heap.size ≤ gb := by omega
      have gbT : gb ≠ w.heap.size := by omega
      have gbl : gb ≠ lg := own_ty hO hlc
      have gbK : gb ≠ KB := by omega
      have gbV : gb ≠ VB := by omega
      clear hcK hcV hlcell e8 hbt hasc hl hbl
      have hO0 : wr.drew.ownsRow (w.heap.size + 1) 5 1 (.slice (some ⟨gb, 0, none⟩) nb cb0) nb (bv Lb) := hO
      clear hO
      obtain ⟨LT, hLT⟩ : ∃ LT, (UInt8.ofNat (96 + key.size) :: key.data.toList) = LT := ⟨_, rfl⟩
      rw [hLT] at HT
      have hnT1 : LT.length ≤ 25 := by rw [← hLT]; simp; omega
      have hnT0 : 0 < LT.length := by rw [← hLT]; simp
      go_wp2_with fail
      have hS0 : G w.heap.size none w wr.drew ∧ wr.heap.size ≤ wr.drew.heap.size ∧ wr.drew.heap[lg]? = some (.cells lc 3 (0, 0)) ∧ wr.drew.cell? ⟨w.heap.size, 6, none⟩ = some (.slice (some ⟨KB, ok, none⟩) n c) ∧ wr.drew.cell? ⟨w.heap.size, 7, none⟩ = some (.slice (some ⟨VB, ov, none⟩) n cv) ∧ wr.drew.cell? ⟨lg, j, none⟩ = some (.int .i64 (x : Nat)) ∧ wr.drew.cell? ⟨KB, ok + x, none⟩ = some (.string key) ∧ wr.drew.cell? ⟨VB, ov + x * 8, none⟩ = some (.int .i64 1) ∧ wr.drew.cell? ⟨VB, ov + x * 8 + 1, none⟩ = some (.bool false) ∧ wr.drew.cell? ⟨VB, ov + x * 8 + 2, none⟩ = some (.bool false) ∧ wr.drew.cell? ⟨VB, ov + x * 8 + 3, none⟩ = some (.slice none 0 0) ∧ wr.drew.cell? ⟨VB, ov + x * 8 + 4, none⟩ = some (.int .i64 0) ∧ wr.drew.cell? ⟨VB, ov + x * 8 + 5, none⟩ = some (.string ⟨#[]⟩) ∧ wr.drew.cell? ⟨VB, ov + x * 8 + 6, none⟩ = some (.slice none 0 0) ∧ wr.drew.cell? ⟨VB, ov + x * 8 + 7, none⟩ = some (.slice none 0 0) := ⟨HG.out.drew, Nat.le_refl _, hlc, c6, c7, hlj, hKx, x0, x1, x2, x3, x4, x5, x6, x7⟩
      have i1 : (0 : Int) ≤ (j : Int) := by omega
      have i2 : (j : Int) < (n : Int) := by omega
      have i3 : (0 : Int) ≤ (x : Int) := by omega
      have i4 : (x : Int) < (n : Int) := by omega
      have HLC := Lib.hid hlc
      clear x0 x1 x2 x3 x4 x5 x6 x7 hlj hKx hlc c6 c7
      go_region_held3 (fun w' => G w.heap.size none w w' ∧ wr.heap.size ≤ w'.heap.size ∧ w'.heap[lg]? = some (.cells lc 3 (0, 0)) ∧ w'.cell? ⟨w.heap.size, 6, none⟩ = some (.slice (some ⟨KB, ok, none⟩) n c) ∧ w'.cell? ⟨w.heap.size, 7, none⟩ = some (.slice (some ⟨VB, ov, none⟩) n cv) ∧ w'.cell? ⟨lg, j, none⟩ = some (.int .i64 (x : Nat)) ∧ w'.cell? ⟨KB, ok + x, none⟩ = some (.string key) ∧ w'.cell? ⟨VB, ov + x * 8, none⟩ = some (.int .i64 1) ∧ w'.cell? ⟨VB, ov + x * 8 + 1, none⟩ = some (.bool false) ∧ w'.cell? ⟨VB, ov + x * 8 + 2, none⟩ = some (.bool false) ∧ w'.cell? ⟨VB, ov + x * 8 + 3, none⟩ = some (.slice none 0 0) ∧ w'.cell? ⟨VB, ov + x * 8 + 4, none⟩ = some (.int .i64 0) ∧ w'.cell? ⟨VB, ov + x * 8 + 5, none⟩ = some (.string ⟨#[]⟩) ∧ w'.cell? ⟨VB, ov + x * 8 + 6, none⟩ = some (.slice none 0 0) ∧ w'.cell? ⟨VB, ov + x * 8 + 7, none⟩ = some (.slice none 0 0)) (with_reducible assumption)
        (first
          | (go_at_call 73; refine (HT.out _).mono ?_; rintro e wt ⟨At, ct, rfl, ht, hgt⟩; obtain ⟨gt, hat, hgt1, hgt2, _, _, _⟩ := own_at ht (by omega); subst hat; have hSt := sG (by assumption) hgt hw hT hlg hKB hVB; have hbt : wt.ownsRow (w.heap.size + 1) 5 1 (.slice (some ⟨gb, 0, none⟩) nb cb0) nb (bv Lb) := own_g0 (by assumption) hgt; (try (have hpt : wt.ownsRow _ 5 1 (.slice (some ⟨gp, 0, none⟩) 1 cp) 1 (bv [246]) := own_g0 (by assumption) hgt)))
          | (go_at_call 49; refine (put_null _).mono ?_; rintro e wp ⟨Ap, cp, rfl, hp, hgp⟩; obtain ⟨gp, hap, hgp1, hgp2, _, _, _⟩ := own_at hp (by simp); subst hap; have hSp := sG (by assumption) hgp hw hT hlg hKB hVB; (first | (have hbp : wp.ownsRow (w.heap.size + 1) 5 1 (.slice (some ⟨gb, 0, none⟩) nb cb0) nb (bv Lb) := own_g0 (by assumption) hgp; (try (have htp : wp.ownsRow _ 5 1 (.slice (some ⟨gt, 0, none⟩) LT.length ct) LT.length (bv LT) := own_g0 (by assumption) hgp))) | have hap2 : wp.ownsRow (w.heap.size + 1) 5 1 (.slice (some ⟨ga, 0, none⟩) (nb + LT.length) ca) (nb + LT.length) (bv Lb ++ bv LT) := own_g0 (by assumption) hgp))
          | (refine step_append_src rfl (.tmp 76) (.tmp 85) 59 59 rfl (w.heap.size + 1) 5 i5 (.int .u8 0) 1 1 Tryz.underlying59 hi5 K5.out.1 K5.out.2.1 K5.out.2.2 rfl (by decide) (.slice (some ⟨gb, 0, none⟩) nb cb0) nb (bv Lb) rfl (by assumption) (.slice (some ⟨gt, 0, none⟩) LT.length ct) LT.length (bv LT) rfl (own_src (by assumption)) ?_ ?_ (own_base (g := gb) (by assumption)) ?_; (unfold maxLen; omega); omega; intro A2 ca wa ha hga; obtain ⟨ga, haa, hga1, hga2, _, _, _⟩ := own_at ha (by omega); subst haa; have hSa := sA (gb := gb) (by assumption) hga hw hT hlg hKB hVB gbw gbT gbl gbK gbV; (try (have hpa : wa.ownsRow _ 5 1 (.slice (some ⟨gp, 0, none⟩) 1 cp) 1 (bv [246]) := World.ownsRow.kept (by assumption) hga (.inr (fun e => by cases e; omega)))))
          | (refine step_append_src rfl (.tmp 86) (.tmp 95) 59 59 rfl (w.heap.size + 1) 5 i5 (.int .u8 0) 1 1 Tryz.underlying59 hi5 K5.out.1 K5.out.2.1 K5.out.2.2 rfl (by decide) (.slice (some ⟨ga, 0, none⟩) (nb + LT.length) ca) (nb + LT.length) (bv Lb ++ bv LT) rfl (by assumption) (.slice (some ⟨gp, 0, none⟩) 1 cp) 1 (bv [246]) rfl (own_src (by assumption)) ?_ ?_ (own_base (g := ga) (by assumption)) ?_; (unfold maxLen; omega); omega; intro A3 c3 wb hb3 hgb3; have hSb := sA (gb := ga) (by assumption) hgb3 hw hT hlg hKB hVB (by omega) (by omega) (own_ty (by assumption) (And.left (And.right (And.right (by assumption))))) (by omega) (by omega)))
      all_goals
        have HO3 := Lib.hid hb3
        have HS3 := Lib.hid hSb
        clear hO0 hS0
        go_wp2
        go_roundg (n - (j + 1))
        case measure => have := HK.out; omega
        case rel =>
          obtain ⟨s1, s2, s3, s4, s5, _⟩ := HS3.out
          have hfin : UInt8.ofNat (160 + n) :: body 96 246 ((inO ks (ordF ks n)).take (j + 1)) = Lb ++ LT ++ [246] := by rw [HBT.out, hLT, ← HLB.out]; simp
          have hlen3 : (UInt8.ofNat (160 + n) :: body 96 246 ((inO ks (ordF ks n)).take (j + 1))).length = nb + LT.length + 1 := by rw [hfin]; simp [HNB.out]; omega
          refine ⟨⟨j + 1, A3, c3, hlt, rfl, by simp, by rw [hlen3], ?_, ⟨s4, s5, Nat.lt_of_lt_of_le hT s2⟩, s1⟩, own_of_heap HL.out (s3.trans HLC.out.symm)⟩
          have h := HO3.out
          rw [hlen3, hfin, bv_app, bv_app]
          exact h
    · obtain rfl : j = n := by omega
      go_wp2
      go_ret
      rw [List.take_of_length_le (by rw [inO_len, ordF_len]; exact Nat.le_refl _)] at hO ⊢
      exact ⟨Ab0, cb0, rfl, own_mono hO (Nat.le_succ _), HG.out⟩
end Go.Proofs.YtcfjiaogdmjlbaaGreat
