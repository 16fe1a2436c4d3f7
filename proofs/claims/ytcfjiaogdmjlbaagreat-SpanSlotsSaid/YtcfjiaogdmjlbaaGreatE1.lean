/- The walk of span's name. -/
import Derived.Test.YtcfjiaogdmjlbaaGreatD9
namespace Go.Proofs.YtcfjiaogdmjlbaaGreat
open Go.RowKit
set_option maxRecDepth 20000 in
set_option maxHeartbeats 1600000 in
theorem name_row (f : Int) (B n cap : Nat) (L : List UInt8) (a m N : Nat) (ps : Nat → Nat) (tx : Nat → ByteArray) (nm : ByteArray) (w : World)
    (hL : L.length = n) (hn : n ≤ 1000000) (hcap : n ≤ cap) (hcap2 : cap ≤ 9223372036854775807) (hN : N = 2 * m) (hm : m ≤ 1000) (ht : Tk f L n a 7 (ps 0 : Nat) 0 (m : Nat) ⟨#[]⟩) (hrow : Row f L n ps tx N) (hB : BY w B L) :
    Calls Tryz.prog 34 #[scan f B n cap, .int .i64 (a : Nat), .string nm] w fun e w' => G w.heap.size none w w' ∧
      ((∃ j, j < m ∧ (tx (2 * j)).toList = nm.toList ∧ e = .returned (.tuple #[place (ps (2 * j) : Nat) (ps (2 * j + 1) : Nat) (ps (2 * j + 2) : Nat) (a : Nat) (ps 0 : Nat) (ps N : Nat) (m : Nat) false (j : Nat), .bool true])) ∨
       ((∀ j, j < m → ((tx (2 * j)).toList == nm.toList) = false) ∧ ∃ K I : Nat, ((K = ps N ∧ I = m ∧ ∀ j, j < m → abv f (tx (2 * j)) nm = false) ∨ (I < m ∧ K = ps (2 * I) ∧ abv f (tx (2 * I)) nm = true ∧ ∀ j, j < I → abv f (tx (2 * j)) nm = false)) ∧
        e = .returned (.tuple #[place (K : Nat) (K : Nat) (K : Nat) (a : Nat) (ps 0 : Nat) (ps N : Nat) (m : Nat) false (I : Nat), .bool false]))) := by
  subst hN
  have hBlt := hB.1
  have HP := Lib.hid (fun W h => parent_row f B n cap L a 7 m (2 * m) ps tx W hL hn hcap hcap2 (.inl ⟨rfl, rfl⟩) hm ht hrow h)
  have HA := Lib.hid (fun W h => at_any f B n cap L a 7 (ps 0 : Nat) 0 (m : Nat) ⟨#[]⟩ W hL hn hcap hcap2 h ht)
  have HB := Lib.hid hB; clear hB
  have HX := Lib.hid (And.intro hL hrow)
  have HSK := Lib.hid (fun (i : Nat) (hi : i < 2 * m) W h => skip_leaf f B n cap L (ps i) _ (tx i) W hL hn hcap hcap2 h (hrow i hi))
  clear hL ht hrow
  go_enter Tryz.func34, Tryz.ntmps34
  go_wp2_with fail
  have hg0 := (((G.refl w.heap.size none w).alloc (.cells #[.int .i64 f, .slice (some ⟨B, 0, none⟩) n cap] 67) (Nat.le_refl _)).alloc (.cells #[.string nm] 9) (by simp)).alloc zero9 (by simp; omega)
  have hS0 : (((w.alloc (.cells #[.int .i64 f, .slice (some ⟨B, 0, none⟩) n cap] 67)).alloc (.cells #[.string nm] 9)).alloc zero9).heap[w.heap.size]? = some (.cells #[.int .i64 f, .slice (some ⟨B, 0, none⟩) n cap] 67 (0, 0)) :=
    (Below.heap_alloc _ _ _ (by simp <;> omega)).trans ((Below.heap_alloc _ _ _ (by simp)).trans (heap_new w _))
  have hM0 : (((w.alloc (.cells #[.int .i64 f, .slice (some ⟨B, 0, none⟩) n cap] 67)).alloc (.cells #[.string nm] 9)).alloc zero9).heap[w.heap.size + 1]? = some (.cells #[.string nm] 9 (0, 0)) :=
    (Below.heap_alloc _ _ _ (by simp)).trans (by have h := heap_new (w.alloc (.cells #[.int .i64 f, .slice (some ⟨B, 0, none⟩) n cap] 67)) (.cells #[.string nm] 9); simpa using h)
  have hR0 : (((w.alloc (.cells #[.int .i64 f, .slice (some ⟨B, 0, none⟩) n cap] 67)).alloc (.cells #[.string nm] 9)).alloc zero9).heap[w.heap.size + 1 + 1]? = some zero9 := by
    have h := heap_new ((w.alloc (.cells #[.int .i64 f, .slice (some ⟨B, 0, none⟩) n cap] 67)).alloc (.cells #[.string nm] 9)) zero9
    simpa using h
  refine (HP.out _ (HB.out.g hg0 hBlt (by simp))).mono ?_
  rintro e w1 ⟨rfl, hg1⟩
  have HG1 := Lib.hid (hg0.trans (hg1.mono hg0.size))
  have HS1 := Lib.hid ((hg1.block _ (by simp; omega) (by simp)).trans hS0)
  have HM1 := Lib.hid ((hg1.block _ (by simp) (by simp)).trans hM0)
  have HR1 := Lib.hid ((hg1.block _ (by simp) (by simp)).trans hR0)
  have l1 := lt_heap HR1.out
  have HG01 := HG1
  clear hg0 hg1 hS0 hM0 hR0 HP
  go_wp2_with fail
  have hP2 : ((w1.alloc (.cells #[.int .i64 (-1), .int .i64 0, .int .i64 0, .int .i64 (a : Nat), .int .i64 (ps 0 : Nat), .int .i64 (ps (2 * m) : Nat), .int .i64 (m : Nat), .bool false, .int .i64 0] 38)).alloc (.cells #[.int .i64 (-1), .int .i64 0, .int .i64 0, .int .i64 (a : Nat), .int .i64 (ps 0 : Nat), .int .i64 (ps (2 * m) : Nat), .int .i64 (m : Nat), .bool false, .int .i64 0] 38)).heap[w1.heap.size]? = some (.cells #[.int .i64 (-1), .int .i64 0, .int .i64 0, .int .i64 (a : Nat), .int .i64 (ps 0 : Nat), .int .i64 (ps (2 * m) : Nat), .int .i64 (m : Nat), .bool false, .int .i64 0] 38 (0, 0)) := (Below.heap_alloc _ _ _ (by simp)).trans (heap_new w1 _)
  have hQ2 : ((w1.alloc (.cells #[.int .i64 (-1), .int .i64 0, .int .i64 0, .int .i64 (a : Nat), .int .i64 (ps 0 : Nat), .int .i64 (ps (2 * m) : Nat), .int .i64 (m : Nat), .bool false, .int .i64 0] 38)).alloc (.cells #[.int .i64 (-1), .int .i64 0, .int .i64 0, .int .i64 (a : Nat), .int .i64 (ps 0 : Nat), .int .i64 (ps (2 * m) : Nat), .int .i64 (m : Nat), .bool false, .int .i64 0] 38)).heap[w1.heap.size + 1]? = some (.cells #[.int .i64 (-1), .int .i64 0, .int .i64 0, .int .i64 (a : Nat), .int .i64 (ps 0 : Nat), .int .i64 (ps (2 * m) : Nat), .int .i64 (m : Nat), .bool false, .int .i64 0] 38 (0, 0)) := by
    have h := heap_new (w1.alloc (.cells #[.int .i64 (-1), .int .i64 0, .int .i64 0, .int .i64 (a : Nat), .int .i64 (ps 0 : Nat), .int .i64 (ps (2 * m) : Nat), .int .i64 (m : Nat), .bool false, .int .i64 0] 38)) (.cells #[.int .i64 (-1), .int .i64 0, .int .i64 0, .int .i64 (a : Nat), .int .i64 (ps 0 : Nat), .int .i64 (ps (2 * m) : Nat), .int .i64 (m : Nat), .bool false, .int .i64 0] 38)
    simpa using h
  have hg2 : G w1.heap.size none w1 ((w1.alloc (.cells #[.int .i64 (-1), .int .i64 0, .int .i64 0, .int .i64 (a : Nat), .int .i64 (ps 0 : Nat), .int .i64 (ps (2 * m) : Nat), .int .i64 (m : Nat), .bool false, .int .i64 0] 38)).alloc (.cells #[.int .i64 (-1), .int .i64 0, .int .i64 0, .int .i64 (a : Nat), .int .i64 (ps 0 : Nat), .int .i64 (ps (2 * m) : Nat), .int .i64 (m : Nat), .bool false, .int .i64 0] 38)) := ((G.refl _ _ _).alloc _ (Nat.le_refl _)).alloc _ (by simp)
  have hz2 : ((w1.alloc (.cells #[.int .i64 (-1), .int .i64 0, .int .i64 0, .int .i64 (a : Nat), .int .i64 (ps 0 : Nat), .int .i64 (ps (2 * m) : Nat), .int .i64 (m : Nat), .bool false, .int .i64 0] 38)).alloc (.cells #[.int .i64 (-1), .int .i64 0, .int .i64 0, .int .i64 (a : Nat), .int .i64 (ps 0 : Nat), .int .i64 (ps (2 * m) : Nat), .int .i64 (m : Nat), .bool false, .int .i64 0] 38)).heap.size = w1.heap.size + 1 + 1 := by simp
  generalize hW2 : (w1.alloc (.cells #[.int .i64 (-1), .int .i64 0, .int .i64 0, .int .i64 (a : Nat), .int .i64 (ps 0 : Nat), .int .i64 (ps (2 * m) : Nat), .int .i64 (m : Nat), .bool false, .int .i64 0] 38)).alloc (.cells #[.int .i64 (-1), .int .i64 0, .int .i64 0, .int .i64 (a : Nat), .int .i64 (ps 0 : Nat), .int .i64 (ps (2 * m) : Nat), .int .i64 (m : Nat), .bool false, .int .i64 0] 38) = w2 at *
  clear hW2
  obtain ⟨e0, e1, e2, e3, e4, e5, e6, e7, e8⟩ := cells9 hP2
  obtain ⟨q0, q1, q2, q3, q4, q5, q6, q7, q8⟩ := cells9 hQ2
  have fq := fun i => froz_heap hQ2 i
  go_region
  have HQ3 := Lib.hid (show (((w2.setCell ⟨w1.heap.size + 1, 0, none⟩ (.int .i64 (ps (2 * m) : Nat))).setCell ⟨w1.heap.size + 1, 8, none⟩ (.int .i64 (m : Nat))).drew).heap[w1.heap.size + 1]? = some (.cells (pl (ps (2 * m) : Nat) 0 0 (a : Nat) (ps 0 : Nat) (ps (2 * m) : Nat) (m : Nat) (m : Nat)).toArray 38 (0, 0)) from heap_set (j := 8) (heap_set (j := 0) hQ2 _) _)
  have hu : ¬ w1.heap.size = w1.heap.size + 1 := by omega
  have HP3 := Lib.hid (show (((w2.setCell ⟨w1.heap.size + 1, 0, none⟩ (.int .i64 (ps (2 * m) : Nat))).setCell ⟨w1.heap.size + 1, 8, none⟩ (.int .i64 (m : Nat))).drew).heap[w1.heap.size]? = some (.cells (pl (-1) 0 0 (a : Nat) (ps 0 : Nat) (ps (2 * m) : Nat) (m : Nat) 0).toArray 38 (0, 0)) from (Below.heap_setCell _ _ _ _ hu).trans ((Below.heap_setCell _ _ _ _ hu).trans hP2))
  have hg3 := ((hg2.put (w1.heap.size + 1) 0 (.int .i64 (ps (2 * m) : Nat)) (by omega)).put (w1.heap.size + 1) 8 (.int .i64 (m : Nat)) (by omega)).drew
  have hz3 : (((w2.setCell ⟨w1.heap.size + 1, 0, none⟩ (.int .i64 (ps (2 * m) : Nat))).setCell ⟨w1.heap.size + 1, 8, none⟩ (.int .i64 (m : Nat))).drew).heap.size = w1.heap.size + 1 + 1 := by
    rw [← hz2]; simp [World.setCell, World.drew]
  generalize ((w2.setCell ⟨w1.heap.size + 1, 0, none⟩ (.int .i64 (ps (2 * m) : Nat))).setCell ⟨w1.heap.size + 1, 8, none⟩ (.int .i64 (m : Nat))).drew = w3 at *
  clear e0 e1 e2 e3 e4 e5 e6 e7 e8 q0 q1 q2 q3 q4 q5 q6 q7 q8 fq hP2 hQ2 hg2 hz2
  have HG3 := Lib.hid (HG1.out.trans (hg3.mono HG1.out.size))
  have HS3 := Lib.hid ((hg3.block _ (by omega) (by simp)).trans HS1.out)
  have HM3 := Lib.hid ((hg3.block _ (by omega) (by simp)).trans HM1.out)
  have HR3 := Lib.hid ((hg3.block _ (by omega) (by simp)).trans HR1.out)
  have HG13 := Lib.hid hg3
  have HRw := HR1
  clear hg3 HS1 HM1 HR1 HG1
  go_wp2_with fail
  have hg4 : G w3.heap.size none w3 ((w3.alloc (.cells #[.bool false] 4)).alloc (.cells #[.bool false] 4)) := ((G.refl _ _ _).alloc _ (Nat.le_refl _)).alloc _ (by simp)
  have hF1 : ((w3.alloc (.cells #[.bool false] 4)).alloc (.cells #[.bool false] 4)).heap[w1.heap.size + 1 + 1]? = some (.cells #[.bool false] 4 (0, 0)) := by
    rw [← hz3]; exact (Below.heap_alloc _ _ _ (by simp)).trans (heap_new w3 _)
  have hF2 : ((w3.alloc (.cells #[.bool false] 4)).alloc (.cells #[.bool false] 4)).heap[w1.heap.size + 1 + 1 + 1]? = some (.cells #[.bool false] 4 (0, 0)) := by
    have h := heap_new (w3.alloc (.cells #[.bool false] 4)) (.cells #[.bool false] 4)
    simp only [World.size_alloc, hz3] at h
    exact h
  have hz4 : ((w3.alloc (.cells #[.bool false] 4)).alloc (.cells #[.bool false] 4)).heap.size = w1.heap.size + 1 + 1 + 1 + 1 := by simp [hz3]
  generalize (w3.alloc (.cells #[.bool false] 4)).alloc (.cells #[.bool false] 4) = w4 at *
  have hNB : NB w4 f B n cap nm w.heap.size (w.heap.size + 1) w1.heap.size (w1.heap.size + 1 + 1) (w1.heap.size + 1 + 1 + 1) (w1.heap.size + 1) _ _ false false :=
    ⟨(hg4.block _ (by omega) (by simp)).trans HS3.out, (hg4.block _ (by omega) (by simp)).trans HM3.out, (hg4.block _ (by omega) (by simp)).trans HP3.out, hF1, hF2, (hg4.block _ (by omega) (by simp)).trans HQ3.out⟩
  have hR4 := (hg4.block _ (by omega) (by simp)).trans HR3.out
  have HG4 := Lib.hid (HG3.out.trans (hg4.mono HG3.out.size))
  obtain ⟨s0, s1⟩ := cells2 hNB.s
  have HNB := Lib.hid hNB
  have HR4 := Lib.hid hR4
  have HG14 := Lib.hid (HG13.out.trans (hg4.mono (by omega)))
  have HB4 := Lib.hid (HB.out.g HG4.out hBlt (by simp))
  clear hg4 hF1 hF2 hNB hR4 HG13 HS3 HM3 HR3 HP3 HQ3 HG3

  have hd : [w.heap.size, (w.heap.size + 1), w1.heap.size, (w1.heap.size + 1 + 1), (w1.heap.size + 1 + 1 + 1), (w1.heap.size + 1)].Pairwise (· ≠ ·) := by simp; omega
  have hB0 : B < w1.heap.size := by omega
  have HE := Lib.hid (fun W5 (h0 : NInv w1 f B n cap L nm a m (2 * m) ps tx w.heap.size (w.heap.size + 1) w1.heap.size (w1.heap.size + 1 + 1) (w1.heap.size + 1 + 1 + 1) (w1.heap.size + 1) 0 W5) (hz : w1.heap.size + 1 + 1 + 1 + 1 ≤ W5.heap.size) => each_any f B n cap L 7 m (2 * m) ps tx 61 #[.pointer (some ⟨w.heap.size, 0, none⟩), .pointer (some ⟨w.heap.size + 1, 0, none⟩), .pointer (some ⟨w1.heap.size, 0, none⟩), .pointer (some ⟨w1.heap.size + 1 + 1, 0, none⟩), .pointer (some ⟨w1.heap.size + 1 + 1 + 1, 0, none⟩), .pointer (some ⟨w1.heap.size + 1, 0, none⟩)] (w1.heap.size + 1 + 1 + 1 + 1) (NInv w1 f B n cap L nm a m (2 * m) ps tx w.heap.size (w.heap.size + 1) w1.heap.size (w1.heap.size + 1 + 1) (w1.heap.size + 1 + 1 + 1) (w1.heap.size + 1)) (NDone w1 f B n cap L nm a m (2 * m) ps tx w.heap.size (w.heap.size + 1) w1.heap.size (w1.heap.size + 1 + 1) (w1.heap.size + 1 + 1 + 1) (w1.heap.size + 1)) W5
    HX.out.1 hn hcap hcap2 (.inl ⟨rfl, rfl⟩) hm HX.out.2 hz (fun _ _ h => h.1) (fun i W W' h g => h.g g) (fun i W hi h => visit61 w1 f B n cap L nm a m (2 * m) ps tx w.heap.size (w.heap.size + 1) w1.heap.size (w1.heap.size + 1 + 1) (w1.heap.size + 1 + 1 + 1) (w1.heap.size + 1) (w1.heap.size + 1 + 1 + 1 + 1) i W HX.out.1 hn hcap hcap2 hm rfl HX.out.2 ⟨by omega, by omega, by omega, by omega⟩ ⟨by omega, by omega, by omega, by omega⟩ hB0 hd hi h) call61 h0)
  clear hd
  go_region_held3 (fun w' => (w'.cell? ⟨w.heap.size, 0, none⟩ = some (.int .i64 f) ∧ w'.cell? ⟨w.heap.size, 1, none⟩ = some (.slice (some ⟨B, 0, none⟩) n cap))) (first | exact ⟨s0, s1⟩ | assumption)
    (first
      | (go_at_call 33; go_loud (refine (HA.out _ (HB4.out.g (R := none) ((G.refl _ _ _).drew) (by have := HB4.out.1; exact this) (by simp))).mono ?_); rintro e w5 ⟨rfl, hg5⟩; have hG5 : G w4.heap.size none w4 w5 := ((G.refl w4.heap.size none w4).drew).trans hg5; have hN5 := HNB.out.g hG5; have hz5 : w1.heap.size + 1 + 1 + 1 + 1 ≤ w5.heap.size := (by rw [← hz4]; exact hG5.size); have hI5 : NInv w1 f B n cap L nm a m (2 * m) ps tx w.heap.size (w.heap.size + 1) w1.heap.size (w1.heap.size + 1 + 1) (w1.heap.size + 1 + 1 + 1) (w1.heap.size + 1) 0 w5 := ⟨HB4.out.g hG5 HB4.out.1 (by simp), HG14.out.trans (hG5.mono (by omega)), fun j h => absurd h (by omega), false, ps (2 * m), m, hN5, .inl ⟨rfl, rfl, rfl, fun j h => absurd h (by omega)⟩⟩; have hS5 := cells2 hN5.s; clear hG5 hg5 hN5)
      | (go_at_call 60; go_loud (refine (HE.out _ (by assumption) (by assumption)).mono ?_); rintro e w6 ⟨i, rfl, h6⟩; have H6 := Lib.hid h6; have hS6 : w6.cell? ⟨w.heap.size, 0, none⟩ = some (.int .i64 f) ∧ w6.cell? ⟨w.heap.size, 1, none⟩ = some (.slice (some ⟨B, 0, none⟩) n cap) := (by rcases h6 with ⟨_, h⟩ | ⟨_, h⟩; exact cells2 (Exists.choose_spec (Exists.choose_spec (Exists.choose_spec h.2.2.2))).1.s; exact cells2 (Exists.choose_spec (Exists.choose_spec (Exists.choose_spec h.2.2).2.2)).s); clear h6))
  all_goals
    clear hI5 hz5 HE
    obtain ⟨s0, s1⟩ := hS6
    clear hS5
    rcases H6.out with ⟨rfl, h⟩ | ⟨hi, h⟩
    · obtain ⟨h1, h2, h3, b2, K, I, h4, h5⟩ := h
      have H := Lib.hid (And.intro h3 h5)
      have HG6 := Lib.hid (HG01.out.trans (h2.mono (by omega)))
      have HR6 := Lib.hid ((h2.block _ l1 (by simp)).trans HRw.out)
      have p1 := cell_heap h4.f1 0
      simp only [List.getElem?_toArray, List.getElem?_cons_zero] at p1
      obtain ⟨q0, q1, q2, q3, q4, q5, q6, q7, q8⟩ := cells9 h4.q
      have fq := fun i => froz_heap h4.q i
      have fr := fun i => froz_heap HR6.out i
      obtain ⟨r0, r1, r2, r3, r4, r5, r6, r7, r8⟩ := cells9 HR6.out
      clear h1 h2 h3 h4 h5 H6 HG14 HNB HR4 HA HB HX HSK HB4 HG4
      go_wp2
      have uq : ¬ w.heap.size + 1 + 1 = w1.heap.size + 1 := by omega
      have HR7 := Lib.hid ((Below.heap_setCell (w6.setCell ⟨w1.heap.size + 1, 1, none⟩ (.int .i64 (K : Nat))) ⟨w1.heap.size + 1, 2, none⟩ (.int .i64 (K : Nat)) _ uq).trans ((Below.heap_setCell w6 ⟨w1.heap.size + 1, 1, none⟩ (.int .i64 (K : Nat)) _ uq).trans HR6.out))
      have HG7 := Lib.hid ((HG6.out.put (w1.heap.size + 1) 1 (.int .i64 (K : Nat)) (by omega)).put (w1.heap.size + 1) 2 (.int .i64 (K : Nat)) (by omega))
      show bodyPost _ _ _ _ _ (set9 ((w6.setCell ⟨w1.heap.size + 1, 1, none⟩ (.int .i64 (K : Nat))).setCell ⟨w1.heap.size + 1, 2, none⟩ (.int .i64 (K : Nat))) (w.heap.size + 1 + 1) _ _ _ _ _ _ _ _ _)
      have hW := set9_heap HR7.out rfl (.int .i64 (K : Nat)) (.int .i64 (K : Nat)) (.int .i64 (K : Nat)) (.int .i64 (a : Nat)) (.int .i64 (ps 0 : Nat)) (.int .i64 (ps (2 * m) : Nat)) (.int .i64 (m : Nat)) (.bool false) (.int .i64 (I : Nat))
      have GW := G.set9 HG7.out (w.heap.size + 1 + 1) (.int .i64 (K : Nat)) (.int .i64 (K : Nat)) (.int .i64 (K : Nat)) (.int .i64 (a : Nat)) (.int .i64 (ps 0 : Nat)) (.int .i64 (ps (2 * m) : Nat)) (.int .i64 (m : Nat)) (.bool false) (.int .i64 (I : Nat)) (by omega)
      generalize set9 ((w6.setCell ⟨w1.heap.size + 1, 1, none⟩ (.int .i64 (K : Nat))).setCell ⟨w1.heap.size + 1, 2, none⟩ (.int .i64 (K : Nat))) (w.heap.size + 1 + 1) (.int .i64 (K : Nat)) (.int .i64 (K : Nat)) (.int .i64 (K : Nat)) (.int .i64 (a : Nat)) (.int .i64 (ps 0 : Nat)) (.int .i64 (ps (2 * m) : Nat)) (.int .i64 (m : Nat)) (.bool false) (.int .i64 (I : Nat)) = W at *
      obtain ⟨x0, x1, x2, x3, x4, x5, x6, x7, x8⟩ := cells9 hW
      exact bodyPost_ret (v := .tuple #[.agg #[.int .i64 (K : Nat), .int .i64 (K : Nat), .int .i64 (K : Nat), .int .i64 (a : Nat), .int .i64 (ps 0 : Nat), .int .i64 (ps (2 * m) : Nat), .int .i64 (m : Nat), .bool false, .int .i64 (I : Nat)], .bool false]) (by simp [results, Tryz.results34, go_sem, x0, x1, x2, x3, x4, x5, x6, x7, x8]) rfl (⟨GW, .inr ⟨fun j hj => H.out.1 j (by omega), K, I, H.out.2.elim (fun h => .inl ⟨h.2.1, h.2.2.1, fun j hj => h.2.2.2 j (by omega)⟩) (fun h => .inr ⟨by omega, h.2.2.1, h.2.2.2.1, h.2.2.2.2⟩), rfl⟩⟩)
    · obtain ⟨h1, h2, j, rfl, htx, b2, cq, hnb⟩ := h
      have H := Lib.hid htx
      have HG6 := Lib.hid (HG01.out.trans (h2.mono (by omega)))
      have HR6 := Lib.hid ((h2.block _ l1 (by simp)).trans HRw.out)
      have p1 := cell_heap hnb.f1 0
      simp only [List.getElem?_toArray, List.getElem?_cons_zero] at p1
      obtain ⟨q0, q1, q2, q3, q4, q5, q6, q7, q8⟩ := cells9 hnb.p
      have HN6 := Lib.hid hnb
      have HK := Lib.hid (HSK.out (2 * j + 1) (by omega) w6 h1)
      clear h1 h2 htx hnb H6 HG14 HNB HR4 HA HB HX HSK HB4 HG4
      go_wp2_with fail
      refine HK.out.mono ?_
      rintro e w7 ⟨rfl, hg7⟩
      have hp7 := (hg7.block _ (lt_heap HN6.out.p) (by simp)).trans HN6.out.p
      have HG7 := Lib.hid (HG6.out.trans (hg7.mono HG6.out.size))
      have HR7 := Lib.hid ((hg7.block _ (lt_heap HR6.out) (by simp)).trans HR6.out)
      clear hg7 q0 q1 q2 q3 q4 q5 q6 q7 q8
      obtain ⟨q0, q1, q2, q3, q4, q5, q6, q7, q8⟩ := cells9 hp7
      have fq := fun i => froz_heap hp7 i
      have fr := fun i => froz_heap HR7.out i
      obtain ⟨r0, r1, r2, r3, r4, r5, r6, r7, r8⟩ := cells9 HR7.out
      clear hp7
      go_wp2
      have HR8 := Lib.hid ((Below.heap_setCell w7 ⟨w1.heap.size, 2, none⟩ (.int .i64 (ps (2 * j + 1 + 1) : Nat)) (w.heap.size + 1 + 1) (by simp; omega)).trans HR7.out)
      have HG8 := Lib.hid (HG7.out.put w1.heap.size 2 (.int .i64 (ps (2 * j + 1 + 1) : Nat)) (by omega))
      show bodyPost _ _ _ _ _ (set9 (w7.setCell ⟨w1.heap.size, 2, none⟩ (.int .i64 (ps (2 * j + 1 + 1) : Nat))) (w.heap.size + 1 + 1) _ _ _ _ _ _ _ _ _)
      have hW := set9_heap HR8.out rfl (.int .i64 (ps (2 * j) : Nat)) (.int .i64 (ps (2 * j + 1) : Nat)) (.int .i64 (ps (2 * j + 1 + 1) : Nat)) (.int .i64 (a : Nat)) (.int .i64 (ps 0 : Nat)) (.int .i64 (ps (2 * m) : Nat)) (.int .i64 (m : Nat)) (.bool false) (.int .i64 (j : Nat))
      have GW := G.set9 HG8.out (w.heap.size + 1 + 1) (.int .i64 (ps (2 * j) : Nat)) (.int .i64 (ps (2 * j + 1) : Nat)) (.int .i64 (ps (2 * j + 1 + 1) : Nat)) (.int .i64 (a : Nat)) (.int .i64 (ps 0 : Nat)) (.int .i64 (ps (2 * m) : Nat)) (.int .i64 (m : Nat)) (.bool false) (.int .i64 (j : Nat)) (by omega)
      generalize set9 (w7.setCell ⟨w1.heap.size, 2, none⟩ (.int .i64 (ps (2 * j + 1 + 1) : Nat))) (w.heap.size + 1 + 1) (.int .i64 (ps (2 * j) : Nat)) (.int .i64 (ps (2 * j + 1) : Nat)) (.int .i64 (ps (2 * j + 1 + 1) : Nat)) (.int .i64 (a : Nat)) (.int .i64 (ps 0 : Nat)) (.int .i64 (ps (2 * m) : Nat)) (.int .i64 (m : Nat)) (.bool false) (.int .i64 (j : Nat)) = W at *
      obtain ⟨x0, x1, x2, x3, x4, x5, x6, x7, x8⟩ := cells9 hW
      exact bodyPost_ret (v := .tuple #[.agg #[.int .i64 (ps (2 * j) : Nat), .int .i64 (ps (2 * j + 1) : Nat), .int .i64 (ps (2 * j + 1 + 1) : Nat), .int .i64 (a : Nat), .int .i64 (ps 0 : Nat), .int .i64 (ps (2 * m) : Nat), .int .i64 (m : Nat), .bool false, .int .i64 (j : Nat)], .bool true]) (by simp [results, Tryz.results34, go_sem, x0, x1, x2, x3, x4, x5, x6, x7, x8]) rfl (⟨GW, .inl ⟨j, by omega, H.out, rfl⟩⟩)
end Go.Proofs.YtcfjiaogdmjlbaaGreat
