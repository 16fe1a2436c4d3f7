/- Walks of name's closure where it turns something. -/
import Derived.Test.YtcfjiaogdmjlbaaGreatD7
namespace Go.Proofs.YtcfjiaogdmjlbaaGreat
open Go.RowKit
set_option maxRecDepth 20000 in
set_option maxHeartbeats 800000 in
theorem even_first (f : Int) (B n cap : Nat) (L : List UInt8) (j a z : Nat) (tx nm : ByteArray) (S M P F1 F2 Q : Nat) (cp : List Value) (q0 q1 q2 q3 q4 q5 q6 q7 q8 : Value) (w : World) (hL : L.length = n) (hn : n ≤ 1000000) (hcap : n ≤ cap) (hcap2 : cap ≤ 9223372036854775807) (hj : j ≤ 1000)
    (hB : BY w B L) (ht : Tk f L n a 0 0 (z : Nat) 0 tx) (hnb : NB w f B n cap nm S M P F1 F2 Q cp [q0, q1, q2, q3, q4, q5, q6, q7, q8] false false) (hne : (tx.toList == nm.toList) = false) (habv : abv f tx nm = true) (hd : F1 ≠ Q ∧ F2 ≠ Q ∧ F1 ≠ F2) :
    Calls Tryz.prog 61 #[.int .i64 ((2 * j : Nat) : Int), .int .i64 (a : Nat), .pointer (some ⟨S, 0, none⟩), .pointer (some ⟨M, 0, none⟩), .pointer (some ⟨P, 0, none⟩), .pointer (some ⟨F1, 0, none⟩), .pointer (some ⟨F2, 0, none⟩), .pointer (some ⟨Q, 0, none⟩)] w
      fun e w' => e = .returned (.bool true) ∧ ∃ w2, G w.heap.size none w w2 ∧ w' = ((w2.setCell ⟨Q, 0, none⟩ (.int .i64 (a : Nat))).setCell ⟨Q, 8, none⟩ (.int .i64 (j : Nat))).setCell ⟨F2, 0, none⟩ (.bool true) := by
  have hf := ht.fmt
  have hw : (IntKind.i64.wrap (Int.tmod ((2 * j : Nat) : Int) 2) != 0) = false := by
    rw [Int.tmod_eq_emod_of_nonneg (by omega), show ((2 * j : Nat) : Int) % 2 = 0 by omega]; decide
  have HA := Lib.hid (at_any f B n cap L a 0 0 (z : Nat) 0 tx w hL hn hcap hcap2 hB ht)
  obtain ⟨s0, s1⟩ := cells2 hnb.s
  obtain ⟨d1, d2, d3⟩ := hd
  have HNB := Lib.hid hnb
  clear hnb hB ht hL
  go_enter Tryz.func61, Tryz.ntmps61
  go_wp2_with fail
  refine HA.out.mono ?_
  rintro e w1 ⟨rfl, hg1⟩
  have m0 := cell_heap ((hg1.block M (lt_heap HNB.out.m) (by simp)).trans HNB.out.m) 0
  have p1 := cell_heap ((hg1.block F1 (lt_heap HNB.out.f1) (by simp)).trans HNB.out.f1) 0
  have p2 := cell_heap ((hg1.block F2 (lt_heap HNB.out.f2) (by simp)).trans HNB.out.f2) 0
  simp only [List.getElem?_toArray, List.getElem?_cons_zero] at m0 p1 p2
  obtain ⟨s0, s1⟩ := cells2 ((hg1.block S (lt_heap HNB.out.s) (by simp)).trans HNB.out.s)
  have HG1 := Lib.hid hg1; clear hg1
  have hx5 := field5 0 0 (z : Nat) 0 tx
  go_wp2_with fail
  refine (above_any f hf B n cap tx nm w1).mono ?_
  rw [habv]
  rintro e w2 ⟨rfl, hg2⟩
  have HG2 := Lib.hid (HG1.out.trans (hg2.mono HG1.out.size)); clear hg2
  have k1 := (HG2.out.block F1 (lt_heap HNB.out.f1) (by simp)).trans HNB.out.f1
  have k2 := (HG2.out.block F2 (lt_heap HNB.out.f2) (by simp)).trans HNB.out.f2
  have k3 := (HG2.out.block Q (lt_heap HNB.out.q) (by simp)).trans HNB.out.q
  have c1 := cell_heap k1 0
  have c2 := cell_heap k2 0
  simp only [List.getElem?_toArray, List.getElem?_cons_zero] at c1 c2
  obtain ⟨x0, x1, x2, x3, x4, x5, x6, x7, x8⟩ := cells9 k3
  have z1 := fun i => froz_heap k1 i
  have z2 := fun i => froz_heap k2 i
  have z3 := fun i => froz_heap k3 i
  clear k1 k2 k3
  go_wp2
  go_ret
  exact ⟨rfl, w2, HG2.out, rfl⟩
set_option maxRecDepth 20000 in
set_option maxHeartbeats 800000 in
theorem even_equal (f : Int) (B n cap : Nat) (L : List UInt8) (j a z : Nat) (tx nm : ByteArray) (S M P F1 F2 Q : Nat) (cq : List Value) (b2 : Bool) (q0 q1 q2 q3 q4 q5 q6 q7 q8 : Value) (w : World) (hL : L.length = n) (hn : n ≤ 1000000) (hcap : n ≤ cap) (hcap2 : cap ≤ 9223372036854775807) (hj : j ≤ 1000)
    (hB : BY w B L) (ht : Tk f L n a 0 0 (z : Nat) 0 tx) (hnb : NB w f B n cap nm S M P F1 F2 Q [q0, q1, q2, q3, q4, q5, q6, q7, q8] cq false b2) (hne : (tx.toList == nm.toList) = true) (hd : F1 ≠ P) :
    Calls Tryz.prog 61 #[.int .i64 ((2 * j : Nat) : Int), .int .i64 (a : Nat), .pointer (some ⟨S, 0, none⟩), .pointer (some ⟨M, 0, none⟩), .pointer (some ⟨P, 0, none⟩), .pointer (some ⟨F1, 0, none⟩), .pointer (some ⟨F2, 0, none⟩), .pointer (some ⟨Q, 0, none⟩)] w
      fun e w' => e = .returned (.bool false) ∧ ∃ w2, G w.heap.size none w w2 ∧ w' = (((w2.setCell ⟨P, 0, none⟩ (.int .i64 (a : Nat))).setCell ⟨P, 1, none⟩ (.int .i64 (z : Nat))).setCell ⟨P, 8, none⟩ (.int .i64 (j : Nat))).setCell ⟨F1, 0, none⟩ (.bool true) := by
  have hf := ht.fmt
  have hw : (IntKind.i64.wrap (Int.tmod ((2 * j : Nat) : Int) 2) != 0) = false := by
    rw [Int.tmod_eq_emod_of_nonneg (by omega), show ((2 * j : Nat) : Int) % 2 = 0 by omega]; decide
  have HA := Lib.hid (at_any f B n cap L a 0 0 (z : Nat) 0 tx w hL hn hcap hcap2 hB ht)
  obtain ⟨s0, s1⟩ := cells2 hnb.s
  have HK := Lib.hid (fun W h => skip_leaf f B n cap L a (z : Nat) tx W hL hn hcap hcap2 h ht)
  have HB := Lib.hid hB
  have hBlt := hB.1
  have HNB := Lib.hid hnb
  clear hnb hB ht hL
  go_enter Tryz.func61, Tryz.ntmps61
  go_wp2_with fail
  refine HA.out.mono ?_
  rintro e w1 ⟨rfl, hg1⟩
  have m0 := cell_heap ((hg1.block M (lt_heap HNB.out.m) (by simp)).trans HNB.out.m) 0
  have p1 := cell_heap ((hg1.block F1 (lt_heap HNB.out.f1) (by simp)).trans HNB.out.f1) 0
  have p2 := cell_heap ((hg1.block F2 (lt_heap HNB.out.f2) (by simp)).trans HNB.out.f2) 0
  simp only [List.getElem?_toArray, List.getElem?_cons_zero] at m0 p1 p2
  obtain ⟨s0, s1⟩ := cells2 ((hg1.block S (lt_heap HNB.out.s) (by simp)).trans HNB.out.s)
  have HG1 := Lib.hid hg1; clear hg1
  have hx5 := field5 0 0 (z : Nat) 0 tx
  go_wp2_with fail
  refine (HK.out w1 (HB.out.g HG1.out hBlt (by simp))).mono ?_
  rintro e w2 ⟨rfl, hg2⟩
  have HG2 := Lib.hid (HG1.out.trans (hg2.mono HG1.out.size)); clear hg2
  have k1 := (HG2.out.block F1 (lt_heap HNB.out.f1) (by simp)).trans HNB.out.f1
  have k2 := (HG2.out.block F2 (lt_heap HNB.out.f2) (by simp)).trans HNB.out.f2
  have k3 := (HG2.out.block P (lt_heap HNB.out.p) (by simp)).trans HNB.out.p
  have c1 := cell_heap k1 0
  have c2 := cell_heap k2 0
  simp only [List.getElem?_toArray, List.getElem?_cons_zero] at c1 c2
  obtain ⟨x0, x1, x2, x3, x4, x5, x6, x7, x8⟩ := cells9 k3
  have z1 := fun i => froz_heap k1 i
  have z2 := fun i => froz_heap k2 i
  have z3 := fun i => froz_heap k3 i
  clear k1 k2 k3
  go_wp2
  go_ret
  exact ⟨rfl, w2, HG2.out, rfl⟩
end Go.Proofs.YtcfjiaogdmjlbaaGreat
