/- Walks of name's closure where it turns nothing. -/
import Derived.Test.YtcfjiaogdmjlbaaGreatD6
namespace Go.Proofs.YtcfjiaogdmjlbaaGreat
open Go.RowKit
/-- The blocks that span's name shares with its closure: the scan, the name, the place, found, one above, the slot. -/
structure NB (W : World) (f : Int) (B n cap : Nat) (nm : ByteArray) (S M P F1 F2 Q : Nat) (cp cq : List Value) (b1 b2 : Bool) : Prop where
  s : W.heap[S]? = some (.cells #[.int .i64 f, .slice (some ⟨B, 0, none⟩) n cap] 67 (0, 0))
  m : W.heap[M]? = some (.cells #[.string nm] 9 (0, 0))
  p : W.heap[P]? = some (.cells cp.toArray 38 (0, 0))
  f1 : W.heap[F1]? = some (.cells #[.bool b1] 4 (0, 0))
  f2 : W.heap[F2]? = some (.cells #[.bool b2] 4 (0, 0))
  q : W.heap[Q]? = some (.cells cq.toArray 38 (0, 0))
theorem field5 (k b z m : Int) (s : ByteArray) (w : World) : (Instr.field 78 (tok k b z m s) 5).run Tryz.prog w = .ok (.string s) w := by kernel_rfl
theorem field0 (k b z m : Int) (s : ByteArray) (w : World) : (Instr.field 78 (tok k b z m s) 0).run Tryz.prog w = .ok (.int .i64 k) w := by kernel_rfl
theorem odd_visit (i x : Int) (hi : Int.tmod i 2 = 1) (a b c d e g : Value) (w : World) :
    Calls Tryz.prog 61 #[.int .i64 i, .int .i64 x, a, b, c, d, e, g] w fun e w' => e = .returned (.bool true) ∧ w = w' := by
  have hw : (IntKind.i64.wrap (Int.tmod i 2) != 0) = true := by rw [hi]; decide
  go_enter Tryz.func61, Tryz.ntmps61
  go_wp2
  go_ret
  exact ⟨rfl, rfl⟩
set_option maxRecDepth 20000 in
set_option maxHeartbeats 800000 in
theorem even_else (f : Int) (B n cap : Nat) (L : List UInt8) (j a z : Nat) (tx nm : ByteArray) (S M P F1 F2 Q : Nat) (cp cq : List Value) (b2 : Bool) (w : World) (hL : L.length = n) (hn : n ≤ 1000000) (hcap : n ≤ cap) (hcap2 : cap ≤ 9223372036854775807) (hj : j ≤ 1000)
    (hB : BY w B L) (ht : Tk f L n a 0 0 (z : Nat) 0 tx) (hnb : NB w f B n cap nm S M P F1 F2 Q cp cq false b2) (hne : (tx.toList == nm.toList) = false) (habv : (!b2 && abv f tx nm) = false) :
    Calls Tryz.prog 61 #[.int .i64 ((2 * j : Nat) : Int), .int .i64 (a : Nat), .pointer (some ⟨S, 0, none⟩), .pointer (some ⟨M, 0, none⟩), .pointer (some ⟨P, 0, none⟩), .pointer (some ⟨F1, 0, none⟩), .pointer (some ⟨F2, 0, none⟩), .pointer (some ⟨Q, 0, none⟩)] w
      fun e w' => e = .returned (.bool true) ∧ G w.heap.size none w w' := by
  have hf := ht.fmt
  have hw : (IntKind.i64.wrap (Int.tmod ((2 * j : Nat) : Int) 2) != 0) = false := by
    rw [Int.tmod_eq_emod_of_nonneg (by omega), show ((2 * j : Nat) : Int) % 2 = 0 by omega]; decide
  have HA := Lib.hid (at_any f B n cap L a 0 0 (z : Nat) 0 tx w hL hn hcap hcap2 hB ht)
  obtain ⟨s0, s1⟩ := cells2 hnb.s
  have HNB := Lib.hid hnb
  clear hnb hB ht hL
  go_enter Tryz.func61, Tryz.ntmps61
  go_wp2_with fail
  refine HA.out.mono ?_
  rintro e w1 ⟨rfl, hg1⟩
  have m0 := cell_heap ((hg1.block M (lt_heap HNB.out.m) (by simp)).trans HNB.out.m) 0
  have p1 := cell_heap ((hg1.block F1 (lt_heap HNB.out.f1) (by simp)).trans HNB.out.f1) 0
  have p2 := cell_heap ((hg1.block F2 (lt_heap HNB.out.f2) (by simp)).trans HNB.out.f2) 0
  simp only [List.getElem?_toArray, List.getElem?_cons_zero] at m0 p1 p2
  obtain ⟨s0, s1⟩ := cells2 ((hg1.block S (lt_heap HNB.out.s) (by simp)).trans HNB.out.s)
  have HG1 := Lib.hid hg1; clear hg1
  have hx5 := field5 0 0 (z : Nat) 0 tx
  cases b2 with
  | true =>
    go_wp2
    go_ret
    exact ⟨rfl, HG1.out⟩
  | false =>
    have ha : abv f tx nm = false := by simpa using habv
    clear habv
    go_wp2_with fail
    refine (above_any f hf B n cap tx nm w1).mono ?_
    rw [ha]
    rintro e w2 ⟨rfl, hg2⟩
    have p3 := (hg2.cell (b := F1) (o := 0) (Nat.lt_of_lt_of_le (lt_heap HNB.out.f1) HG1.out.size) (by simp)).trans p1
    have HG2 := Lib.hid (HG1.out.trans (hg2.mono HG1.out.size)); clear hg2
    go_wp2
    go_ret
    exact ⟨rfl, HG2.out⟩
end Go.Proofs.YtcfjiaogdmjlbaaGreat
