/- The walk of span's each, over elements that are texts or values of one byte. -/
import Derived.Test.YtcfjiaogdmjlbaaGreatD2
namespace Go.Proofs.YtcfjiaogdmjlbaaGreat
open Go.RowKit
/-- Elements one behind the other: N of them, each a text or a value of one byte. -/
def Row (f : Int) (L : List UInt8) (n : Nat) (ps : Nat → Nat) (tx : Nat → ByteArray) (N : Nat) : Prop := ∀ i, i < N → Tk f L n (ps i) 0 0 ((ps (i + 1) : Nat) : Int) 0 (tx i)
/-- The loop of each: what holds at a round's head. -/
def ERel (w : World) (f : Int) (B n cap : Nat) (kd b : Int) (m : Nat) (ps : Nat → Nat) (N : Nat) (Inv : Nat → World → Prop) (k : Nat) (vX vI : Value) (wr : World) : Prop :=
  ∃ i : Nat, i ≤ N ∧ k = N - i ∧ vX = .int .i64 (ps i : Nat) ∧ vI = .int .i64 (i : Nat) ∧ w.heap.size + 2 ≤ wr.heap.size ∧
    wr.heap[w.heap.size]? = some (.cells #[.int .i64 f, .slice (some ⟨B, 0, none⟩) n cap] 67 (0, 0)) ∧
    wr.heap[w.heap.size + 1]? = some (.cells #[.int .i64 kd, .int .i64 b, .int .i64 0, .int .i64 (m : Nat), .bool false, .string ⟨#[]⟩] 78 (0, 0)) ∧ Inv i wr
set_option maxRecDepth 20000 in
set_option maxHeartbeats 1600000 in
theorem each_any (f : Int) (B n cap : Nat) (L : List UInt8) (kd : Int) (m N : Nat) (ps : Nat → Nat) (tx : Nat → ByteArray) (F : FuncId) (caps : Array Value) (B1 : Nat) (Inv Done : Nat → World → Prop) (w : World)
    (hL : L.length = n) (hn : n ≤ 1000000) (hcap : n ≤ cap) (hcap2 : cap ≤ 9223372036854775807) (hkd : (kd = 7 ∧ N = 2 * m) ∨ (kd = 6 ∧ N = m)) (hm : m ≤ 1000) (hrow : Row f L n ps tx N) (hB1 : B1 ≤ w.heap.size)
    (hby : ∀ i W, Inv i W → BY W B L) (hst : ∀ i W W', Inv i W → G W.heap.size none W W' → Inv i W')
    (hv : ∀ i W, i < N → Inv i W → Calls Tryz.prog F (#[.int .i64 (i : Nat), .int .i64 (ps i : Nat)] ++ caps) W fun e w' => ∃ c, e = .returned (.bool c) ∧ W.heap.size ≤ w'.heap.size ∧ (∀ k, B1 ≤ k → k < W.heap.size → w'.heap[k]? = W.heap[k]?) ∧ (if c then Inv (i + 1) w' else Done i w'))
    (hcf : ∀ (args : Array Value) (W : World), (callFunc F args).run Tryz.prog W = .ok (.enter F args) W) (h0 : Inv 0 w) :
    Calls Tryz.prog 60 #[scan f B n cap, tok kd (ps 0 : Nat) 0 (m : Nat) ⟨#[]⟩, .func (.func F) #[] caps] w fun e w' => ∃ i : Nat, e = .returned (.tuple #[.int .i64 (ps i : Nat), .int .i64 (i : Nat)]) ∧ ((i = N ∧ Inv N w') ∨ (i < N ∧ Done i w')) := by
  have HL := Lib.hid hL; clear hL
  have HR := Lib.hid hrow; clear hrow
  have HB := Lib.hid hby; clear hby
  have HS := Lib.hid hst; clear hst
  have HV := Lib.hid hv; clear hv
  have H0 := Lib.hid h0; clear h0
  go_enter Tryz.func60, Tryz.ntmps60
  rcases hkd with ⟨rfl, hN⟩ | ⟨rfl, hN⟩
  · go_wp2
    go_step3
    go_wp2
    go_step3
    go_wp2
    rw [show (m : Int) * 2 = ((N : Nat) : Int) by omega]
    have hNs : N ≤ 2000 := by omega
    clear hN
    go_loopg [8, 9] N (fun k vX vI wr => ERel w f B n cap 7 (ps 0 : Nat) m ps N Inv k vX vI wr)
    case atStart =>
      refine ⟨0, by omega, by omega, rfl, rfl, by simp, ?_, ?_, HS.out 0 _ _ H0.out (((G.refl _ _ _).alloc _ (Nat.le_refl _)).alloc _ (by simp))⟩
      · exact (Below.heap_alloc _ _ _ (by simp)).trans (heap_new w _)
      · have h := heap_new (w.alloc (.cells #[.int .i64 f, .slice (some ⟨B, 0, none⟩) n cap] 67)) (.cells #[.int .i64 7, .int .i64 (ps 0 : Nat), .int .i64 0, .int .i64 (m : Nat), .bool false, .string ⟨#[]⟩] 78)
        simpa using h
    case round =>
      clear H0
      obtain ⟨i, hi, hk, rfl, rfl, hsz, hA, hT, hI⟩ := hrel
      obtain ⟨a0, a1⟩ := cells2 hA
      obtain ⟨t0, t1, t2, t3, t4, t5⟩ := cells6 hT
      have HA := Lib.hid hA; clear hA
      have HT := Lib.hid hT; clear hT
      have HI := Lib.hid hI; clear hI
      have HK := Lib.hid hk; clear hk
      by_cases hlt : i < N
      · have HC := Lib.hid (HV.out i wr hlt HI.out)
        have HW := Lib.hid (HR.out i hlt)
        go_wp2_with fail
        refine HC.out.mono ?_
        rintro e w1 ⟨c, rfl, hs1, hf1, hc1⟩
        have hA1 := (hf1 w.heap.size (by omega) (by omega)).trans HA.out
        have hT1 := (hf1 (w.heap.size + 1) (by omega) (by omega)).trans HT.out
        obtain ⟨a0, a1⟩ := cells2 hA1
        cases c with
        | false =>
          have hD := Lib.hid (show Done i w1 by simpa using hc1); clear hc1
          go_wp2
          rw [Exit.noGoto_ret]
          go_ret2
          exact ⟨i, rfl, .inr ⟨hlt, hD.out⟩⟩
        | true =>
          have HI1 := Lib.hid (show Inv (i + 1) w1 by simpa using hc1); clear hc1
          have HA1 := Lib.hid hA1; clear hA1
          have HT1 := Lib.hid hT1; clear hT1
          have HK1 := Lib.hid (skip_leaf f B n cap L (ps i) _ (tx i) w1 HL.out hn hcap hcap2 (HB.out _ _ HI1.out) HW.out)
          go_wp2_with (go_at_call 41; refine HK1.out.mono ?_; rintro e w2 ⟨rfl, hg2⟩)
          go_roundg (N - (i + 1))
          case measure => have := HK.out; omega
          case rel =>
            exact ⟨i + 1, by omega, rfl, rfl, by simp, Nat.le_trans (Nat.le_trans hsz hs1) hg2.size, (hg2.block _ (by omega) (by simp)).trans HA1.out, (hg2.block _ (by omega) (by simp)).trans HT1.out, HS.out _ _ _ HI1.out hg2⟩
      · obtain rfl : i = N := by omega
        go_wp2
        rw [Exit.noGoto_ret]
        go_ret2
        exact ⟨i, rfl, .inl ⟨rfl, HI.out⟩⟩
  · subst hN
    go_wp2
    go_step3
    go_wp2
    go_step3
    go_wp2
    go_loopg [8, 9] N (fun k vX vI wr => ERel w f B n cap 6 (ps 0 : Nat) N ps N Inv k vX vI wr)
    case atStart =>
      refine ⟨0, by omega, by omega, rfl, rfl, by simp, ?_, ?_, HS.out 0 _ _ H0.out (((G.refl _ _ _).alloc _ (Nat.le_refl _)).alloc _ (by simp))⟩
      · exact (Below.heap_alloc _ _ _ (by simp)).trans (heap_new w _)
      · have h := heap_new (w.alloc (.cells #[.int .i64 f, .slice (some ⟨B, 0, none⟩) n cap] 67)) (.cells #[.int .i64 6, .int .i64 (ps 0 : Nat), .int .i64 0, .int .i64 (N : Nat), .bool false, .string ⟨#[]⟩] 78)
        simpa using h
    case round =>
      clear H0
      obtain ⟨i, hi, hk, rfl, rfl, hsz, hA, hT, hI⟩ := hrel
      obtain ⟨a0, a1⟩ := cells2 hA
      obtain ⟨t0, t1, t2, t3, t4, t5⟩ := cells6 hT
      have HA := Lib.hid hA; clear hA
      have HT := Lib.hid hT; clear hT
      have HI := Lib.hid hI; clear hI
      have HK := Lib.hid hk; clear hk
      by_cases hlt : i < N
      · have HC := Lib.hid (HV.out i wr hlt HI.out)
        have HW := Lib.hid (HR.out i hlt)
        go_wp2_with fail
        refine HC.out.mono ?_
        rintro e w1 ⟨c, rfl, hs1, hf1, hc1⟩
        have hA1 := (hf1 w.heap.size (by omega) (by omega)).trans HA.out
        have hT1 := (hf1 (w.heap.size + 1) (by omega) (by omega)).trans HT.out
        obtain ⟨a0, a1⟩ := cells2 hA1
        cases c with
        | false =>
          have hD := Lib.hid (show Done i w1 by simpa using hc1); clear hc1
          go_wp2
          rw [Exit.noGoto_ret]
          go_ret2
          exact ⟨i, rfl, .inr ⟨hlt, hD.out⟩⟩
        | true =>
          have HI1 := Lib.hid (show Inv (i + 1) w1 by simpa using hc1); clear hc1
          have HA1 := Lib.hid hA1; clear hA1
          have HT1 := Lib.hid hT1; clear hT1
          have HK1 := Lib.hid (skip_leaf f B n cap L (ps i) _ (tx i) w1 HL.out hn hcap hcap2 (HB.out _ _ HI1.out) HW.out)
          go_wp2_with (go_at_call 41; refine HK1.out.mono ?_; rintro e w2 ⟨rfl, hg2⟩)
          go_roundg (N - (i + 1))
          case measure => have := HK.out; omega
          case rel =>
            exact ⟨i + 1, by omega, rfl, rfl, by simp, Nat.le_trans (Nat.le_trans hsz hs1) hg2.size, (hg2.block _ (by omega) (by simp)).trans HA1.out, (hg2.block _ (by omega) (by simp)).trans HT1.out, HS.out _ _ _ HI1.out hg2⟩
      · obtain rfl : i = N := by omega
        go_wp2
        rw [Exit.noGoto_ret]
        go_ret2
        exact ⟨i, rfl, .inl ⟨rfl, HI.out⟩⟩
end Go.Proofs.YtcfjiaogdmjlbaaGreat
