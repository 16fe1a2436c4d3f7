/- The reference's CBOR encoder over an object of nulls; heads and Unrep of Pack. -/
import Derived.Test.YtcfjiaogdmjlbaaGreatF6
namespace Go.Proofs.YtcfjiaogdmjlbaaGreat
open Go.RowKit
/-- An encoder's answer: a row of its own that holds these bytes, and no error. -/
def EOut (w : World) (L : List UInt8) (e : Ending) (w' : World) : Prop :=
  ∃ A c, e = .returned (.tuple #[.slice A L.length c, .int .i64 0]) ∧ w'.ownsRow w.heap.size 5 1 (.slice A L.length c) L.length (bv L) ∧ G w.heap.size none w w'
set_option maxRecDepth 20000 in
set_option maxHeartbeats 1000000 in
theorem enc_cbor (A AV : Option Addr) (n c cv : Nat) (ks : List ByteArray) (w : World) (h : SR w A n c ks) (hv : NV w AV n cv) (hn : n < 24) (hi : Inc ks) :
    Calls Tryz.prog 24 #[tre 7 (.slice A n c) (.slice AV n cv)] w (EOut w (UInt8.ofNat (160 + n) :: body 96 246 (inO ks (ordF ks n)))) := by
  have ga : G w.heap.size none w (w.alloc (treO 7 (.slice A n c) (.slice AV n cv))) := (G.refl _ _ _).alloc _ (Nat.le_refl _)
  have HC := Lib.hid (check_obj A AV n c cv ks _ (h.g ga rfl) (hv.g ga) (by omega) hi)
  have HP := Lib.hid (fun W g => put_obj A AV n c cv ks W (h.g (R := none) g rfl) (hv.g g) hn hi)
  have hL : (UInt8.ofNat (160 + n) :: body 96 246 (inO ks (ordF ks n))).length ≤ 32768 := by
    have := body_le 96 246 (inO ks (ordF ks n)) (fun k hk => (inO_asc hi.1 (fun x hx => by rw [h.len]; exact ordF_mem ks n x hx) k hk).1)
    rw [inO_len, ordF_len] at this
    simp only [List.length_cons]; omega
  generalize UInt8.ofNat (160 + n) :: body 96 246 (inO ks (ordF ks n)) = L at *
  have hq : decide (32768 < L.length) = false := by simp; omega
  have hq2 : decide ((32768 : Int) < (L.length : Int)) = false := by simp; omega
  clear h hv hi ga
  go_enter Tryz.func24, Tryz.ntmps24
  go_wp2_with fail
  refine HC.out.mono ?_
  rintro e w1 ⟨rfl, hg1⟩
  have hT := hg1.newest (by simp)
  have HG := Lib.hid hg1.past
  have hlt := lt_heap hT
  obtain ⟨c0, c1, c2, c3, c4, c5, c6, c7⟩ := cells8' hT
  clear hg1 hT
  go_wp2_with fail
  refine (HP.out w1 HG.out).mono ?_
  rintro e w2 ⟨A2, c2', rfl, hO, hg2⟩
  have HO := Lib.hid (own_mono hO HG.out.size)
  have HG2 := Lib.hid (HG.out.trans (hg2.mono HG.out.size))
  clear hO hg2 c0 c1 c2 c3 c4 c5 c6 c7
  go_wp2
  go_ret2
  exact ⟨A2, c2', rfl, HO.out, HG2.out⟩
set_option maxRecDepth 20000 in
theorem mput1 (w : World) : Calls Tryz.prog 77 #[.int .i64 1, .int .u64 0] w (BOut w [192]) := by
  go_enter Tryz.func77, Tryz.ntmps77
  go_wp2
  go_ret
  exact ⟨_, 1, rfl, own_one w 192, (G.refl _ _ _).alloc _ (Nat.le_refl _)⟩
theorem and_low (n : Nat) (hn : n < 24) : bits BinOp.and .u64 (n : Int) 4294967295 = (n : Int) := by
  have h : ∀ n : Fin 24, bits BinOp.and .u64 ((n.val : Nat) : Int) 4294967295 = ((n.val : Nat) : Int) := by decide +kernel
  exact h ⟨n, hn⟩
set_option maxRecDepth 100000 in
set_option maxHeartbeats 1000000 in
theorem mput7 (n : Nat) (hn : n < 24) (w : World) : Calls Tryz.prog 77 #[.int .i64 7, .int .u64 (n : Nat)] w (BOut w [UInt8.ofNat (160 + n)]) := by
  have ha := and_low n hn
  have h0 : (0 : Int) ≤ (n : Int) := by omega
  have h1 : (n : Int) < 24 := by omega
  have h2 : (n : Int) < 32 := by omega
  go_enter Tryz.func77, Tryz.ntmps77
  go_wp2
  go_ret
  exact head_ret (by omega) (by omega)
set_option maxRecDepth 100000 in
set_option maxHeartbeats 1000000 in
theorem mput10 (n : Nat) (hn : n < 16) (w : World) : Calls Tryz.prog 77 #[.int .i64 10, .int .u64 (n : Nat)] w (BOut w [UInt8.ofNat (128 + n)]) := by
  have ha := and_low n (by omega)
  have h0 : (0 : Int) ≤ (n : Int) := by omega
  have h1 : (n : Int) < 16 := by omega
  go_enter Tryz.func77, Tryz.ntmps77
  go_wp2
  go_ret
  exact head_ret (by omega) (by omega)
set_option maxRecDepth 20000 in
set_option maxHeartbeats 1000000 in
theorem unrep_null (w : World) : Calls Tryz.prog 50 #[tre 1 (.slice none 0 0) (.slice none 0 0)] w fun e w' => e = .returned (.bool false) ∧ G w.heap.size none w w' := by
  go_enter Tryz.func50, Tryz.ntmps50
  go_wp2_with fail
  refine wp_loop_once ?_
  go_wp2
  go_ret
  exact ⟨rfl, (G.refl _ _ _).alloc _ (Nat.le_refl _)⟩
set_option maxRecDepth 20000 in
set_option maxHeartbeats 1000000 in
theorem unrep_obj (vK : Value) (AV : Option Addr) (n cv : Nat) (w : World) (hv : NV w AV n cv) (hn : n ≤ 300) :
    Calls Tryz.prog 50 #[tre 7 vK (.slice AV n cv)] w fun e w' => e = .returned (.bool false) ∧ G w.heap.size none w w' := by
  have HV := Lib.hid hv
  have hle := hv.le
  have hcap := hv.cap
  have HT0 := Lib.hid (heap_new w (treO 7 vK (.slice AV n cv)))
  clear hv
  go_enter Tryz.func50, Tryz.ntmps50
  go_wp2_with fail
  go_loopg [3] n (fun k vI wr => ∃ j : Nat, j ≤ n ∧ k = n - j ∧ vI = .int .i64 (j : Nat) ∧ wr.heap[w.heap.size]? = some (treO 7 vK (.slice AV n cv)) ∧ G w.heap.size none w wr)
  case atStart => exact ⟨0, Nat.zero_le _, rfl, rfl, HT0.out, (G.refl _ _ _).alloc _ (Nat.le_refl _)⟩
  case round =>
    obtain ⟨j, hj, hk, rfl, hT, hg⟩ := hrel
    obtain ⟨c0, c1, c2, c3, c4, c5, c6, c7⟩ := cells8' hT
    have HG := Lib.hid hg; clear hg
    have HT := Lib.hid hT; clear hT
    have HK := Lib.hid hk; clear hk
    by_cases hlt : j < n
    · obtain ⟨B, off, rfl, hB, hc⟩ := HV.out.cells (by omega)
      have e8 : ∀ q u, [Value.int .i64 1, .bool false, .bool false, .slice none 0 0, .int .i64 0, .string ⟨#[]⟩, .slice none 0 0, .slice none 0 0][q]? = some u → wr.cell? ⟨B, off + j * 8 + q, none⟩ = some u := fun q u hu => (HG.out.cell hB (by simp)).trans (hc j hlt q u hu)
      have x0 : wr.cell? ⟨B, off + j * 8, none⟩ = some _ := e8 0 _ rfl
      have x1 := e8 1 _ rfl
      have x2 := e8 2 _ rfl
      have x3 := e8 3 _ rfl
      have x4 := e8 4 _ rfl
      have x5 := e8 5 _ rfl
      have x6 := e8 6 _ rfl
      have x7 := e8 7 _ rfl
      clear hc e8
      go_wp2_with fail
      refine (unrep_null wr).mono ?_
      rintro e w2 ⟨rfl, hg2⟩
      have HG2 := Lib.hid (HG.out.trans (hg2.mono HG.out.size))
      have HT2 := Lib.hid ((hg2.block _ (lt_heap HT.out) (by simp)).trans HT.out)
      clear hg2 x0 x1 x2 x3 x4 x5 x6 x7 c0 c1 c2 c3 c4 c5 c6 c7
      go_wp2
      go_roundg (n - (j + 1))
      case measure => have := HK.out; omega
      case rel => exact ⟨j + 1, hlt, rfl, by simp, HT2.out, HG2.out⟩
    · obtain rfl : j = n := by omega
      go_wp2
      go_ret
      exact ⟨rfl, HG.out⟩
set_option maxRecDepth 20000 in
theorem mput_null (w : World) : Calls Tryz.prog 51 #[tre 1 (.slice none 0 0) (.slice none 0 0)] w (BOut w [192]) := by
  have HM := Lib.hid (mput1 (w.alloc (treO 1 (.slice none 0 0) (.slice none 0 0))))
  go_enter Tryz.func51, Tryz.ntmps51
  go_wp2_with (go_at_call 77; refine HM.out.mono ?_; rintro e w1 ⟨A, c, rfl, hO, hg⟩; have HO := Lib.hid hO; have HG := Lib.hid hg; clear hO hg)
  go_ret
  exact ⟨A, c, rfl, own_mono HO.out (by simp), HG.out.past⟩
end Go.Proofs.YtcfjiaogdmjlbaaGreat
