/- Walks of the CBOR reader's small functions, at the bytes that these statements meet. -/
import Derived.Test.YtcfjiaogdmjlbaaGreatA0
import Derived.Deep.LoopGhost
import Derived.WalkMore
import Derived.Laws.RangeString
namespace Go.Proofs.YtcfjiaogdmjlbaaGreat
open Go.RowKit
theorem must_ok (e : Int) (w : World) :
    Calls Tryz.prog 293 #[.bool true, .int .i64 e] w fun e w' => e = .returned (.tuple #[]) ∧ w' = w := by
  go_enter Tryz.func293, Tryz.ntmps293
  go_wp2
  go_end0
  exact ⟨rfl, rfl⟩
theorem size_small (i : Int) (h : 0 ≤ i ∧ i < 24) (w : World) :
    Calls Tryz.prog 115 #[.int .i64 i] w fun e w' => e = .returned (.int .i64 0) ∧ w' = w := by
  have h1 : (i == 27) = false := by rw [beq_eq_false_iff_ne]; omega
  have h2 : (i == 26) = false := by rw [beq_eq_false_iff_ne]; omega
  have h3 : (i == 25) = false := by rw [beq_eq_false_iff_ne]; omega
  have h4 : (i == 24) = false := by rw [beq_eq_false_iff_ne]; omega
  go_enter Tryz.func115, Tryz.ntmps115
  go_wp2
  go_ret
  exact ⟨rfl, rfl⟩
set_option maxHeartbeats 400000 in
theorem first_ok (R B n cap : Nat) (at_ : Int) (nd c : Int) (w : World) (h0 : 0 ≤ at_) (h1 : at_ < n) (hn : n ≤ 1000000) (hc : 0 ≤ c ∧ c < 256)
    (hr : Rdr 330 w R B n cap at_ nd) (hb : w.cell? ⟨B, at_.toNat, none⟩ = some (.int .u8 c)) :
    Calls Tryz.prog 295 #[.pointer (some ⟨R, 0, none⟩)] w fun e w' => e = .returned (.tuple #[.int .i64 (c / 32), .int .i64 (c % 32)]) ∧ ∃ k, w' = w.drewN k := by
  have r0 := hr.c0
  have r1 := hr.c1
  clear hr
  go_enter Tryz.func295, Tryz.ntmps295
  go_wp2
  go_quiet ((go_at_call 293; exact Calls.quiet_of_same (must_ok _ _)))
  go_wp2
  go_quiet (fail)
  go_wp2
  go_ret2
  exact ⟨rfl, _, World.drewN_drewN ..⟩
set_option maxHeartbeats 400000 in
theorem cget_small (B n cap : Nat) (at_ : Int) (c : Int) (w : World) (h0 : 0 ≤ at_) (h1 : at_ < n) (hn : n ≤ 1000000) (hcap : n ≤ cap) (hcap2 : cap ≤ 9223372036854775807) (hc : 0 ≤ c ∧ c < 256) (hi : c % 32 < 24)
    (hb : w.cell? ⟨B, at_.toNat, none⟩ = some (.int .u8 c)) :
    Calls Tryz.prog 85 #[.slice (some ⟨B, 0, none⟩) n cap, .int .i64 at_] w fun e w' => e = .returned (.tuple #[.int .i64 (c / 32), .int .i64 (c % 32), .int .u64 (c % 32), .int .i64 (at_ + 1), .int .i64 0]) ∧ ∃ k, w' = w.drewN k := by
  have e1 : (at_ == (n : Int)) = false := by rw [beq_eq_false_iff_ne]; omega
  have e2 : ¬ (c % 32 > 27) := by omega
  have e2' : decide (c % 32 > 27) = false := by simpa using e2
  have e3 : ((n : Int) - at_ - 1 < 0) = False := by simp; omega
  go_enter Tryz.func85, Tryz.ntmps85
  go_wp2
  go_quiet (fail)
  go_wp2_with (go_at_call 115; refine (size_small _ (by omega) _).mono ?_; rintro e w' ⟨rfl, rfl⟩)
  all_goals
    refine wp_loop_once ?_
    go_wp2
    refine bodyPost_ret (v := .tuple #[.int .i64 (c / 32), .int .i64 (c % 32), .int .u64 (c % 32), .int .i64 (at_ + 1), .int .i64 0]) (by simp [results, Tryz.results85, go_sem]) rfl ⟨rfl, _, rfl⟩
set_option maxHeartbeats 400000 in
theorem utf_ascii (s : ByteArray) (hs : ∀ i (h : i < s.size), (s[i]'h).toNat < 128) (hn : s.size ≤ 1000000) (w : World) :
    Calls Tryz.prog 314 #[.string s] w fun e w' => e = .returned (.bool true) ∧ G w.heap.size none w w' := by
  go_enter Tryz.func314, Tryz.ntmps314
  go_wp2
  go_step3
  go_wp2
  go_step3
  go_wp2
  go_loopg [] s.size (fun k wr => k ≤ s.size ∧ wr = w.iter s (s.size - k))
  case atStart => exact ⟨Nat.le_refl _, by simp⟩
  case round =>
    obtain ⟨hk, rfl⟩ := hrel
    by_cases h0 : gk = 0
    · subst h0
      have hx := fun ty => run_next_end (P := Tryz.prog) w s (s.size - 0) ty (by omega)
      simp only [Nat.sub_zero] at hx ⊢
      go_wp2
      rw [Exit.noGoto_ret]
      go_ret
      exact ⟨rfl, (G.refl _ _ _).alloc _ (Nat.le_refl _)⟩
    · have hlt : s.size - gk < s.size := by omega
      have hx := fun ty => run_next_ascii (P := Tryz.prog) w s (s.size - gk) ty hlt (hs _ hlt)
      have h3 : ((((s[s.size - gk]'hlt).toNat : Int)) != 65533) = true := by rw [bne_iff_ne]; have := hs _ hlt; omega
      generalize hy : (((s[s.size - gk]'hlt).toNat : Int)) = y at hx h3
      clear hy
      go_wp2
      go_roundg (gk - 1)
      case measure => omega
      case rel => exact ⟨by omega, by congr 1; omega⟩
end Go.Proofs.YtcfjiaogdmjlbaaGreat
