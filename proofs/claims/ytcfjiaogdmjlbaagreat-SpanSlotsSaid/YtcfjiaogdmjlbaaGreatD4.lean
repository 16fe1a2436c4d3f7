/- The walk of span's inside, over such elements. -/
import Derived.Test.YtcfjiaogdmjlbaaGreatD3
namespace Go.Proofs.YtcfjiaogdmjlbaaGreat
open Go.RowKit
theorem call63 (args : Array Value) (W : World) : (callFunc 63 args).run Tryz.prog W = .ok (.enter 63 args) W := by kernel_rfl
theorem call61 (args : Array Value) (W : World) : (callFunc 61 args).run Tryz.prog W = .ok (.enter 61 args) W := by kernel_rfl
theorem call88 (args : Array Value) (W : World) : (callFunc 88 args).run Tryz.prog W = .ok (.enter 88 args) W := by kernel_rfl
theorem always (a b : Value) (w : World) : Calls Tryz.prog 63 #[a, b] w fun e w' => e = .returned (.bool true) ∧ w = w' := by
  go_enter Tryz.func63, Tryz.ntmps63
  go_wp2
  go_ret
  exact ⟨rfl, rfl⟩
set_option maxRecDepth 20000 in
set_option maxHeartbeats 800000 in
theorem inside_row (f : Int) (B n cap : Nat) (L : List UInt8) (kd : Int) (m N : Nat) (ps : Nat → Nat) (tx : Nat → ByteArray) (w : World)
    (hL : L.length = n) (hn : n ≤ 1000000) (hcap : n ≤ cap) (hcap2 : cap ≤ 9223372036854775807) (hkd : (kd = 7 ∧ N = 2 * m) ∨ (kd = 6 ∧ N = m)) (hm : m ≤ 1000) (hrow : Row f L n ps tx N) (hB : BY w B L) :
    Calls Tryz.prog 35 #[scan f B n cap, tok kd (ps 0 : Nat) 0 (m : Nat) ⟨#[]⟩] w fun e w' => e = .returned (.tuple #[.int .i64 (ps N : Nat), .int .i64 (m : Nat)]) ∧ G w.heap.size none w w' := by
  have hBlt := hB.1
  have hg0 := ((G.refl w.heap.size none w).alloc (.cells #[.int .i64 f, .slice (some ⟨B, 0, none⟩) n cap] 67) (Nat.le_refl _)).alloc (.cells #[.int .i64 kd, .int .i64 (ps 0 : Nat), .int .i64 0, .int .i64 (m : Nat), .bool false, .string ⟨#[]⟩] 78) (by simp)
  have hT0 : ((w.alloc (.cells #[.int .i64 f, .slice (some ⟨B, 0, none⟩) n cap] 67)).alloc (.cells #[.int .i64 kd, .int .i64 (ps 0 : Nat), .int .i64 0, .int .i64 (m : Nat), .bool false, .string ⟨#[]⟩] 78)).heap[w.heap.size + 1]? = some (.cells #[.int .i64 kd, .int .i64 (ps 0 : Nat), .int .i64 0, .int .i64 (m : Nat), .bool false, .string ⟨#[]⟩] 78 (0, 0)) := by
    have h := heap_new (w.alloc (.cells #[.int .i64 f, .slice (some ⟨B, 0, none⟩) n cap] 67)) (.cells #[.int .i64 kd, .int .i64 (ps 0 : Nat), .int .i64 0, .int .i64 (m : Nat), .bool false, .string ⟨#[]⟩] 78)
    simpa using h
  have HE := Lib.hid (each_any f B n cap L kd m N ps tx 63 #[] 0 (fun _ W => BY W B L ∧ G (w.heap.size + 2) none ((w.alloc (.cells #[.int .i64 f, .slice (some ⟨B, 0, none⟩) n cap] 67)).alloc (.cells #[.int .i64 kd, .int .i64 (ps 0 : Nat), .int .i64 0, .int .i64 (m : Nat), .bool false, .string ⟨#[]⟩] 78)) W) (fun _ _ => False) _ hL hn hcap hcap2 hkd hm hrow (Nat.zero_le _)
    (fun _ _ h => h.1) (fun _ W W' h g => ⟨h.1.g g h.1.1 (by simp), h.2.trans (g.mono (by have := h.2.size; simpa using this))⟩)
    (fun i W hi h => by
      refine (always _ _ W).mono ?_
      rintro e W' ⟨rfl, rfl⟩
      exact ⟨true, rfl, Nat.le_refl _, fun _ _ _ => rfl, by simpa using h⟩) call63 ⟨hB.g hg0 hBlt (by simp), G.refl _ _ _⟩)
  have HG := Lib.hid hg0; clear hg0
  have HT0 := Lib.hid hT0; clear hT0 hrow hB
  go_enter Tryz.func35, Tryz.ntmps35
  go_wp2_with fail
  refine HE.out.mono ?_
  rintro e w1 ⟨i, rfl, ⟨rfl, h1⟩ | ⟨_, h⟩⟩
  · have hT := (h1.2.block (w.heap.size + 1) (by omega) (by simp)).trans HT0.out
    obtain ⟨t0, t1, t2, t3, t4, t5⟩ := cells6 hT
    have HG1 := Lib.hid (HG.out.trans (h1.2.mono (by omega)))
    clear h1
    rcases hkd with ⟨rfl, hN⟩ | ⟨rfl, hN⟩
    · go_wp2
      go_ret2
      rw [hN]
      exact ⟨rfl, HG1.out⟩
    · subst hN
      go_wp2
      go_ret2
      exact ⟨rfl, HG1.out⟩
  · exact h.elim
end Go.Proofs.YtcfjiaogdmjlbaaGreat
