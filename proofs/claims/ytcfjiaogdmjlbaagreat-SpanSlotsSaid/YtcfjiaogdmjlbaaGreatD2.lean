/- The walks of span's at, and of skip at a leaf. -/
import Derived.Test.YtcfjiaogdmjlbaaGreatD1
namespace Go.Proofs.YtcfjiaogdmjlbaaGreat
open Go.RowKit
/-- A text stands there (t bytes), or a value of one byte, or the head of m members or items. -/
def Tk (f : Int) (L : List UInt8) (n a : Nat) (k b z m : Int) (s : ByteArray) : Prop :=
  a < n ∧ ((∃ t : Nat, t < 24 ∧ a + 1 + t < n ∧ ((f = 2 ∧ byt L a = 96 + (t : Nat)) ∨ (f = 3 ∧ byt L a = 160 + (t : Nat))) ∧ k = 0 ∧ b = 0 ∧ z = (a : Int) + 1 + (t : Nat) ∧ m = 0 ∧ s = sub L (a + 1) t) ∨
  (((f = 2 ∧ byt L a = 246) ∨ (f = 3 ∧ byt L a = 192) ∨ ((f = 2 ∨ f = 3) ∧ ∃ t : Nat, t < 24 ∧ byt L a = (t : Nat))) ∧ k = 0 ∧ b = 0 ∧ z = (a : Int) + 1 ∧ m = 0 ∧ s = ⟨#[]⟩) ∨
  (∃ t : Nat, t < 16 ∧ ((f = 2 ∧ byt L a = 160 + (t : Nat)) ∨ (f = 3 ∧ byt L a = 128 + (t : Nat))) ∧ k = 7 ∧ b = (a : Int) + 1 ∧ z = 0 ∧ m = (t : Nat) ∧ s = ⟨#[]⟩) ∨
  (∃ t : Nat, t < 16 ∧ ((f = 2 ∧ byt L a = 128 + (t : Nat)) ∨ (f = 3 ∧ byt L a = 144 + (t : Nat))) ∧ k = 6 ∧ b = (a : Int) + 1 ∧ z = 0 ∧ m = (t : Nat) ∧ s = ⟨#[]⟩))
theorem Tk.fmt {f : Int} {L : List UInt8} {n a : Nat} {k b z m : Int} {s : ByteArray} (h : Tk f L n a k b z m s) : f = 2 ∨ f = 3 := by
  rcases h with ⟨_, ⟨t, _, _, h, _⟩ | ⟨h, _⟩ | ⟨t, _, h, _⟩ | ⟨t, _, h, _⟩⟩
  · rcases h with h | h
    · exact .inl h.1
    · exact .inr h.1
  · rcases h with h | h | h
    · exact .inl h.1
    · exact .inr h.1
    · exact h.1
  · rcases h with h | h
    · exact .inl h.1
    · exact .inr h.1
  · rcases h with h | h
    · exact .inl h.1
    · exact .inr h.1
theorem cbor_any (B n cap : Nat) (L : List UInt8) (a : Nat) (k b z m : Int) (s : ByteArray) (w : World) (hL : L.length = n) (hn : n ≤ 1000000) (hcap : n ≤ cap) (hcap2 : cap ≤ 9223372036854775807) (hB : BY w B L) (h : Tk 2 L n a k b z m s) :
    Calls Tryz.prog 57 #[scan 2 B n cap, .int .i64 (a : Nat)] w fun e w' => e = .returned (tok k b z m s) ∧ G w.heap.size none w w' := by
  rcases h with ⟨h1, ⟨t, ht, h2, h, rfl, rfl, rfl, rfl, rfl⟩ | ⟨h, rfl, rfl, rfl, rfl, rfl⟩ | ⟨t, ht, h, rfl, rfl, rfl, rfl, rfl⟩ | ⟨t, ht, h, rfl, rfl, rfl, rfl, rfl⟩⟩
  · rcases h with h | h
    · exact cbor_text B n cap L a t w hL h2 hn hcap hcap2 ht hB h.2
    · omega
  · rcases h with h | h | ⟨_, t, ht, h⟩
    · exact cbor_null B n cap L a w hL h1 hn hcap hcap2 hB h.2
    · omega
    · exact cbor_int B n cap L a t w hL h1 hn hcap hcap2 ht hB h
  · rcases h with h | h
    · exact cbor_map B n cap L a t w hL h1 hn hcap hcap2 (by omega) hB h.2
    · omega
  · rcases h with h | h
    · exact cbor_arr B n cap L a t w hL h1 hn hcap hcap2 (by omega) hB h.2
    · omega
theorem pack_any (B n cap : Nat) (L : List UInt8) (a : Nat) (k b z m : Int) (s : ByteArray) (w : World) (hL : L.length = n) (hn : n ≤ 1000000) (hcap : n ≤ cap) (hcap2 : cap ≤ 9223372036854775807) (hB : BY w B L) (h : Tk 3 L n a k b z m s) :
    Calls Tryz.prog 58 #[scan 3 B n cap, .int .i64 (a : Nat)] w fun e w' => e = .returned (tok k b z m s) ∧ G w.heap.size none w w' := by
  rcases h with ⟨h1, ⟨t, ht, h2, h, rfl, rfl, rfl, rfl, rfl⟩ | ⟨h, rfl, rfl, rfl, rfl, rfl⟩ | ⟨t, ht, h, rfl, rfl, rfl, rfl, rfl⟩ | ⟨t, ht, h, rfl, rfl, rfl, rfl, rfl⟩⟩
  · rcases h with h | h
    · omega
    · exact pack_text B n cap L a t w hL h2 hn hcap hcap2 (by omega) hB h.2
  · rcases h with h | h | ⟨_, t, ht, h⟩
    · omega
    · exact pack_nil B n cap L a w hL h1 hn hcap hcap2 hB h.2
    · exact pack_int B n cap L a t w hL h1 hn hcap hcap2 (by omega) hB h
  · rcases h with h | h
    · omega
    · exact pack_map B n cap L a t w hL h1 hn hcap hcap2 ht hB h.2
  · rcases h with h | h
    · omega
    · exact pack_arr B n cap L a t w hL h1 hn hcap hcap2 ht hB h.2
set_option maxRecDepth 20000 in
set_option maxHeartbeats 800000 in
theorem at_any (f : Int) (B n cap : Nat) (L : List UInt8) (a : Nat) (k b z m : Int) (s : ByteArray) (w : World) (hL : L.length = n) (hn : n ≤ 1000000) (hcap : n ≤ cap) (hcap2 : cap ≤ 9223372036854775807) (hB : BY w B L) (h : Tk f L n a k b z m s) :
    Calls Tryz.prog 33 #[scan f B n cap, .int .i64 (a : Nat)] w fun e w' => e = .returned (tok k b z m s) ∧ G w.heap.size none w w' := by
  have hBlt := hB.1
  have hf := h.fmt
  have HG := Lib.hid (((G.refl w.heap.size none w).alloc (.cells #[.int .i64 f, .slice (some ⟨B, 0, none⟩) n cap] 67) (Nat.le_refl _)).alloc zero6 (by simp))
  have HN0 := Lib.hid (show ((w.alloc (.cells #[.int .i64 f, .slice (some ⟨B, 0, none⟩) n cap] 67)).alloc zero6).heap[w.heap.size + 1]? = some zero6 by have h := heap_new (w.alloc (.cells #[.int .i64 f, .slice (some ⟨B, 0, none⟩) n cap] 67)) zero6; simpa using h)
  have HC := Lib.hid (And.intro hL (And.intro (hB.g HG.out hBlt (by simp)) h)); clear hL hB h
  rcases hf with rfl | rfl
  all_goals
    go_enter Tryz.func33, Tryz.ntmps33
    go_wp2_with fail
    first
      | refine (cbor_any B n cap L a k b z m s _ HC.out.1 hn hcap hcap2 HC.out.2.1 HC.out.2.2).mono ?_
      | refine (pack_any B n cap L a k b z m s _ HC.out.1 hn hcap hcap2 HC.out.2.1 HC.out.2.2).mono ?_
    rintro e w1 ⟨rfl, hg1⟩
    have HG1 := Lib.hid (HG.out.trans (hg1.mono HG.out.size))
    have HN := Lib.hid ((hg1.block _ (by simp) (by simp)).trans HN0.out)
    obtain ⟨p0, p1, p2, p3, p4, p5⟩ := cells6 HN.out
    have fz := fun i => froz_heap HN.out i
    clear HN0 HG hg1 HC
    generalize w1 = W0 at *
    go_wp2
    show bodyPost _ _ _ _ _ (set6 W0 (w.heap.size + 1) _ _ _ _ _ _)
    have hW := set6_heap HN.out rfl (.int .i64 k) (.int .i64 b) (.int .i64 z) (.int .i64 m) (.bool false) (.string s)
    have GW := HG1.out.set6 (w.heap.size + 1) (.int .i64 k) (.int .i64 b) (.int .i64 z) (.int .i64 m) (.bool false) (.string s) (by omega)
    generalize set6 W0 (w.heap.size + 1) (.int .i64 k) (.int .i64 b) (.int .i64 z) (.int .i64 m) (.bool false) (.string s) = W at *
    obtain ⟨x0, x1, x2, x3, x4, x5⟩ := cells6 hW
    exact bodyPost_ret (v := tok k b z m s) (by simp [results, Tryz.results33, go_sem, x0, x1, x2, x3, x4, x5]) rfl ⟨rfl, GW⟩
set_option maxRecDepth 20000 in
set_option maxHeartbeats 800000 in
/-- A text, or a value of one byte: skip goes to its end. -/
theorem skip_leaf (f : Int) (B n cap : Nat) (L : List UInt8) (a : Nat) (z : Int) (s : ByteArray) (w : World) (hL : L.length = n) (hn : n ≤ 1000000) (hcap : n ≤ cap) (hcap2 : cap ≤ 9223372036854775807) (hB : BY w B L) (h : Tk f L n a 0 0 z 0 s) :
    Calls Tryz.prog 41 #[scan f B n cap, .int .i64 (a : Nat)] w fun e w' => e = .returned (.int .i64 z) ∧ G w.heap.size none w w' := by
  have hBlt := hB.1
  have HG := Lib.hid ((G.refl w.heap.size none w).alloc (.cells #[.int .i64 f, .slice (some ⟨B, 0, none⟩) n cap] 67) (Nat.le_refl _))
  have HA := Lib.hid (at_any f B n cap L a 0 0 z 0 s _ hL hn hcap hcap2 (hB.g HG.out hBlt (by simp)) h); clear hL hB h
  go_enter Tryz.func41, Tryz.ntmps41
  go_wp2_with (go_at_call 33; refine HA.out.mono ?_; rintro e w1 ⟨rfl, hg1⟩)
  go_ret
  exact ⟨rfl, (HG.out.trans (hg1.mono HG.out.size)).alloc _ (Nat.le_trans HG.out.size hg1.size)⟩
end Go.Proofs.YtcfjiaogdmjlbaaGreat
