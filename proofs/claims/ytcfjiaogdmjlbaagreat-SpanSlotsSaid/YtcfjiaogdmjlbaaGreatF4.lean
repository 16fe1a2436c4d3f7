/- Walks of the reference's heads, texts, null and short in CBOR. -/
import Derived.Test.YtcfjiaogdmjlbaaGreatF3
namespace Go.Proofs.YtcfjiaogdmjlbaaGreat
open Go.RowKit
/-- Bytes, as cells. -/
def bv (L : List UInt8) : List Value := L.map fun b => Value.int .u8 (b.toNat : Int)
theorem bv_len (L : List UInt8) : (bv L).length = L.length := by simp [bv]
theorem bv_app (L M : List UInt8) : bv (L ++ M) = bv L ++ bv M := by simp [bv]
theorem byteCells_bv (s : ByteArray) : byteCells s = bv s.data.toList := rfl
/-- A call answers a row of its own that holds these bytes. -/
def BOut (w : World) (L : List UInt8) (e : Ending) (w' : World) : Prop :=
  ∃ A c, e = .returned (.slice A L.length c) ∧ w'.ownsRow w.heap.size 5 1 (.slice A L.length c) L.length (bv L) ∧ G w.heap.size none w w'
theorem info5 : (Tryz.prog.info? 5).map (fun i => (i.zero, i.size, i.bytes)) = some (some (.int .u8 0), 1, 1) := by kernel_rfl
theorem own_one (w : World) (b : UInt8) : (w.alloc (.cells #[.int .u8 (b.toNat : Int)] 5)).ownsRow w.heap.size 5 1 (.slice (some ⟨w.heap.size, 0, none⟩) 1 1) 1 (bv [b]) :=
  ⟨rfl, .inr ⟨_, 1, _, rfl, Nat.le_refl _, heap_new _ _, Nat.le_refl _, by unfold maxLen; omega, rfl, rfl⟩⟩
theorem own_g0 {w w' : World} {base : Nat} {e : TypeId} {size : Nat} {v : Value} {n : Nat} {xs : List Value} (h : w.ownsRow base e size v n xs) (g : G w.heap.size none w w') : w'.ownsRow base e size v n xs :=
  h.kept (row := none) ⟨g.os, g.tape, g.output, g.size, fun k hk _ => g.block k hk (by simp)⟩ (by cases v.ownBlock <;> simp)
theorem own_mono {w : World} {base b2 : Nat} {e : TypeId} {size : Nat} {v : Value} {n : Nat} {xs : List Value} (h : w.ownsRow base e size v n xs) (hb : b2 ≤ base) : w.ownsRow b2 e size v n xs := by
  rcases h with ⟨h1, h2 | ⟨g, cap, cur, h3, h4, h5⟩⟩
  · exact ⟨h1, .inl h2⟩
  · exact ⟨h1, .inr ⟨g, cap, cur, h3, Nat.le_trans hb h4, h5⟩⟩
theorem or_head (m : Nat) (hm : m = 96 ∨ m = 160) (n : Nat) (hn : n < 24) : bits BinOp.or .u8 (m : Int) (n : Int) = ((m + n : Nat) : Int) := by
  have h : ∀ m : Fin 2, ∀ n : Fin 24, bits BinOp.or .u8 (((96 + 64 * m.val : Nat)) : Int) ((n.val : Nat) : Int) = ((96 + 64 * m.val + n.val : Nat) : Int) := by decide +kernel
  rcases hm with rfl | rfl
  · exact h 0 ⟨n, hn⟩
  · exact h 1 ⟨n, hn⟩
theorem head_ret {w : World} {x : Int} {n m : Nat} (hx : x = ((m + n : Nat) : Int)) (hmn : m + n < 256) : BOut w [UInt8.ofNat (m + n)] (.returned (.slice (some ⟨w.heap.size, 0, none⟩) 1 1)) (w.alloc (.cells #[.int .u8 x] 5)) := by
  have hb : (((UInt8.ofNat (m + n)).toNat : Nat) : Int) = x := by rw [UInt8.toNat_ofNat', Nat.mod_eq_of_lt (by omega), hx]
  have h := own_one w (UInt8.ofNat (m + n))
  rw [hb] at h
  exact ⟨_, 1, rfl, h, (G.refl _ _ _).alloc _ (Nat.le_refl _)⟩
set_option maxRecDepth 20000 in
theorem put3 (n : Nat) (hn : n < 24) (w : World) : Calls Tryz.prog 74 #[.int .i64 3, .int .u64 (n : Nat)] w (BOut w [UInt8.ofNat (96 + n)]) := by
  have hor := or_head 96 (.inl rfl) n hn
  have h1 : ((n : Int) < 24) := by omega
  go_enter Tryz.func74, Tryz.ntmps74
  go_wp2
  go_ret
  exact head_ret (by first | exact hor | simpa using hor) (by omega)
set_option maxRecDepth 20000 in
theorem put5 (n : Nat) (hn : n < 24) (w : World) : Calls Tryz.prog 74 #[.int .i64 5, .int .u64 (n : Nat)] w (BOut w [UInt8.ofNat (160 + n)]) := by
  have hor := or_head 160 (.inr rfl) n hn
  have h1 : ((n : Int) < 24) := by omega
  go_enter Tryz.func74, Tryz.ntmps74
  go_wp2
  go_ret
  exact head_ret (by first | exact hor | simpa using hor) (by omega)
set_option maxRecDepth 20000 in
set_option maxHeartbeats 400000 in
theorem text_ok (s : ByteArray) (hs : s.size < 24) (w : World) : Calls Tryz.prog 73 #[.string s] w (BOut w (UInt8.ofNat (96 + s.size) :: s.data.toList)) := by
  obtain ⟨i5, hi5, hz5, hs5, hb5⟩ := info_parts info5
  have K5 := Lib.hid (And.intro hz5 (And.intro hs5 hb5)); clear hz5 hs5 hb5
  have HP := Lib.hid (put3 s.size hs w)
  go_enter Tryz.func73, Tryz.ntmps73
  go_wp2_with fail
  refine HP.out.mono ?_
  rintro e w1 ⟨A, c, rfl, hO, hg⟩
  have HO := Lib.hid hO
  have HG := Lib.hid hg
  clear hO hg HP
  go_wp2_with (at_builtin; refine wpList_append_src _ rfl (.tmp 6) (.tmp 7) 59 9 rfl w.heap.size 5 i5 (.int .u8 0) 1 1 Tryz.underlying59 hi5 K5.out.1 K5.out.2.1 K5.out.2.2 rfl (by decide) (.slice A 1 c) 1 _ rfl HO.out _ s.size (byteCells s) rfl (Src.ofString _ Tryz.underlying9 s) (by unfold maxLen; omega) (by omega) HG.out.size ?_; intro A2 c2 w2 hO2 hg2; have HO2 := Lib.hid hO2; have HG2 := Lib.hid (HG.out.grown hg2 HG.out.size (fun k hk => .inl (HO.out.lt k hk).1)); clear hO2 hg2)
  go_ret
  have hl : (UInt8.ofNat (96 + s.size) :: s.data.toList).length = 1 + s.size := by simp; omega
  exact ⟨A2, c2, by rw [hl]; rfl, by rw [hl]; exact HO2.out, HG2.out⟩
set_option maxRecDepth 20000 in
theorem put_null (w : World) : Calls Tryz.prog 49 #[tre 1 (.slice none 0 0) (.slice none 0 0)] w (BOut w [246]) := by
  go_enter Tryz.func49, Tryz.ntmps49
  go_wp2
  go_ret
  have h := own_one (w.alloc (treO 1 (.slice none 0 0) (.slice none 0 0))) 246
  rw [World.size_alloc] at h
  exact ⟨_, 1, rfl, own_mono h (Nat.le_succ _), ((G.refl w.heap.size none w).alloc _ (Nat.le_refl _)).alloc _ (by simp)⟩
/-- CBOR's order. -/
def shortB (a b : ByteArray) : Bool := decide (a.size < b.size) || (decide (a.size = b.size) && sless a b)
theorem short_any (a b : ByteArray) (w : World) : Calls Tryz.prog 128 #[.string a, .string b] w fun e w' => e = .returned (.bool (shortB a b)) ∧ w' = w := by
  rcases Nat.lt_trichotomy a.size b.size with h | h | h
  · have e : shortB a b = true := by simp [shortB, h]
    rw [e]
    go_enter Tryz.func128, Tryz.ntmps128
    go_wp2
    go_ret
    exact ⟨rfl, rfl⟩
  · have e : shortB a b = sless a b := by simp [shortB, h]
    have n1 : ¬ a.size < b.size := by omega
    have hx : (binOp .lss 9 (.string a) (.string b)).run Tryz.prog w = .ok (.bool (sless a b)) w := by simp [binOp, Tryz.underlying9, go_sem, sless, Op.stringOp]
    rw [e]
    go_enter Tryz.func128, Tryz.ntmps128
    go_wp2
    go_ret
    exact ⟨rfl, rfl⟩
  · have n1 : ¬ a.size < b.size := by omega
    have n2 : ¬ a.size = b.size := by omega
    have e : shortB a b = false := by simp [shortB, n1, n2]
    rw [e]
    go_enter Tryz.func128, Tryz.ntmps128
    go_wp2
    go_ret
    exact ⟨rfl, rfl⟩
end Go.Proofs.YtcfjiaogdmjlbaaGreat
