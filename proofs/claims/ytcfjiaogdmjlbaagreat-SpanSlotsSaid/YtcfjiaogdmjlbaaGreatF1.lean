/- Walks of the reference's Rune, Runes, Valid and zero, over ASCII. -/
import Derived.Test.YtcfjiaogdmjlbaaGreatF0
namespace Go.Proofs.YtcfjiaogdmjlbaaGreat
open Go.RowKit
theorem info21 : (Tryz.prog.info? 21).map (fun i => (i.zero, i.size, i.bytes)) = some (some (.int .i32 0), 1, 4) := by kernel_rfl
set_option maxRecDepth 100000 in
set_option maxHeartbeats 1000000 in
theorem rune_ascii (s : ByteArray) (i : Nat) (hi : i < s.size) (hn : s.size ≤ 1000000) (ha : (s[i]'hi).toNat < 128) (w : World) :
    Calls Tryz.prog 151 #[.string s, .int .i64 (i : Nat)] w fun e w' => e = .returned (.tuple #[.int .i32 ((s[i]'hi).toNat : Int), .int .i64 1]) ∧ w = w' := by
  have h1 : ((s[i]'hi).toNat : Int) < 128 := by omega
  have h0 : (0 : Int) ≤ ((s[i]'hi).toNat : Int) := by omega
  have h2 : (i : Int) < (s.size : Int) := by omega
  go_enter Tryz.func151, Tryz.ntmps151
  go_wp2
  go_ret2
  exact ⟨rfl, rfl⟩
theorem zero_num (w : World) : Calls Tryz.prog 119 #[.agg #[.bool false, .slice none 0 0, .int .i64 0]] w fun e w' => e = .returned (.bool true) ∧ G w.heap.size none w w' := by
  go_enter Tryz.func119, Tryz.ntmps119
  go_wp2
  go_ret
  exact ⟨rfl, (G.refl _ _ _).alloc _ (Nat.le_refl _)⟩
/-- An ASCII text's bytes, as runes. -/
def rn (s : ByteArray) : List Value := s.data.toList.map fun b => Value.int .i32 (b.toNat : Int)
theorem rn_len (s : ByteArray) : (rn s).length = s.size := by simp [rn]
def RRel (w : World) (s : ByteArray) (k : Nat) (vL vA : Value) (wr : World) : Prop :=
  ∃ (j : Nat) (A : Option Addr) (c : Nat), j ≤ s.size ∧ k = s.size - j ∧ vA = .int .i64 (j : Nat) ∧ vL = .slice A j c ∧ wr.ownsRow w.heap.size 21 1 vL j ((rn s).take j) ∧ G w.heap.size none w wr
set_option maxRecDepth 20000 in
set_option maxHeartbeats 1000000 in
theorem runes_ascii (s : ByteArray) (ha : ∀ i (h : i < s.size), (s[i]'h).toNat < 128) (hn : s.size ≤ 1000000) (w : World) :
    Calls Tryz.prog 122 #[.string s] w fun e w' => ∃ A c, e = .returned (.slice A s.size c) ∧ w'.ownsRow w.heap.size 21 1 (.slice A s.size c) s.size (rn s) ∧ G w.heap.size none w w' := by
  obtain ⟨i21, hi21, hz21, hs21, hb21⟩ := info_parts info21
  have K21 := Lib.hid (And.intro hz21 (And.intro hs21 hb21)); clear hz21 hs21 hb21
  have HA := Lib.hid ha; clear ha
  go_enter Tryz.func122, Tryz.ntmps122
  go_wp2
  go_loopg [3, 4] s.size (fun k vL vA wr => RRel w s k vL vA wr)
  case atStart => exact ⟨0, none, 0, Nat.zero_le _, rfl, rfl, rfl, World.ownsRow_nil _ _ _ _, G.refl _ _ _⟩
  case round =>
    obtain ⟨j, A0, c0, hj, hk, rfl, rfl, hO, hg⟩ := hrel
    have HO := Lib.hid hO; clear hO
    have HG := Lib.hid hg; clear hg
    have HK := Lib.hid hk; clear hk
    by_cases hlt : j < s.size
    · have HR := Lib.hid (rune_ascii s j hlt hn (HA.out j hlt) wr)
      have htk : (rn s).take (j + 1) = (rn s).take j ++ [.int .i32 ((s[j]'hlt).toNat : Int)] := by
        rw [List.take_add_one, List.getElem?_eq_getElem (by rw [rn_len]; exact hlt)]
        simp [rn]; rfl
      have HT := Lib.hid htk; clear htk
      generalize hy : ((s[j]'hlt).toNat : Int) = y at *
      clear hy
      go_wp2_with (first
        | (go_at_call 151; refine HR.out.mono ?_; rintro e w1 ⟨rfl, rfl⟩)
        | (at_builtin; refine wpList_append_src _ rfl (.tmp 17) (.tmp 19) 176 176 rfl w.heap.size 21 i21 (.int .i32 0) 1 4 Tryz.underlying176 hi21 K21.out.1 K21.out.2.1 K21.out.2.2 rfl (by decide) (.slice A0 j c0) j ((rn s).take j) rfl (HO.out.alloc _) _ 1 [.int .i32 y] rfl (Src.ofSlice _ Tryz.underlying176 ⟨wr.heap.size, 0, none⟩ 1 1 _ rfl (one_news (cell_new _ _ _)) (one_oneCell rfl)) (by unfold maxLen; omega) (by omega) (by have := HG.out.size; simp; omega) ?_; intro A c' w1 hO1 hg1; have HO1 := Lib.hid hO1; have HG1 := Lib.hid ((HG.out.alloc _ HG.out.size).grown hg1 (by have := HG.out.size; simp; omega) (fun k hk => .inl (HO.out.lt k hk).1)); clear hO1 hg1))
      go_roundg (s.size - (j + 1))
      case measure => have := HK.out; omega
      case rel => exact ⟨j + 1, A, c', hlt, rfl, by simp, rfl, by rw [HT.out]; exact HO1.out, HG1.out⟩
    · obtain rfl : j = s.size := by omega
      go_wp2
      go_ret
      exact ⟨A0, c0, rfl, by have h := HO.out; rwa [List.take_of_length_le (by rw [rn_len]; exact Nat.le_refl _)] at h, HG.out⟩
/-- A row of the call's own, cell by cell. -/
theorem own_at {w : World} {base n : Nat} {e : TypeId} {A : Option Addr} {c : Nat} {xs : List Value} (h : w.ownsRow base e 1 (.slice A n c) n xs) (h0 : 0 < n) :
    ∃ g, A = some ⟨g, 0, none⟩ ∧ base ≤ g ∧ g < w.heap.size ∧ n ≤ c ∧ c ≤ 9223372036854775807 ∧ ∀ i, i < n → w.cell? ⟨g, i, none⟩ = some (xs.getD i undef) := by
  rcases h.2 with ⟨e, e2⟩ | ⟨g, cap, cur, e, hb, hh, h3, h4, h5, h6⟩
  · omega
  · simp only [Value.slice.injEq] at e
    obtain ⟨rfl, _, rfl⟩ := e
    refine ⟨g, rfl, hb, lt_heap hh, h3, h4, fun i hi => ?_⟩
    have hl : xs.length = n := by have := h.1; omega
    have := h.cells (g := g) rfl i (xs.getD i undef) (by simp [List.getD, show i < xs.length by omega])
    rw [add_plain, Nat.zero_add] at this; exact this
set_option maxRecDepth 20000 in
set_option maxHeartbeats 1000000 in
theorem valid_ascii (s : ByteArray) (ha : ∀ i (h : i < s.size), (s[i]'h).toNat < 128) (hn : s.size ≤ 1000000) (w : World) :
    Calls Tryz.prog 95 #[.string s] w fun e w' => e = .returned (.bool true) ∧ G w.heap.size none w w' := by
  have HR := Lib.hid (runes_ascii s ha hn w)
  have HA := Lib.hid ha; clear ha
  go_enter Tryz.func95, Tryz.ntmps95
  go_wp2_with (go_at_call 122; refine HR.out.mono ?_; rintro e w1 ⟨A, c, rfl, hO, hg⟩; have HO := Lib.hid hO; have HG := Lib.hid hg; clear hO hg)
  go_loopg [4] s.size (fun k vI wr => ∃ j : Nat, j ≤ s.size ∧ k = s.size - j ∧ vI = .int .i64 (j : Nat) ∧ wr = w1)
  case atStart => exact ⟨0, Nat.zero_le _, rfl, rfl, rfl⟩
  case round =>
    obtain ⟨j, hj, hk, rfl, rfl⟩ := hrel
    have HK := Lib.hid hk; clear hk
    by_cases hlt : j < s.size
    · obtain ⟨g, rfl, _, _, h1, h2, hc⟩ := own_at HO.out (by omega)
      have hcell := hc j hlt
      have hx : (rn s).getD j undef = .int .i32 ((s[j]'hlt).toNat : Int) := by
        simp [rn, List.getD, hlt]; rfl
      rw [hx] at hcell
      have h0 : (0 : Int) ≤ ((s[j]'hlt).toNat : Int) := by omega
      generalize ((s[j]'hlt).toNat : Int) = y at *
      clear hc hx
      go_wp2
      go_roundg (s.size - (j + 1))
      case measure => have := HK.out; omega
      case rel => exact ⟨j + 1, hlt, rfl, by simp, rfl⟩
    · obtain rfl : j = s.size := by omega
      go_wp2
      go_ret
      exact ⟨rfl, HG.out⟩
end Go.Proofs.YtcfjiaogdmjlbaaGreat
