/- The walk of a Pack value that is an array of values of one byte. -/
import Derived.Test.YtcfjiaogdmjlbaaGreatC6
namespace Go.Proofs.YtcfjiaogdmjlbaaGreat
open Go.RowKit
/-- The cells of an array under way. -/
def arrCells (vV : Value) : Array Value := #[.int .i64 6, .bool false, .bool false, .slice none 0 0, .int .i64 0, .string ⟨#[]⟩, .slice none 0 0, vV]
/-- The loop over an array's items: what holds at a round's head. -/
def ARel (w : World) (R B n cap N : Nat) (a : Nat) (nd : Int) (m k : Nat) (vJ : Value) (wr : World) : Prop :=
  ∃ (j : Nat) (AV : Option Addr) (cV : Nat) (cs : List Value), j ≤ m ∧ k = m - j ∧ vJ = .int .u64 (j : Nat) ∧ w.heap.size < N ∧ N < wr.heap.size ∧ wr.heap[N]? = some (.cells (arrCells (.slice AV j cV)) 30 (0, 0)) ∧
    wr.ownsRow (N + 1) 30 8 (.slice AV j cV) j cs ∧ Rdr 351 wr R B n cap ((a + j : Nat) : Int) (nd + j) ∧ wr.heap[w.heap.size]? = some zero8 ∧ G w.heap.size (some R) w wr
set_option maxRecDepth 20000 in
set_option maxHeartbeats 1600000 in
theorem pvalue_array (R B n cap : Nat) (L : List UInt8) (a m : Nat) (nd deep : Int) (w : World) (hz : a + 1 + m ≤ n) (hL : L.length = n) (hn : n ≤ 1000000) (hcap : n ≤ cap) (hcap2 : cap ≤ 9223372036854775807)
    (hd0 : 0 ≤ deep) (hd : deep ≤ 63) (hnd0 : 0 ≤ nd) (hnd : nd + 1 + m ≤ 2000) (hr : Rdr 351 w R B n cap (a : Nat) nd) (hB : BY w B L) (hBR : B ≠ R) (hm : m < 16) (hc : byt L a = 144 + (m : Nat)) (hi : ∀ i, i < m → PLeaf L (a + 1 + i)) :
    Calls Tryz.prog 333 #[.pointer (some ⟨R, 0, none⟩), .int .i64 deep] w fun e w' => ∃ v, e = .returned v ∧ Eight v ∧ G w.heap.size (some R) w w' ∧ Rdr 351 w' R B n cap ((a + 1 + m : Nat) : Int) (nd + 1 + m) := by
  have h0 : (0 : Int) ≤ ((a : Nat) : Int) := by omega
  have h1 : ((a : Nat) : Int) < n := by omega
  have hnd2 : nd < 2000 := by omega
  have HI := Lib.hid hi; clear hi
  have HL := Lib.hid hL
  obtain ⟨i30, hi30, hz30, hs30, hb30⟩ := info_parts info30
  have K30 := Lib.hid (And.intro hz30 (And.intro hs30 hb30)); clear hz30 hs30 hb30
  have hb := hB.at_ (a : Nat) h0 (by omega)
  rw [hc] at hb
  have hRlt := hr.lt
  have hBlt := hB.1
  have hne : ¬ R = w.heap.size := by omega
  have hne2 : ¬ w.heap.size = R := by omega
  have HR := Lib.hid (hr.alloc zero8)
  have HB := Lib.hid hB; clear hB hc
  have Hb := Lib.hid (show (w.alloc zero8).cell? ⟨B, (a : Int).toNat, none⟩ = some (.int .u8 (144 + (m : Nat))) from (World.cell?_of_block (Below.heap_alloc w zero8 B hBlt)).trans hb); clear hb hr
  go_enter Tryz.func333, Tryz.ntmps333
  go_wp2_with fail
  refine (phead R B n cap (a : Nat) nd (144 + (m : Nat)) 9 (m : Nat) _ h0 h1 hn hcap hcap2 (by simp; omega) (by unfold Hd; omega) HR.out Hb.out).mono ?_
  rintro e w2 ⟨rfl, hg2, hr2⟩
  have hN2 : w2.heap[w.heap.size]? = some zero8 := (hg2.block w.heap.size (by simp) (some_ne hne2)).trans (heap_new w zero8)
  have hGw : G w.heap.size (some R) w w2 := ((G.refl w.heap.size (some R) w).alloc zero8 (Nat.le_refl _)).trans (hg2.mono (by simp))
  have HG3 := Lib.hid (hGw.set 2 (.int .i64 (nd + 1)))
  have r2 := hr2.c2
  have f2 := hr2.fz 2
  have HR3 := Lib.hid (hr2.set2 (nd + 1))
  have HN3 := Lib.hid ((Below.heap_setCell w2 ⟨R, 2, none⟩ (.int .i64 (nd + 1)) _ hne2).trans hN2)
  clear hg2 hr2 hN2 hGw
  go_wp2_with (go_at_call 332; refine (pmust _ (by first | rfl | (simp; omega)) _ _).mono ?_; rintro e w' ⟨rfl, rfl⟩)
  generalize hw3 : w2.setCell ⟨R, 2, none⟩ (.int .i64 (nd + 1)) = w3 at *
  have hs23 : w3.heap.size = w2.heap.size := by rw [← hw3]; simp [World.setCell]
  generalize hN2 : w2.heap.size = N at *
  have l3 := lt_heap HN3.out
  go_loopg [84] m (fun k vJ wr => ARel w R B n cap N (a + 1) (nd + 1) m k vJ wr)
  case atStart =>
    refine ⟨0, none, 0, [], Nat.zero_le _, rfl, rfl, (by omega), (by simp; omega), (by rw [← hs23]; exact heap_new _ _), World.ownsRow_nil _ _ _ _, ?_, (Below.heap_alloc _ _ _ l3).trans HN3.out, HG3.out.alloc _ HG3.out.size⟩
    simpa using HR3.out.alloc _
  case round =>
    clear hw3 hs23 hN2 r2 f2 HR HR3 HN3 HG3
    obtain ⟨j, AV, cV, cs, hj, hk, rfl, hN0, hNlt, hA, hV, hr, hN, hg⟩ := hrel
    have HG := Lib.hid hg; clear hg
    have HV := Lib.hid hV; clear hV
    have HA := Lib.hid hA; clear hA
    have HN := Lib.hid hN; clear hN
    have HR := Lib.hid hr; clear hr
    have HK2 := Lib.hid hk; clear hk
    have hneN : ¬ R = N := by omega
    by_cases hlt : j < m
    · have n7 : wr.cell? ⟨N, 7, none⟩ = some (.slice AV j cV) := by rw [cell_heap HA.out]; rfl
      have f7 : wr.frozen? ⟨N, 7, none⟩ = false := froz_heap HA.out 7
      have HC := Lib.hid (pvalue_leaf R B n cap L (a + 1 + j) (nd + 1 + j) (deep + 1) wr.drew (by omega) HL.out hn hcap hcap2 (by omega) (by omega) (by omega) HR.out (show BY wr.drew B L from HB.out.g HG.out.drew hBlt (some_ne hBR)) hBR (HI.out j hlt))
      have dq : IntKind.i64.wrap (deep + 1) = deep + 1 := IntWalk.i64_in _ (by omega)
      go_wp2_with fail
      go_region_law (first
        | (go_simp; go_at_call 333; refine HC.out.mono ?_; rintro e w4 ⟨v4, rfl, hv4, hg4, hr4⟩; obtain ⟨k0, b0, g0, AM0, nM0, cM0, e0, s0, AK0, nK0, cK0, AV0, nV0, cV0, rfl⟩ := hv4; have m7 : w4.cell? ⟨N, 7, none⟩ = some (.slice AV j cV) := (hg4.cell hNlt (some_ne (fun h => hneN h.symm))).trans n7; have l4 : N < w4.heap.size := Nat.lt_of_lt_of_le hNlt hg4.size; have HV4 := Lib.hid (own_g (show wr.drew.ownsRow _ _ _ _ _ _ from HV.out) hg4 (by omega)); have HG4 := Lib.hid hg4; have HR4 := Lib.hid hr4; have ONE := Lib.hid (show ∀ u ∈ ([.int .i64 k0, .bool b0, .bool g0, .slice AM0 nM0 cM0, .int .i64 e0, .string s0, .slice AK0 nK0 cK0, .slice AV0 nV0 cV0] : List Value), u.oneCell' = true by simp only [List.forall_mem_cons]; exact ⟨rfl, rfl, rfl, rfl, rfl, rfl, rfl, rfl, by simp⟩); clear hg4 hr4)
        | (refine step_append_own rfl (.tmp 87) (.tmp 92) 28 rfl 30 i30 _ 8 120 Tryz.underlying28 hi30 K30.out.1 K30.out.2.1 K30.out.2.2 rfl (by decide) (N + 1) (.slice AV j cV) j cs rfl ?_ ?_ ⟨w4.heap.size, 0, none⟩ 1 1 [.int .i64 k0, .bool b0, .bool g0, .slice AM0 nM0 cM0, .int .i64 e0, .string s0, .slice AK0 nK0 cK0, .slice AV0 nV0 cV0] rfl rfl ?_ ?_ ?_ ?_ ?_; exact HV4.out.alloc _; (simp; omega); exact many_news _ [.int .i64 k0, .bool b0, .bool g0, .slice AM0 nM0 cM0, .int .i64 e0, .string s0, .slice AK0 nK0 cK0, .slice AV0 nV0 cV0] 30; exact ONE.out; (unfold maxLen; omega); omega; intro AV6 cV6 w6 hV6 hg6; have g6 : w6.frozen? ⟨N, 7, none⟩ = false := Eq.trans (grown_alloc_froz hg6 l4 (own_ne' HV4.out (by omega))) ((HG4.out.froz hNlt (some_ne (fun h => hneN h.symm))).trans f7); have q7 : w6.cell? ⟨N, 7, none⟩ = some (.slice AV j cV) := Eq.trans (grown_alloc_cell hg6 l4 (own_ne' HV4.out (by omega))) m7; have HV6 := Lib.hid hV6; have HG6 := Lib.hid hg6; clear hV6 hg6))
      all_goals
        have hGr : G (N + 1) none w4 w6 := ((G.refl _ _ _).alloc _ (by omega)).grown HG6.out (by simp; omega) (fun k hk => .inl (HV4.out.lt k hk).1)
        have HA6 : w6.heap[N]? = some (.cells (arrCells (.slice AV j cV)) 30 (0, 0)) := (hGr.block N (by omega) (by simp)).trans ((HG4.out.block N hNlt (some_ne (fun h => hneN h.symm))).trans HA.out)
        have HA7 := Lib.hid (show (w6.setCell ⟨N, 7, none⟩ (.slice AV6 (j + 1) cV6)).heap[N]? = some (.cells (arrCells (.slice AV6 (j + 1) cV6)) 30 (0, 0)) from heap_set (j := 7) HA6 _)
        have HV7 := Lib.hid (ownsRow_setCell_below HV6.out (a := ⟨N, 7, none⟩) (Nat.lt_succ_self N) (.slice AV6 (j + 1) cV6))
        have HR7 := Lib.hid ((HR4.out.g hGr (by omega) (by simp)).other ⟨N, 7, none⟩ (.slice AV6 (j + 1) cV6) (fun h => hneN h.symm))
        have HN7 := Lib.hid ((Below.heap_setCell w6 ⟨N, 7, none⟩ (.slice AV6 (j + 1) cV6) w.heap.size (by simp; omega)).trans ((hGr.block w.heap.size (by omega) (by simp)).trans ((HG4.out.block w.heap.size (by simp; omega) (some_ne hne2)).trans HN.out)))
        have HG7 := Lib.hid ((((HG.out.drew.trans (HG4.out.mono HG.out.drew.size)).trans ((hGr.wide (some R)).mono (by omega)))).put N 7 (.slice AV6 (j + 1) cV6) (by omega))
        clear hGr HA6 HV6 HG6 HG4 HR4 HN HG HV HV4 HR HA n7 f7 m7 q7 g6
        have l7 := lt_heap HA7.out
        generalize w6.setCell ⟨N, 7, none⟩ (.slice AV6 (j + 1) cV6) = w7 at *
        go_wp2
        go_roundg (m - (j + 1))
        case measure => have := HK2.out; omega
        case rel =>
          refine ⟨j + 1, AV6, cV6, cs ++ [.int .i64 k0, .bool b0, .bool g0, .slice AM0 nM0 cM0, .int .i64 e0, .string s0, .slice AK0 nK0 cK0, .slice AV0 nV0 cV0], by omega, rfl, by simp, hN0, l7, HA7.out, HV7.out, ?_, HN7.out, HG7.out⟩
          have h := HR7.out
          rw [show ((a + 1 + (j + 1) : Nat) : Int) = ((a + 1 + j : Nat) : Int) + 1 by omega, show nd + 1 + ((j + 1 : Nat) : Int) = nd + 1 + j + 1 by omega]
          exact h
    · obtain rfl : j = m := by omega
      obtain ⟨p0, p1, p2, p3, p4, p5, p6, p7⟩ := cells8 HN.out
      obtain ⟨y0, y1, y2, y3, y4, y5, y6, y7⟩ := cells8 (show wr.heap[N]? = some (.cells #[.int .i64 6, .bool false, .bool false, .slice none 0 0, .int .i64 0, .string ⟨#[]⟩, .slice none 0 0, .slice AV j cV] 30 (0, 0)) from HA.out)
      have fz := fun i => froz_heap HN.out i
      go_wp2
      show bodyPost _ _ _ _ _ (set8 wr w.heap.size _ _ _ _ _ _ _ _)
      have hW := set8_heap HN.out rfl (.int .i64 6) (.bool false) (.bool false) (.slice none 0 0) (.int .i64 0) (.string ⟨#[]⟩) (.slice none 0 0) (.slice AV j cV)
      have GW := HG.out.set8 w.heap.size (.int .i64 6) (.bool false) (.bool false) (.slice none 0 0) (.int .i64 0) (.string ⟨#[]⟩) (.slice none 0 0) (.slice AV j cV) (Nat.le_refl _)
      have RW : Rdr 351 (set8 wr w.heap.size (.int .i64 6) (.bool false) (.bool false) (.slice none 0 0) (.int .i64 0) (.string ⟨#[]⟩) (.slice none 0 0) (.slice AV j cV)) R B n cap ((a + 1 + j : Nat) : Int) (nd + 1 + j) := (set8_other _ _ _ _ _ _ _ _ _ _ _ hne).trans HR.out
      generalize set8 wr w.heap.size (.int .i64 6) (.bool false) (.bool false) (.slice none 0 0) (.int .i64 0) (.string ⟨#[]⟩) (.slice none 0 0) (.slice AV j cV) = W at *
      obtain ⟨x0, x1, x2, x3, x4, x5, x6, x7⟩ := cells8 hW
      exact bodyPost_ret (v := .agg #[.int .i64 6, .bool false, .bool false, .slice none 0 0, .int .i64 0, .string ⟨#[]⟩, .slice none 0 0, .slice AV j cV]) (by simp [results, Tryz.results333, go_sem, x0, x1, x2, x3, x4, x5, x6, x7]) rfl
        ⟨_, rfl, ⟨_, _, _, _, _, _, _, _, _, _, _, _, _, _, rfl⟩, GW, RW⟩
end Go.Proofs.YtcfjiaogdmjlbaaGreat
