/- The walk of a CBOR value that is null. -/
import Derived.Test.YtcfjiaogdmjlbaaGreatB3
import Derived.Test.YtcfjiaogdmjlbaaGreatA2
namespace Go.Proofs.YtcfjiaogdmjlbaaGreat
open Go.RowKit
theorem must_k (b : Bool) (hb : b = true) (e : Int) (w : World) :
    Calls Tryz.prog 293 #[.bool b, .int .i64 e] w fun e w' => e = .returned (.tuple #[]) ∧ w = w' := (must_b b hb e w).mono fun _ _ h => ⟨h.1, h.2.symm⟩
/-- A new block of a value's eight cells, all nought. -/
abbrev zero8 : Obj := .cells #[.int .i64 0, .bool false, .bool false, .slice none 0 0, .int .i64 0, .string ByteArray.empty, .slice none 0 0, .slice none 0 0] 30 (0, 0)
theorem cells8 {w : World} {b : Nat} {c0 c1 c2 c3 c4 c5 c6 c7 : Value} {T : TypeId} {fz : Nat × Nat} (h : w.heap[b]? = some (.cells #[c0, c1, c2, c3, c4, c5, c6, c7] T fz)) :
    w.cell? ⟨b, 0, none⟩ = some c0 ∧ w.cell? ⟨b, 1, none⟩ = some c1 ∧ w.cell? ⟨b, 2, none⟩ = some c2 ∧ w.cell? ⟨b, 3, none⟩ = some c3 ∧ w.cell? ⟨b, 4, none⟩ = some c4 ∧ w.cell? ⟨b, 5, none⟩ = some c5 ∧ w.cell? ⟨b, 6, none⟩ = some c6 ∧ w.cell? ⟨b, 7, none⟩ = some c7 :=
  ⟨cell_heap h 0, cell_heap h 1, cell_heap h 2, cell_heap h 3, cell_heap h 4, cell_heap h 5, cell_heap h 6, cell_heap h 7⟩
set_option maxRecDepth 20000 in
theorem plain_null (R n : Value) (w : World) :
    Calls Tryz.prog 304 #[R, .int .i64 22, n] w fun e w' => e = .returned (.agg #[.int .i64 1, .bool false, .bool false, .slice none 0 0, .int .i64 0, .string ⟨#[]⟩, .slice none 0 0, .slice none 0 0]) ∧ G w.heap.size none w w' := by
  go_enter Tryz.func304, Tryz.ntmps304
  go_wp2
  exact bodyPost_ret (v := .agg #[.int .i64 1, .bool false, .bool false, .slice none 0 0, .int .i64 0, .string ⟨#[]⟩, .slice none 0 0, .slice none 0 0]) (by simp [results, Tryz.results304, go_sem]) rfl ⟨rfl, (G.refl _ _ _).alloc _ (Nat.le_refl _)⟩
/-- A value's cells, eight of one cell each. -/
def Eight (v : Value) : Prop := ∃ (k : Int) (b ng : Bool) (AM : Option Addr) (nM cM : Nat) (e : Int) (s : ByteArray) (AK : Option Addr) (nK cK : Nat) (AV : Option Addr) (nV cV : Nat),
  v = .agg #[.int .i64 k, .bool b, .bool ng, .slice AM nM cM, .int .i64 e, .string s, .slice AK nK cK, .slice AV nV cV]
set_option maxRecDepth 20000 in
set_option maxHeartbeats 400000 in
theorem value_null (R B n cap : Nat) (L : List UInt8) (a nd deep : Int) (w : World) (h0 : 0 ≤ a) (h1 : a < n) (hL : L.length = n) (hn : n ≤ 1000000) (hcap : n ≤ cap) (hcap2 : cap ≤ 9223372036854775807)
    (hd : deep ≤ 64) (hnd0 : 0 ≤ nd) (hnd : nd < 2000) (hr : Rdr 330 w R B n cap a nd) (hB : BY w B L) (hBR : B ≠ R) (hc : byt L a = 246) :
    Calls Tryz.prog 294 #[.pointer (some ⟨R, 0, none⟩), .int .i64 deep] w fun e w' => ∃ v, e = .returned v ∧ Eight v ∧ G w.heap.size (some R) w w' ∧ Rdr 330 w' R B n cap (a + 1) (nd + 1) := by
  have hb := hB.at_ a h0 (by omega)
  rw [hc] at hb
  have hRlt := hr.lt
  have hBlt := hB.1
  have hne : ¬ R = w.heap.size := by omega
  have hne2 : ¬ w.heap.size = R := by omega
  have HR := Lib.hid (hr.alloc zero8)
  have HB := Lib.hid hB; clear hB
  have Hb := Lib.hid (show (w.alloc zero8).cell? ⟨B, a.toNat, none⟩ = some (.int .u8 246) from (World.cell?_of_block (Below.heap_alloc w zero8 B hBlt)).trans hb); clear hb hr
  have r2 := HR.out.c2
  have f2 := HR.out.fz 2
  go_enter Tryz.func294, Tryz.ntmps294
  go_wp2_with fail
  refine (first_ok R B n cap a nd 246 _ h0 h1 hn (by omega) HR.out Hb.out).mono ?_
  rintro e w1 ⟨rfl, q, rfl⟩
  go_wp2_with (go_at_call 293; refine (must_k _ (by first | rfl | (simp; omega)) _ _).mono ?_; rintro e w' ⟨rfl, rfl⟩)
  refine (head_small R B n cap a (nd + 1) 246 _ h0 h1 hn hcap hcap2 (by omega) (by omega) ((HR.out.drewN q).set2 _) ((cell_other _ _ _ _ _ _ hBR).trans Hb.out)).mono ?_
  rintro e w2 ⟨rfl, hg2, hr2⟩
  have hN2 : w2.heap[w.heap.size]? = some zero8 := (hg2.block w.heap.size (by simp) (some_ne hne2)).trans ((Below.heap_setCell _ _ _ _ hne2).trans (heap_new w zero8))
  have hGw : G w.heap.size (some R) w w2 := (((((G.refl w.heap.size (some R) w).alloc zero8 (Nat.le_refl _)).drewN q).set 2 (.int .i64 (nd + 1)))).trans (hg2.mono (by simp))
  have HG2 := Lib.hid hGw
  have HR2 := Lib.hid hr2
  have HN2 := Lib.hid hN2
  clear hg2 hr2 hN2 hGw
  go_wp2_with (go_at_call 293; refine (must_k _ (by first | rfl | (simp; omega)) _ _).mono ?_; rintro e w' ⟨rfl, rfl⟩)
  refine (plain_null _ _ w2).mono ?_
  rintro e w3 ⟨rfl, hg3⟩
  have hN3 : w3.heap[w.heap.size]? = some zero8 := (hg3.block w.heap.size (lt_heap HN2.out) (by simp)).trans HN2.out
  have HR3 := Lib.hid (HR2.out.g hg3 HR2.out.lt (by simp))
  have HG3 := Lib.hid (HG2.out.trans ((hg3.wide (some R)).mono HG2.out.size))
  obtain ⟨p0, p1, p2, p3, p4, p5, p6, p7⟩ := cells8 hN3
  have fz := fun i => froz_heap hN3 i
  have HN3 := Lib.hid hN3
  clear hN3 hg3 HR2 HG2 HN2
  go_wp2
  show bodyPost _ _ _ _ _ (set8 w3 w.heap.size _ _ _ _ _ _ _ _)
  have hW := set8_heap HN3.out rfl (.int .i64 1) (.bool false) (.bool false) (.slice none 0 0) (.int .i64 0) (.string ⟨#[]⟩) (.slice none 0 0) (.slice none 0 0)
  have GW := HG3.out.set8 w.heap.size (.int .i64 1) (.bool false) (.bool false) (.slice none 0 0) (.int .i64 0) (.string ⟨#[]⟩) (.slice none 0 0) (.slice none 0 0) (Nat.le_refl _)
  have RW : Rdr 330 (set8 w3 w.heap.size (.int .i64 1) (.bool false) (.bool false) (.slice none 0 0) (.int .i64 0) (.string ⟨#[]⟩) (.slice none 0 0) (.slice none 0 0)) R B n cap (a + 1) (nd + 1) := (set8_other _ _ _ _ _ _ _ _ _ _ _ hne).trans HR3.out
  generalize set8 w3 w.heap.size (.int .i64 1) (.bool false) (.bool false) (.slice none 0 0) (.int .i64 0) (.string ⟨#[]⟩) (.slice none 0 0) (.slice none 0 0) = W at *
  obtain ⟨x0, x1, x2, x3, x4, x5, x6, x7⟩ := cells8 hW
  exact bodyPost_ret (v := .agg #[.int .i64 1, .bool false, .bool false, .slice none 0 0, .int .i64 0, .string ⟨#[]⟩, .slice none 0 0, .slice none 0 0]) (by simp [results, Tryz.results294, go_sem, x0, x1, x2, x3, x4, x5, x6, x7]) rfl
    ⟨_, rfl, ⟨_, _, _, _, _, _, _, _, _, _, _, _, _, _, rfl⟩, GW, RW⟩
end Go.Proofs.YtcfjiaogdmjlbaaGreat
