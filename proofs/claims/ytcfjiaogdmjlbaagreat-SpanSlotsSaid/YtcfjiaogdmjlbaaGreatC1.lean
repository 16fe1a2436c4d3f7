/- The walks that join the reading of an object in CBOR to the codec. -/
import Derived.Test.YtcfjiaogdmjlbaaGreatB9
import Derived.Lib.ConvBytes
namespace Go.Proofs.YtcfjiaogdmjlbaaGreat
open Go.RowKit
set_option maxRecDepth 20000 in
set_option maxHeartbeats 800000 in
theorem cdecode_object (B n cap : Nat) (L : List UInt8) (ks : List ByteArray) (w : World) (hn0 : 0 < n) (hL : L.length = n) (hn : n ≤ 32768) (hcap : n ≤ cap) (hcap2 : cap ≤ 9223372036854775807)
    (hB : BY w B L) (hm : ks.length < 24) (hc : byt L 0 = 160 + (ks.length : Nat)) (hi : Items L ks 1 n) (htw : twAux [] ks 0 = (0, false)) :
    Calls Tryz.prog 290 #[.slice (some ⟨B, 0, none⟩) n cap] w fun e w' => ∃ v, e = .returned (.tuple #[v, .int .i64 0]) ∧ Eight v ∧ G w.heap.size none w w' := by
  have HA := Lib.hid (all_object B n cap L ks (w.alloc zero8) hn0 hL hn hcap hcap2 (hB.g (R := none) ((G.refl w.heap.size none w).alloc zero8 (Nat.le_refl _)) hB.1 (by simp)) hm hc hi htw)
  clear hB hc hi htw
  go_enter Tryz.func290, Tryz.ntmps290
  go_wp2_with fail
  refine HA.out.mono ?_
  rintro e w1 ⟨v, rfl, hv, hg1⟩
  obtain ⟨k0, b0, g0, AM0, nM0, cM0, e0, s0, AK0, nK0, cK0, AV0, nV0, cV0, rfl⟩ := hv
  have hN1 := hg1.newest (by simp)
  have HG := Lib.hid hg1.past
  have hlt1 := lt_heap hN1
  have hne1 : ¬ w.heap.size = w1.heap.size := by omega
  obtain ⟨p0, p1, p2, p3, p4, p5, p6, p7⟩ := cells8 hN1
  have fz := fun i => froz_heap hN1 i
  have HN1 := Lib.hid hN1
  clear hN1 hg1 HA
  go_wp2
  show bodyPost _ _ _ _ _ ((set8 w1 w.heap.size _ _ _ _ _ _ _ _).alloc (.cells #[.int .i64 k0, .bool b0, .bool g0, .slice AM0 nM0 cM0, .int .i64 e0, .string s0, .slice AK0 nK0 cK0, .slice AV0 nV0 cV0] 30))
  have hW := set8_heap HN1.out rfl (.int .i64 k0) (.bool b0) (.bool g0) (.slice AM0 nM0 cM0) (.int .i64 e0) (.string s0) (.slice AK0 nK0 cK0) (.slice AV0 nV0 cV0)
  have GW := HG.out.set8 w.heap.size (.int .i64 k0) (.bool b0) (.bool g0) (.slice AM0 nM0 cM0) (.int .i64 e0) (.string s0) (.slice AK0 nK0 cK0) (.slice AV0 nV0 cV0) (Nat.le_refl _)
  generalize set8 w1 w.heap.size (.int .i64 k0) (.bool b0) (.bool g0) (.slice AM0 nM0 cM0) (.int .i64 e0) (.string s0) (.slice AK0 nK0 cK0) (.slice AV0 nV0 cV0) = W0 at *
  have hW := (Below.heap_alloc W0 (.cells #[.int .i64 k0, .bool b0, .bool g0, .slice AM0 nM0 cM0, .int .i64 e0, .string s0, .slice AK0 nK0 cK0, .slice AV0 nV0 cV0] 30) _ (lt_heap hW)).trans hW
  have GW := GW.alloc (.cells #[.int .i64 k0, .bool b0, .bool g0, .slice AM0 nM0 cM0, .int .i64 e0, .string s0, .slice AK0 nK0 cK0, .slice AV0 nV0 cV0] 30) GW.size
  generalize W0.alloc (.cells #[.int .i64 k0, .bool b0, .bool g0, .slice AM0 nM0 cM0, .int .i64 e0, .string s0, .slice AK0 nK0 cK0, .slice AV0 nV0 cV0] 30) = W at *
  obtain ⟨x0, x1, x2, x3, x4, x5, x6, x7⟩ := cells8 hW
  exact bodyPost_ret (v := .tuple #[.agg #[.int .i64 k0, .bool b0, .bool g0, .slice AM0 nM0 cM0, .int .i64 e0, .string s0, .slice AK0 nK0 cK0, .slice AV0 nV0 cV0], .int .i64 0]) (by simp [results, Tryz.results290, go_sem, x0, x1, x2, x3, x4, x5, x6, x7]) rfl
    ⟨_, rfl, ⟨_, _, _, _, _, _, _, _, _, _, _, _, _, _, rfl⟩, GW⟩
/-- A string turned into bytes: a new block that holds them. -/
theorem conv_bytes (w : World) (s : ByteArray) (hs : s.size ≤ 1000000) : ∃ W cap, (convert 9 59 (.string s)).run Tryz.prog w = .ok (.slice (some ⟨w.heap.size, 0, none⟩) s.size cap) W ∧
    BY W w.heap.size s.data.toList ∧ G w.heap.size none w W ∧ s.size ≤ cap ∧ cap ≤ 9223372036854775807 := by
  refine ⟨Lib.bytesWorld w 5 s, _, Lib.run_convert_string_bytes (P := Tryz.prog) w 9 59 5 s Tryz.underlying9 Tryz.underlying59 Tryz.underlying5, ⟨by rw [Lib.bytesWorld_size]; omega, fun i hi => ?_⟩,
    ⟨rfl, rfl, rfl, by rw [Lib.bytesWorld_size]; omega, fun k hk _ => Lib.bytesWorld_at_old w 5 s k hk⟩, grownCap_ge _ _ _ _, ?_⟩
  · have hi' : i < s.size := by simpa using hi
    exact Lib.bytesWorld_cell w 5 s i hi'
  · have := grownCap_le_maxLen w s.size 0 5 (by unfold maxLen; omega)
    simpa [maxLen] using this
set_option maxRecDepth 20000 in
set_option maxHeartbeats 800000 in
theorem concise_object (s : ByteArray) (ks : List ByteArray) (w : World) (hn0 : 0 < s.size) (hn : s.size ≤ 32768)
    (hm : ks.length < 24) (hc : byt s.data.toList 0 = 160 + (ks.length : Nat)) (hi : Items s.data.toList ks 1 s.size) (htw : twAux [] ks 0 = (0, false)) :
    Calls Tryz.prog 288 #[.agg #[], .string s] w fun e w' => ∃ v, e = .returned (.tuple #[v, .int .i64 0]) ∧ Eight v ∧ G w.heap.size none w w' := by
  have HA := Lib.hid (fun (B cap : Nat) (W : World) h1 h2 h3 => cdecode_object B s.size cap s.data.toList ks W hn0 (by simp) hn h1 h2 h3 hm hc hi htw)
  clear hc hi htw
  obtain ⟨W, cap, hcv, hBY, hg, hc1, hc2⟩ := conv_bytes ((w.alloc (.cells #[] 153)).alloc zero8) s (by omega)
  have hsz : ((w.alloc (.cells #[] 153)).alloc zero8).heap.size = w.heap.size + 1 + 1 := by simp
  rw [hsz] at hcv hBY
  change (convert 9 59 (.string s)).run Tryz.prog ((w.alloc (.cells #[] 153)).alloc (.cells #[.int .i64 0, .bool false, .bool false, .slice none 0 0, .int .i64 0, .string ⟨#[]⟩, .slice none 0 0, .slice none 0 0] 30)) = _ at hcv
  have hN : W.heap[w.heap.size + 1]? = some zero8 := (hg.block (w.heap.size + 1) (by simp) (by simp)).trans (by have h := heap_new (w.alloc (.cells #[] 153)) zero8; simpa using h)
  have gW : G w.heap.size none w W := (((G.refl w.heap.size none w).alloc _ (Nat.le_refl _)).alloc _ (by simp)).trans (hg.mono (by simp; omega))
  have HG := Lib.hid gW
  have HN := Lib.hid hN
  have HB := Lib.hid hBY
  clear hN gW hg hsz hBY
  go_enter Tryz.func288, Tryz.ntmps288
  go_wp2_with fail
  refine (HA.out (w.heap.size + 1 + 1) cap W hc1 hc2 HB.out).mono ?_
  rintro e w1 ⟨v, rfl, hv, hg1⟩
  obtain ⟨k0, b0, g0, AM0, nM0, cM0, e0, s0, AK0, nK0, cK0, AV0, nV0, cV0, rfl⟩ := hv
  have hN1 : w1.heap[w.heap.size + 1]? = some zero8 := (hg1.block _ (lt_heap HN.out) (by simp)).trans HN.out
  have HG1 := Lib.hid (HG.out.trans (hg1.mono HG.out.size))
  obtain ⟨p0, p1, p2, p3, p4, p5, p6, p7⟩ := cells8 hN1
  have fz := fun i => froz_heap hN1 i
  have HN1 := Lib.hid hN1
  clear hN1 hg1 HA HB hcv
  go_wp2
  show bodyPost _ _ _ _ _ (set8 w1 (w.heap.size + 1) _ _ _ _ _ _ _ _)
  have hW := set8_heap HN1.out rfl (.int .i64 k0) (.bool b0) (.bool g0) (.slice AM0 nM0 cM0) (.int .i64 e0) (.string s0) (.slice AK0 nK0 cK0) (.slice AV0 nV0 cV0)
  have GW := HG1.out.set8 (w.heap.size + 1) (.int .i64 k0) (.bool b0) (.bool g0) (.slice AM0 nM0 cM0) (.int .i64 e0) (.string s0) (.slice AK0 nK0 cK0) (.slice AV0 nV0 cV0) (by omega)
  generalize set8 w1 (w.heap.size + 1) (.int .i64 k0) (.bool b0) (.bool g0) (.slice AM0 nM0 cM0) (.int .i64 e0) (.string s0) (.slice AK0 nK0 cK0) (.slice AV0 nV0 cV0) = W0 at *
  obtain ⟨x0, x1, x2, x3, x4, x5, x6, x7⟩ := cells8 hW
  exact bodyPost_ret (v := .tuple #[.agg #[.int .i64 k0, .bool b0, .bool g0, .slice AM0 nM0 cM0, .int .i64 e0, .string s0, .slice AK0 nK0 cK0, .slice AV0 nV0 cV0], .int .i64 0]) (by simp [results, Tryz.results288, go_sem, x0, x1, x2, x3, x4, x5, x6, x7]) rfl
    ⟨_, rfl, ⟨_, _, _, _, _, _, _, _, _, _, _, _, _, _, rfl⟩, GW⟩
set_option maxRecDepth 20000 in
theorem of_two (w : World) : Calls Tryz.prog 79 #[.int .i64 2] w fun e w' => e = .returned (.tuple #[.iface 153 (.agg #[]), .bool true]) ∧ w = w' := by
  go_enter Tryz.func79, Tryz.ntmps79
  go_wp2
  go_ret2
  exact ⟨rfl, rfl⟩
set_option maxRecDepth 20000 in
theorem of_three (w : World) : Calls Tryz.prog 79 #[.int .i64 3] w fun e w' => e = .returned (.tuple #[.iface 154 (.agg #[]), .bool true]) ∧ w = w' := by
  go_enter Tryz.func79, Tryz.ntmps79
  go_wp2
  go_ret2
  exact ⟨rfl, rfl⟩
theorem method_cbor (w : World) : (method 453 153 (.agg #[]) "erratum/codec.decode").run Tryz.prog w = .ok (288, .agg #[]) w := by kernel_rfl
theorem method_pack (w : World) : (method 453 154 (.agg #[]) "erratum/codec.decode").run Tryz.prog w = .ok (327, .agg #[]) w := by kernel_rfl
set_option maxRecDepth 20000 in
set_option maxHeartbeats 800000 in
theorem codec_cbor (s : ByteArray) (ks : List ByteArray) (w : World) (hn0 : 0 < s.size) (hn : s.size ≤ 32768)
    (hm : ks.length < 24) (hc : byt s.data.toList 0 = 160 + (ks.length : Nat)) (hi : Items s.data.toList ks 1 s.size) (htw : twAux [] ks 0 = (0, false)) :
    Calls Tryz.prog 52 #[.int .i64 2, .string s] w fun e w' => ∃ v, e = .returned (.tuple #[v, .int .i64 0]) ∧ Eight v ∧ G w.heap.size none w w' := by
  have HA := Lib.hid (concise_object s ks (w.alloc zero8) hn0 hn hm hc hi htw)
  clear hc hi htw
  have hmt := method_cbor
  go_enter Tryz.func52, Tryz.ntmps52
  go_wp2_with (go_at_call 79; refine (of_two _).mono ?_; rintro e w' ⟨rfl, rfl⟩)
  refine HA.out.mono ?_
  rintro e w1 ⟨v, rfl, hv, hg1⟩
  obtain ⟨k0, b0, g0, AM0, nM0, cM0, e0, s0, AK0, nK0, cK0, AV0, nV0, cV0, rfl⟩ := hv
  have hN1 := hg1.newest (by simp)
  have HG := Lib.hid hg1.past
  obtain ⟨p0, p1, p2, p3, p4, p5, p6, p7⟩ := cells8 hN1
  have fz := fun i => froz_heap hN1 i
  have HN1 := Lib.hid hN1
  clear hN1 hg1 HA hmt
  go_wp2
  show bodyPost _ _ _ _ _ (set8 w1 w.heap.size _ _ _ _ _ _ _ _)
  have hW := set8_heap HN1.out rfl (.int .i64 k0) (.bool b0) (.bool g0) (.slice AM0 nM0 cM0) (.int .i64 e0) (.string s0) (.slice AK0 nK0 cK0) (.slice AV0 nV0 cV0)
  have GW := HG.out.set8 w.heap.size (.int .i64 k0) (.bool b0) (.bool g0) (.slice AM0 nM0 cM0) (.int .i64 e0) (.string s0) (.slice AK0 nK0 cK0) (.slice AV0 nV0 cV0) (Nat.le_refl _)
  generalize set8 w1 w.heap.size (.int .i64 k0) (.bool b0) (.bool g0) (.slice AM0 nM0 cM0) (.int .i64 e0) (.string s0) (.slice AK0 nK0 cK0) (.slice AV0 nV0 cV0) = W0 at *
  obtain ⟨x0, x1, x2, x3, x4, x5, x6, x7⟩ := cells8 hW
  exact bodyPost_ret (v := .tuple #[.agg #[.int .i64 k0, .bool b0, .bool g0, .slice AM0 nM0 cM0, .int .i64 e0, .string s0, .slice AK0 nK0 cK0, .slice AV0 nV0 cV0], .int .i64 0]) (by simp [results, Tryz.results52, go_sem, x0, x1, x2, x3, x4, x5, x6, x7]) rfl
    ⟨_, rfl, ⟨_, _, _, _, _, _, _, _, _, _, _, _, _, _, rfl⟩, GW⟩
/-- Bytes of CBOR or Pack that are read without an error. -/
theorem right_of (f : Int) (s : ByteArray) (w : World) (hf : f = 2 ∨ f = 3) (h : Calls Tryz.prog 52 #[.int .i64 f, .string s] w fun e w' => ∃ v, e = .returned (.tuple #[v, .int .i64 0]) ∧ Eight v ∧ G w.heap.size none w w') :
    Calls Tryz.prog 26 #[.int .i64 f, .string s] w fun e w' => e = .returned (.bool true) ∧ G w.heap.size none w w' := by
  have H := Lib.hid h; clear h
  have hb : (f == 2 || f == 3) = true := by rcases hf with rfl | rfl <;> rfl
  go_enter Tryz.func26, Tryz.ntmps26
  go_wp2_with fail
  refine H.out.mono ?_
  rintro e w1 ⟨v, rfl, hv, hg1⟩
  obtain ⟨k0, b0, g0, AM0, nM0, cM0, e0, s0, AK0, nK0, cK0, AV0, nV0, cV0, rfl⟩ := hv
  have HG := Lib.hid hg1; clear hg1
  rcases hf with rfl | rfl
  all_goals
    go_wp2
    go_ret
    exact ⟨rfl, HG.out.alloc _ HG.out.size⟩
end Go.Proofs.YtcfjiaogdmjlbaaGreat
