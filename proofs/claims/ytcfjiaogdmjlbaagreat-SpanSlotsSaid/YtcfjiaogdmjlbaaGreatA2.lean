/- Walks of the CBOR reader's functions that take heads, bytes, texts and names, at heads of one byte and ASCII texts. -/
import Derived.Test.YtcfjiaogdmjlbaaGreatA1
namespace Go.Proofs.YtcfjiaogdmjlbaaGreat
open Go.RowKit
/-- So many bytes of a list, from a place on, as a string. -/
def sub (L : List UInt8) (a k : Nat) : ByteArray := ⟨((L.drop a).take k).toArray⟩
theorem sub_size (L : List UInt8) (a k : Nat) (h : a + k ≤ L.length) : (sub L a k).size = k := by
  simp [sub, ByteArray.size]; omega
theorem conv_sub {w : World} {B : Nat} {L : List UInt8} (h : BY w B L) (a k c : Nat) (hk : a + k ≤ L.length) :
    (convert 59 9 (.slice (some ⟨B, a, none⟩) k c)).run Tryz.prog w = .ok (.string (sub L a k)) w := by
  have := run_convert_bytes_arg (P := Tryz.prog) w 59 5 Tryz.underlying59 Tryz.underlying5 B a k c (((L.drop a).take k).map fun b => (b.toNat : Int)) (by simp; omega) (fun i hi => by
    rw [h.2 (a + i) (by omega)]
    have e : (((L.drop a).take k).map fun b => (b.toNat : Int)).getD i 0 = ((L.getD (a + i) 0).toNat : Int) := by
      simp [List.getD, List.getElem?_take, hi, List.getElem?_drop, show a + i < L.length by omega]
    rw [e]) 9 Tryz.underlying9
  rw [this]
  have e : strOfNums (((L.drop a).take k).map fun b => (b.toNat : Int)) = sub L a k := by
    unfold strOfNums sub
    rw [List.map_map]
    have : (fun n : Int => UInt8.ofNat n.toNat) ∘ (fun b : UInt8 => (b.toNat : Int)) = id := by funext b; simp
    rw [this, List.map_id]
  rw [e]
theorem must_b (b : Bool) (hb : b = true) (e : Int) (w : World) :
    Calls Tryz.prog 293 #[.bool b, .int .i64 e] w fun e w' => e = .returned (.tuple #[]) ∧ w' = w := hb ▸ must_ok e w
set_option maxHeartbeats 400000 in
theorem head_small (R B n cap : Nat) (a nd c : Int) (w : World) (h0 : 0 ≤ a) (h1 : a < n) (hn : n ≤ 1000000) (hcap : n ≤ cap) (hcap2 : cap ≤ 9223372036854775807) (hc : 0 ≤ c ∧ c < 256) (hi : c % 32 < 24)
    (hr : Rdr 330 w R B n cap a nd) (hb : w.cell? ⟨B, a.toNat, none⟩ = some (.int .u8 c)) :
    Calls Tryz.prog 296 #[.pointer (some ⟨R, 0, none⟩)] w fun e w' => e = .returned (.tuple #[.int .i64 (c % 32), .int .u64 (c % 32)]) ∧ G w.heap.size (some R) w w' ∧ Rdr 330 w' R B n cap (a + 1) nd := by
  have r0 := hr.c0
  have r1 := hr.c1
  have rf := hr.fz 1
  have HR := Lib.hid hr; clear hr
  go_enter Tryz.func296, Tryz.ntmps296
  go_wp2
  go_quiet ((go_at_call 85; exact Calls.quiet_of (cget_small _ _ _ _ _ _ h0 h1 hn hcap hcap2 hc hi hb)))
  go_wp2_with (go_at_call 293; refine (must_ok _ _).mono ?_; rintro e w' ⟨rfl, rfl⟩)
  go_ret2
  exact ⟨rfl, ((G.refl _ _ _).drewN _).set _ _, (HR.out.drewN _).set1 _⟩
set_option maxHeartbeats 400000 in
theorem take_ok (R B n cap : Nat) (a nd k : Int) (w : World) (h0 : 0 ≤ a) (hk : 0 ≤ k) (h1 : a + k < n) (hn : n ≤ 1000000) (hcap : n ≤ cap) (hcap2 : cap ≤ 9223372036854775807)
    (hr : Rdr 330 w R B n cap a nd) :
    Calls Tryz.prog 313 #[.pointer (some ⟨R, 0, none⟩), .int .u64 k] w fun e w' => e = .returned (.slice (some ⟨B, a.toNat, none⟩) k.toNat (cap - a.toNat)) ∧ G w.heap.size (some R) w w' ∧ Rdr 330 w' R B n cap (a + k) nd := by
  have r0 := hr.c0
  have r1 := hr.c1
  have rf := hr.fz 1
  have HR := Lib.hid hr; clear hr
  go_enter Tryz.func313, Tryz.ntmps313
  go_wp2
  have i1 : IntKind.i64.wrap ((n : Int) - a) = (n : Int) - a := IntWalk.i64_in _ (by omega)
  go_quiet ((go_at_call 293; exact Calls.quiet_of_same (must_b _ (by simp; omega) _ _)))
  go_wp2
  go_quiet (fail)
  go_wp2
  go_ret
  exact ⟨ret_eq (by rw [show (a + k).toNat - a.toNat = k.toNat by omega]; rfl), (((G.refl _ _ _).drewN _).set _ _).drewN _, ((HR.out.drewN _).set1 _).drewN _⟩
set_option maxHeartbeats 400000 in
theorem piece_text (R B n cap : Nat) (L : List UInt8) (a nd k : Int) (w : World) (h0 : 0 ≤ a) (hk : 0 ≤ k) (h1 : a + k < n) (hL : L.length = n) (hn : n ≤ 1000000) (hcap : n ≤ cap) (hcap2 : cap ≤ 9223372036854775807)
    (hr : Rdr 330 w R B n cap a nd) (hB : BY w B L) (hBR : B ≠ R) (hs : ∀ i (h : i < (sub L a.toNat k.toNat).size), ((sub L a.toNat k.toNat)[i]'h).toNat < 128) :
    Calls Tryz.prog 306 #[.pointer (some ⟨R, 0, none⟩), .int .i64 3, .int .u64 k] w fun e w' => e = .returned (.string (sub L a.toNat k.toNat)) ∧ G w.heap.size (some R) w w' ∧ Rdr 330 w' R B n cap (a + k) nd := by
  have HL := Lib.hid hL; clear hL
  have hlt := hB.1
  have hRlt := hr.lt
  have hsz := sub_size L a.toNat k.toNat (by have := HL.out; omega)
  have HS := Lib.hid hs; clear hs
  have Hsz := Lib.hid hsz; clear hsz
  have HB := Lib.hid hB; clear hB
  go_enter Tryz.func306, Tryz.ntmps306
  go_wp2_with fail
  refine (take_ok R B n cap a nd k _ h0 hk h1 hn hcap hcap2 hr).mono ?_
  rintro e w1 ⟨rfl, hg, hr1⟩
  have hB1 := HB.out.g hg hlt (some_ne hBR)
  have hx := conv_sub hB1 a.toNat k.toNat (cap - a.toNat) (by have := HL.out; omega)
  have HG := Lib.hid hg; clear hg
  have HR1 := Lib.hid hr1; clear hr1
  have HB1 := Lib.hid hB1; clear hB1
  clear hr
  go_wp2_with (first | (go_at_call 314; refine (utf_ascii _ HS.out (by have := Hsz.out; omega) _).mono ?_; rintro e w2 ⟨rfl, hg2⟩) | (go_at_call 293; refine (must_ok _ _).mono ?_; rintro e w' ⟨rfl, rfl⟩))
  go_ret
  exact ⟨rfl, HG.out.trans (hg2.wide _ |>.mono HG.out.size), HR1.out.g (hg2.wide none) (Nat.lt_of_lt_of_le hRlt HG.out.size) (by simp)⟩
set_option maxHeartbeats 400000 in
theorem string_text (R B n cap : Nat) (L : List UInt8) (a nd k i : Int) (w : World) (h0 : 0 ≤ a) (hk : 0 ≤ k) (hk2 : k ≤ 2000) (h1 : a + k < n) (hL : L.length = n) (hn : n ≤ 1000000) (hcap : n ≤ cap) (hcap2 : cap ≤ 9223372036854775807) (hi : i < 24)
    (hr : Rdr 330 w R B n cap a nd) (hB : BY w B L) (hBR : B ≠ R) (hs : ∀ i (h : i < (sub L a.toNat k.toNat).size), ((sub L a.toNat k.toNat)[i]'h).toNat < 128) :
    Calls Tryz.prog 300 #[.pointer (some ⟨R, 0, none⟩), .int .i64 3, .int .i64 i, .int .u64 k] w fun e w' => e = .returned (.string (sub L a.toNat k.toNat)) ∧ G w.heap.size (some R) w w' ∧ Rdr 330 w' R B n cap (a + k) nd := by
  have hi2 : (i != 31) = true := by rw [bne_iff_ne]; omega
  have Hp := Lib.hid (piece_text R B n cap L a nd k w h0 hk h1 hL hn hcap hcap2 hr hB hBR hs)
  clear hr hB hs hL
  go_enter Tryz.func300, Tryz.ntmps300
  go_wp2_with (first | (go_at_call 293; refine (must_b _ (by first | rfl | (simp; omega)) _ _).mono ?_; rintro e w' ⟨rfl, rfl⟩) | (go_at_call 306; refine Hp.out.mono ?_; rintro e w2 ⟨rfl, hg2, hr2⟩))
  go_ret
  exact ⟨rfl, hg2, hr2⟩
set_option maxHeartbeats 400000 in
theorem more_count (R : Nat) (n had : Int) (w : World) (hh : 0 ≤ had ∧ had ≤ 1000000) :
    Calls Tryz.prog 308 #[.pointer (some ⟨R, 0, none⟩), .bool false, .int .u64 n, .int .i64 had] w fun e w' => e = .returned (.bool (decide (had < n))) ∧ w' = w := by
  go_enter Tryz.func308, Tryz.ntmps308
  go_wp2
  go_ret
  exact ⟨rfl, rfl⟩
set_option maxHeartbeats 400000 in
theorem name_ok (R B n cap : Nat) (L : List UInt8) (a nd k : Int) (w : World) (h0 : 0 ≤ a) (hk : 0 ≤ k) (hk2 : k < 24) (h1 : a + 1 + k < n) (hL : L.length = n) (hn : n ≤ 1000000) (hcap : n ≤ cap) (hcap2 : cap ≤ 9223372036854775807)
    (hr : Rdr 330 w R B n cap a nd) (hB : BY w B L) (hBR : B ≠ R) (hc : byt L a = 96 + k) (hs : ∀ i (h : i < (sub L (a + 1).toNat k.toNat).size), ((sub L (a + 1).toNat k.toNat)[i]'h).toNat < 128) :
    Calls Tryz.prog 309 #[.pointer (some ⟨R, 0, none⟩)] w fun e w' => e = .returned (.string (sub L (a + 1).toNat k.toNat)) ∧ G w.heap.size (some R) w w' ∧ Rdr 330 w' R B n cap (a + 1 + k) nd := by
  have hb := hB.at_ a h0 (by omega)
  rw [hc] at hb
  have hRlt := hr.lt
  have hBlt := hB.1
  have HL := Lib.hid hL; clear hL
  have HS := Lib.hid hs; clear hs
  have HB := Lib.hid hB; clear hB hc
  have HR := Lib.hid hr; clear hr
  have Hb := Lib.hid hb; clear hb
  go_enter Tryz.func309, Tryz.ntmps309
  go_wp2_with fail
  refine (first_ok R B n cap a nd (96 + k) w h0 (by omega) hn (by omega) HR.out Hb.out).mono ?_
  rintro e w1 ⟨rfl, q, rfl⟩
  rw [show (96 + k) / 32 = 3 by omega, show (96 + k) % 32 = k by omega]
  go_wp2_with (go_at_call 293; refine (must_b _ (by first | rfl | (simp; omega)) _ _).mono ?_; rintro e w' ⟨rfl, rfl⟩)
  refine (head_small R B n cap a nd (96 + k) _ h0 (by omega) hn hcap hcap2 (by omega) (by omega) (HR.out.drewN q) Hb.out).mono ?_
  rintro e w2 ⟨rfl, hg, hr2⟩
  rw [show (96 + k) % 32 = k by omega]
  have HG := Lib.hid hg; clear hg
  have HR2 := Lib.hid hr2; clear hr2
  go_wp2_with fail
  refine (string_text R B n cap L (a + 1) nd k k w2 (by omega) hk (by omega) (by omega) HL.out hn hcap hcap2 (by omega) HR2.out ((show BY (w.drewN q) B L from HB.out).g HG.out hBlt (some_ne hBR)) hBR HS.out).mono ?_
  rintro e w3 ⟨rfl, hg3, hr3⟩
  go_wp2
  go_ret
  exact ⟨rfl, (((G.refl _ _ _).drewN _).trans HG.out).trans (hg3.mono HG.out.size), hr3⟩
end Go.Proofs.YtcfjiaogdmjlbaaGreat
