/- The walks of the Pack reader's heads and texts. -/
import Derived.Test.YtcfjiaogdmjlbaaGreatC1
namespace Go.Proofs.YtcfjiaogdmjlbaaGreat
open Go.RowKit
theorem bits15 (b : Int) (hb : b = 128 ∨ b = 144) (c : Int) (h : 0 ≤ c ∧ c < 16) : bits BinOp.and IntKind.u64 (b + c) 15 = c := by
  have : ∀ n : Fin 16, bits BinOp.and IntKind.u64 (128 + ((n : Nat) : Int)) 15 = ((n : Nat) : Int) ∧ bits BinOp.and IntKind.u64 (144 + ((n : Nat) : Int)) 15 = ((n : Nat) : Int) := by decide
  have := this ⟨c.toNat, by omega⟩
  simp only [show ((c.toNat : Nat) : Int) = c by omega] at this
  rcases hb with rfl | rfl
  · exact this.1
  · exact this.2
theorem bits31 (c : Int) (h : 0 ≤ c ∧ c < 32) : bits BinOp.and IntKind.u64 (160 + c) 31 = c := by
  have : ∀ n : Fin 32, bits BinOp.and IntKind.u64 (160 + ((n : Nat) : Int)) 31 = ((n : Nat) : Int) := by decide
  have := this ⟨c.toNat, by omega⟩
  simpa only [show ((c.toNat : Nat) : Int) = c by omega] using this
theorem mof_low (c : Int) (w : World) (h : 0 ≤ c ∧ c < 128) :
    Calls Tryz.prog 116 #[.int .u8 (c)] w fun e w' => e = .returned (.tuple #[.agg #[.int .i64 4, .int .i64 0, .int .u64 c, .bool false], .bool true]) ∧ Below w.heap.size w w' := by
  go_enter Tryz.func116, Tryz.ntmps116
  go_wp2
  exact bodyPost_ret (v := .tuple #[.agg #[.int .i64 4, .int .i64 0, .int .u64 c, .bool false], .bool true]) (by simp [results, Tryz.results116, go_sem]) rfl ⟨rfl, ((G.refl w.heap.size none w).alloc _ (Nat.le_refl _)).below⟩
theorem mof_map (c : Int) (w : World) (h : 0 ≤ c ∧ c < 16) :
    Calls Tryz.prog 116 #[.int .u8 (128 + c)] w fun e w' => e = .returned (.tuple #[.agg #[.int .i64 10, .int .i64 0, .int .u64 c, .bool false], .bool true]) ∧ Below w.heap.size w w' := by
  have hx := bits15 128 (.inl rfl) c h
  go_enter Tryz.func116, Tryz.ntmps116
  go_wp2
  exact bodyPost_ret (v := .tuple #[.agg #[.int .i64 10, .int .i64 0, .int .u64 c, .bool false], .bool true]) (by simp [results, Tryz.results116, go_sem, hx]) rfl ⟨rfl, ((G.refl w.heap.size none w).alloc _ (Nat.le_refl _)).below⟩
theorem mof_arr (c : Int) (w : World) (h : 0 ≤ c ∧ c < 16) :
    Calls Tryz.prog 116 #[.int .u8 (144 + c)] w fun e w' => e = .returned (.tuple #[.agg #[.int .i64 9, .int .i64 0, .int .u64 c, .bool false], .bool true]) ∧ Below w.heap.size w w' := by
  have hx := bits15 144 (.inr rfl) c h
  go_enter Tryz.func116, Tryz.ntmps116
  go_wp2
  exact bodyPost_ret (v := .tuple #[.agg #[.int .i64 9, .int .i64 0, .int .u64 c, .bool false], .bool true]) (by simp [results, Tryz.results116, go_sem, hx]) rfl ⟨rfl, ((G.refl w.heap.size none w).alloc _ (Nat.le_refl _)).below⟩
theorem mof_txt (c : Int) (w : World) (h : 0 ≤ c ∧ c < 32) :
    Calls Tryz.prog 116 #[.int .u8 (160 + c)] w fun e w' => e = .returned (.tuple #[.agg #[.int .i64 7, .int .i64 0, .int .u64 c, .bool false], .bool true]) ∧ Below w.heap.size w w' := by
  have hx := bits31 c h
  go_enter Tryz.func116, Tryz.ntmps116
  go_wp2
  exact bodyPost_ret (v := .tuple #[.agg #[.int .i64 7, .int .i64 0, .int .u64 c, .bool false], .bool true]) (by simp [results, Tryz.results116, go_sem, hx]) rfl ⟨rfl, ((G.refl w.heap.size none w).alloc _ (Nat.le_refl _)).below⟩
theorem mof_nil (w : World) :
    Calls Tryz.prog 116 #[.int .u8 (192)] w fun e w' => e = .returned (.tuple #[.agg #[.int .i64 1, .int .i64 0, .int .u64 0, .bool false], .bool true]) ∧ Below w.heap.size w w' := by
  go_enter Tryz.func116, Tryz.ntmps116
  go_wp2
  exact bodyPost_ret (v := .tuple #[.agg #[.int .i64 1, .int .i64 0, .int .u64 0, .bool false], .bool true]) (by simp [results, Tryz.results116, go_sem]) rfl ⟨rfl, ((G.refl w.heap.size none w).alloc _ (Nat.le_refl _)).below⟩
/-- What mhead.of says of a byte. -/
def Hd (c k v : Int) : Prop := (k = 4 ∧ v = c ∧ 0 ≤ c ∧ c < 128) ∨ (k = 10 ∧ 0 ≤ v ∧ v < 16 ∧ c = 128 + v) ∨ (k = 9 ∧ 0 ≤ v ∧ v < 16 ∧ c = 144 + v) ∨ (k = 7 ∧ 0 ≤ v ∧ v < 32 ∧ c = 160 + v) ∨ (k = 1 ∧ v = 0 ∧ c = 192)
theorem Hd.bd {c k v : Int} (h : Hd c k v) : 0 ≤ c ∧ c < 256 ∧ 0 ≤ v ∧ v < 128 ∧ (k = 4 ∨ k = 10 ∨ k = 9 ∨ k = 7 ∨ k = 1) := by unfold Hd at h; omega
theorem mof_any {c k v : Int} (h : Hd c k v) (w : World) :
    Calls Tryz.prog 116 #[.int .u8 c] w fun e w' => e = .returned (.tuple #[.agg #[.int .i64 k, .int .i64 0, .int .u64 v, .bool false], .bool true]) ∧ Below w.heap.size w w' := by
  rcases h with ⟨rfl, rfl, h⟩ | ⟨rfl, h1, h2, rfl⟩ | ⟨rfl, h1, h2, rfl⟩ | ⟨rfl, h1, h2, rfl⟩ | ⟨rfl, rfl, rfl⟩
  · exact mof_low _ w h
  · exact mof_map _ w ⟨h1, h2⟩
  · exact mof_arr _ w ⟨h1, h2⟩
  · exact mof_txt _ w ⟨h1, h2⟩
  · exact mof_nil w
set_option maxHeartbeats 400000 in
theorem mget_ok (B n cap : Nat) (at_ c k v : Int) (w : World) (h0 : 0 ≤ at_) (h1 : at_ < n) (hn : n ≤ 1000000) (hcap : n ≤ cap) (hcap2 : cap ≤ 9223372036854775807) (hB : B < w.heap.size) (hh : Hd c k v)
    (hb : w.cell? ⟨B, at_.toNat, none⟩ = some (.int .u8 c)) :
    Calls Tryz.prog 87 #[.slice (some ⟨B, 0, none⟩) n cap, .int .i64 at_] w fun e w' => e = .returned (.tuple #[.int .i64 k, .int .u64 v, .int .i64 (at_ + 1), .int .i64 0]) ∧ G w.heap.size none w w' := by
  have e1 : (at_ == (n : Int)) = false := by rw [beq_eq_false_iff_ne]; omega
  have hbd := hh.bd
  have e2 : (k == 11) = false := by rw [beq_eq_false_iff_ne]; omega
  have e3 : ((n : Int) - at_ - 1 < 0) = False := by simp; omega
  have HH := Lib.hid hh; clear hh
  go_enter Tryz.func87, Tryz.ntmps87
  go_wp2_with (go_at_call 116; refine (mof_any HH.out _).mono ?_; rintro e w1 ⟨rfl, hw1⟩)
  all_goals
    have hG := G.of_below (R := none) hw1
    clear hw1
    refine wp_loop_once ?_
    go_wp2
    refine bodyPost_ret (v := .tuple #[.int .i64 k, .int .u64 v, .int .i64 (at_ + 1), .int .i64 0]) (by simp [results, Tryz.results87, go_sem]) rfl ⟨rfl, hG.alloc _ hG.size⟩
theorem pmust (b : Bool) (hb : b = true) (e : Int) (w : World) :
    Calls Tryz.prog 332 #[.bool b, .int .i64 e] w fun e w' => e = .returned (.tuple #[]) ∧ w = w' := by
  subst hb
  go_enter Tryz.func332, Tryz.ntmps332
  go_wp2
  go_end0
  exact ⟨rfl, rfl⟩
set_option maxHeartbeats 400000 in
theorem phead (R B n cap : Nat) (a nd c k v : Int) (w : World) (h0 : 0 ≤ a) (h1 : a < n) (hn : n ≤ 1000000) (hcap : n ≤ cap) (hcap2 : cap ≤ 9223372036854775807) (hB : B < w.heap.size) (hh : Hd c k v)
    (hr : Rdr 351 w R B n cap a nd) (hb : w.cell? ⟨B, a.toNat, none⟩ = some (.int .u8 c)) :
    Calls Tryz.prog 334 #[.pointer (some ⟨R, 0, none⟩)] w fun e w' => e = .returned (.tuple #[.int .i64 k, .int .u64 v]) ∧ G w.heap.size (some R) w w' ∧ Rdr 351 w' R B n cap (a + 1) nd := by
  have r0 := hr.c0
  have r1 := hr.c1
  have rlt := hr.lt
  have HM := Lib.hid (fun (w' : World) (hg : G w.heap.size none w w') => mget_ok B n cap a c k v w' h0 h1 hn hcap hcap2 (Nat.lt_of_lt_of_le hB hg.size) hh ((hg.cell hB (by simp)).trans hb))
  have HR := Lib.hid hr; clear hr hb
  go_enter Tryz.func334, Tryz.ntmps334
  go_wp2
  go_region_held3 (fun w' => G w.heap.size none w w' ∧ w'.cell? ⟨R, 0, none⟩ = some (.slice (some ⟨B, 0, none⟩) n cap) ∧ w'.cell? ⟨R, 1, none⟩ = some (.int .i64 a)) (first | exact ⟨(G.refl _ _ _).drew, r0, r1⟩ | assumption) (first | (go_at_call 87; go_loud (refine (HM.out _ (And.left (by assumption))).mono ?_); rintro e w2 ⟨rfl, hg2⟩; have hS := (show G w.heap.size none w _ ∧ _ ∧ _ from by assumption); have hS2 := And.intro (hS.1.trans (hg2.mono hS.1.size)) (And.intro ((hg2.cell (Nat.lt_of_lt_of_le rlt hS.1.size) (by simp)).trans hS.2.1) ((hg2.cell (Nat.lt_of_lt_of_le rlt hS.1.size) (by simp)).trans hS.2.2))))
  clear HM
  have HS := Lib.hid hS2.1
  have HR2 := Lib.hid (HR.out.g hS2.1 rlt (by simp))
  clear hS hS2 hg2 r0 r1 HR
  have f1 := HR2.out.fz 1
  go_wp2_with (go_at_call 332; refine (pmust _ (by first | rfl | (simp; omega)) _ _).mono ?_; rintro e w' ⟨rfl, rfl⟩)
  go_ret2
  exact ⟨rfl, (HS.out.wide _).set _ _, HR2.out.set1 _⟩
set_option maxRecDepth 20000 in
set_option maxHeartbeats 400000 in
theorem ptake (R B n cap : Nat) (L : List UInt8) (a nd k : Int) (w : World) (h0 : 0 ≤ a) (hk : 0 ≤ k ∧ k ≤ 2000) (h1 : a + k < n) (hL : L.length = n) (hn : n ≤ 1000000) (hcap : n ≤ cap) (hcap2 : cap ≤ 9223372036854775807)
    (hr : Rdr 351 w R B n cap a nd) (hB : BY w B L) (hBR : B ≠ R) :
    Calls Tryz.prog 338 #[.pointer (some ⟨R, 0, none⟩), .int .u64 k] w fun e w' => e = .returned (.string (sub L a.toNat k.toNat)) ∧ G w.heap.size (some R) w w' ∧ Rdr 351 w' R B n cap (a + k) nd := by
  have r0 := hr.c0
  have r1 := hr.c1
  have rf := hr.fz 1
  have HX := Lib.hid (fun (w' : World) (c : Nat) (h : BY w' B L) => conv_sub h a.toNat k.toNat c (by omega))
  have HR := Lib.hid hr; clear hr
  have HB := Lib.hid (fun (x : Value) (q : Nat) => (show BY (w.drewN q) B L from hB).g (((G.refl (w.drewN q).heap.size (some R) _).set 1 x).drew) hB.1 (some_ne hBR)); clear hB
  go_enter Tryz.func338, Tryz.ntmps338
  go_wp2_with (go_at_call 332; refine (pmust _ (by first | rfl | (simp; omega)) _ _).mono ?_; rintro e w' ⟨rfl, rfl⟩)
  have i1 : IntKind.i64.wrap ((n : Int) - a) = (n : Int) - a := IntWalk.i64_in _ (by omega)
  go_quiet ((go_at_call 332; exact Calls.quiet_of_same ((pmust _ (by simp; omega) _ _).mono fun _ _ h => ⟨h.1, h.2.symm⟩)))
  go_wp2
  have i2 : IntKind.i64.wrap (a + k - k) = a := by rw [show a + k - k = a by omega]; exact IntWalk.i64_in _ (by omega)
  have hx : ∀ q : Nat, (convert 59 9 (.slice (some ⟨B, a.toNat, none⟩) ((a + k).toNat - a.toNat) (cap - a.toNat))).run Tryz.prog (((w.drewN nq).setCell ⟨R, 1, none⟩ (.int .i64 (a + k))).drewN q) = .ok (.string (sub L a.toNat k.toNat)) (((w.drewN nq).setCell ⟨R, 1, none⟩ (.int .i64 (a + k))).drewN q) := fun q => by
    rw [show (a + k).toNat - a.toNat = k.toNat by omega]
    exact HX.out _ _ (HB.out (.int .i64 (a + k)) nq)
  go_quiet (fail)
  go_wp2
  go_ret
  exact ⟨rfl, (((G.refl _ _ _).drewN _).set _ _).drewN _, ((HR.out.drewN _).set1 _).drewN _⟩
set_option maxHeartbeats 400000 in
theorem ptext (R B n cap : Nat) (L : List UInt8) (a nd k : Int) (w : World) (h0 : 0 ≤ a) (hk : 0 ≤ k ∧ k ≤ 2000) (h1 : a + k < n) (hL : L.length = n) (hn : n ≤ 1000000) (hcap : n ≤ cap) (hcap2 : cap ≤ 9223372036854775807)
    (hr : Rdr 351 w R B n cap a nd) (hB : BY w B L) (hBR : B ≠ R) (hs : ∀ i (h : i < (sub L a.toNat k.toNat).size), ((sub L a.toNat k.toNat)[i]'h).toNat < 128) :
    Calls Tryz.prog 337 #[.pointer (some ⟨R, 0, none⟩), .int .u64 k] w fun e w' => e = .returned (.string (sub L a.toNat k.toNat)) ∧ G w.heap.size (some R) w w' ∧ Rdr 351 w' R B n cap (a + k) nd := by
  have hRlt := hr.lt
  have hsz := sub_size L a.toNat k.toNat (by omega)
  have HT := Lib.hid (ptake R B n cap L a nd k w h0 hk h1 hL hn hcap hcap2 hr hB hBR)
  have HS := Lib.hid (And.intro hs hsz); clear hs hsz hr hB hL
  go_enter Tryz.func337, Tryz.ntmps337
  go_wp2_with (first | (go_at_call 338; refine HT.out.mono ?_; rintro e w1 ⟨rfl, hg1, hr1⟩) | (go_at_call 314; refine (utf_ascii _ HS.out.1 (by have := HS.out.2; omega) _).mono ?_; rintro e w2 ⟨rfl, hg2⟩) | (go_at_call 332; refine (pmust _ rfl _ _).mono ?_; rintro e w' ⟨rfl, rfl⟩))
  go_ret
  exact ⟨rfl, hg1.trans (hg2.wide _ |>.mono hg1.size), hr1.g (hg2.wide none) (Nat.lt_of_lt_of_le hRlt hg1.size) (by simp)⟩
/-- A name stands there: its head, its bytes. -/
theorem pname (R B n cap : Nat) (L : List UInt8) (pos : Nat) (nd : Int) (key : ByteArray) (w : World) (hk : key.size < 32) (h1 : pos + 1 + key.size < n) (hL : L.length = n) (hn : n ≤ 1000000) (hcap : n ≤ cap) (hcap2 : cap ≤ 9223372036854775807)
    (hr : Rdr 351 w R B n cap ((pos + 1 : Nat) : Int) nd) (hB : BY w B L) (hBR : B ≠ R) (hsub : sub L (pos + 1) key.size = key) (hs : ∀ i (h : i < key.size), (key[i]'h).toNat < 128) :
    Calls Tryz.prog 337 #[.pointer (some ⟨R, 0, none⟩), .int .u64 (key.size : Nat)] w fun e w' => e = .returned (.string key) ∧ G w.heap.size (some R) w w' ∧ Rdr 351 w' R B n cap ((pos + 1 + key.size : Nat) : Int) nd := by
  have h := ptext R B n cap L ((pos + 1 : Nat) : Int) nd ((key.size : Nat) : Int) w (by omega) (by omega) (by omega) hL hn hcap hcap2 hr hB hBR
  simp only [Int.toNat_natCast, hsub] at h
  refine (h hs).mono ?_
  rintro e w' ⟨rfl, hg, hr'⟩
  exact ⟨rfl, hg, by rw [show ((pos + 1 + key.size : Nat) : Int) = ((pos + 1 : Nat) : Int) + ((key.size : Nat) : Int) by omega]; exact hr'⟩
end Go.Proofs.YtcfjiaogdmjlbaaGreat
