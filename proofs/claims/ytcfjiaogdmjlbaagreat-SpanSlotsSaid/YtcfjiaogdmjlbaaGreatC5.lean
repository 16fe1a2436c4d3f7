/- The walk of a Pack object of members of which each value is of one byte. -/
import Derived.Test.YtcfjiaogdmjlbaaGreatC4
namespace Go.Proofs.YtcfjiaogdmjlbaaGreat
open Go.RowKit
/-- The loop over an object's members: what holds at a round's head. -/
def PkRel (w : World) (T R B n cap : Nat) (L : List UInt8) (z : Nat) (nd : Int) (ks : List ByteArray) (k : Nat) (vK vV vJ : Value) (wr : World) : Prop :=
  ∃ (j pos : Nat) (AK : Option Addr) (cK : Nat) (AV : Option Addr) (cV : Nat) (cs : List Value), j ≤ ks.length ∧ k = ks.length - j ∧ vJ = .int .u64 (j : Nat) ∧ vK = .slice AK j cK ∧ vV = .slice AV j cV ∧
    PItems L (ks.drop j) pos z ∧ wr.ownsRow (w.heap.size + 1) 9 1 vK j ((ks.take j).map Value.string) ∧ wr.ownsRow (w.heap.size + 1) 30 8 vV j cs ∧ (∀ u ∈ cs, u.oneCell' = true) ∧
    Rdr T wr R B n cap (pos : Nat) (nd + j) ∧ wr.heap[w.heap.size]? = some zero8 ∧ G w.heap.size (some R) w wr
set_option maxRecDepth 20000 in
set_option maxHeartbeats 2000000 in
theorem pobject (R B n cap : Nat) (L : List UInt8) (a z : Nat) (nd deep : Int) (ks : List ByteArray) (w : World) (hz : z ≤ n) (hL : L.length = n) (hn : n ≤ 1000000) (hcap : n ≤ cap) (hcap2 : cap ≤ 9223372036854775807)
    (hd0 : 0 ≤ deep) (hd : deep ≤ 63) (hnd0 : 0 ≤ nd) (hnd : nd + ks.length ≤ 2000) (hr : Rdr 351 w R B n cap (a : Nat) nd) (hB : BY w B L) (hBR : B ≠ R) (hi : PItems L ks a z) (htw : twAux [] ks 0 = (0, false)) :
    Calls Tryz.prog 339 #[.pointer (some ⟨R, 0, none⟩), .int .u64 (ks.length : Nat), .int .i64 deep] w fun e w' => ∃ v, e = .returned v ∧ Eight v ∧ G w.heap.size (some R) w w' ∧ Rdr 351 w' R B n cap (z : Nat) (nd + ks.length) := by
  have hRlt := hr.lt
  have hBlt := hB.1
  have hne : ¬ R = w.heap.size := by omega
  have hne2 : ¬ w.heap.size = R := by omega
  have hkl := hi.le
  have E := Lib.hid (show PkRel w 351 R B n cap L z nd ks ks.length (.slice none 0 0) (.slice none 0 0) (.int .u64 0) (w.alloc zero8) from
    ⟨0, a, none, 0, none, 0, [], Nat.zero_le _, rfl, rfl, rfl, rfl, hi, World.ownsRow_nil _ _ _ _, World.ownsRow_nil _ _ _ _, by simp, by simpa using hr.alloc zero8, heap_new _ _, (G.refl _ _ _).alloc _ (Nat.le_refl _)⟩)
  have HB := Lib.hid hB; clear hB hr hi
  have HT := Lib.hid htw; clear htw
  have HL := Lib.hid hL; clear hL
  obtain ⟨i9, hi9, hz9, hs9, hb9⟩ := info_parts info9
  obtain ⟨i30, hi30, hz30, hs30, hb30⟩ := info_parts info30
  have K9 := Lib.hid (And.intro hz9 (And.intro hs9 hb9)); clear hz9 hs9 hb9
  have K30 := Lib.hid (And.intro hz30 (And.intro hs30 hb30)); clear hz30 hs30 hb30
  obtain ⟨m, hm⟩ : ∃ m, ks.length = m := ⟨_, rfl⟩
  rw [hm] at hnd hkl ⊢
  have HM := Lib.hid hm; clear hm
  go_enter Tryz.func339, Tryz.ntmps339
  go_wp2_with fail
  go_loopg [7, 8, 15] m (fun k vK vV vJ wr => PkRel w 351 R B n cap L z nd ks k vK vV vJ wr)
  case atStart => have h := E.out; rw [HM.out] at h; exact h
  case round =>
    clear E
    obtain ⟨j, pos, AK, cK, AV, cV, cs, hj, hk, rfl, rfl, rfl, hit, hK, hV, hone, hr, hN, hg⟩ := hrel
    rw [HM.out] at hj hk
    have HK := Lib.hid hK; clear hK
    have HV := Lib.hid hV; clear hV
    have HG := Lib.hid hg; clear hg
    have HK2 := Lib.hid hk; clear hk
    have HO := Lib.hid hone; clear hone
    have HN := Lib.hid hN; clear hN
    by_cases hlt : j < m
    · obtain ⟨key, hkey⟩ : ∃ key, ks.getD j ByteArray.empty = key := ⟨_, rfl⟩
      have hjl : j < ks.length := by rw [HM.out]; exact hlt
      have hd2 : ks.drop j = key :: ks.drop (j + 1) := by
        rw [List.drop_eq_getElem_cons hjl, ← hkey]; simp [List.getD, hjl]
      have htk : ks.take (j + 1) = ks.take j ++ [key] := by
        rw [List.take_add_one, ← hkey]; simp [List.getD, hjl]
      rw [hd2] at hit
      obtain ⟨it1, it2, it3, it4, it5, it6⟩ := hit
      have hpos := PItems.le it6
      have hRlt2 := hr.lt
      have HTK := Lib.hid htk; clear htk hd2 hkey hjl
      have I := Lib.hid (And.intro it2 (And.intro it3 (And.intro it4 (And.intro it5 it6)))); clear it2 it3 it4 it5 it6
      have HR := Lib.hid hr; clear hr
      have hb : wr.cell? ⟨B, ((pos : Nat) : Int).toNat, none⟩ = some (.int .u8 (160 + (key.size : Nat))) := by
        have := (HB.out.g HG.out hBlt (some_ne hBR)).at_ (pos : Nat) (by omega) (by have := HL.out; omega)
        rw [I.out.1] at this; exact this
      have Hb := Lib.hid hb; clear hb
      have hBr : B < wr.heap.size := Nat.lt_of_lt_of_le hBlt HG.out.size
      go_wp2_with fail
      refine (phead R B n cap (pos : Nat) (nd + j) (160 + (key.size : Nat)) 7 (key.size : Nat) wr (by omega) (by omega) hn hcap hcap2 hBr (by unfold Hd; omega) HR.out Hb.out).mono ?_
      rintro e w0 ⟨rfl, hg0, hr0⟩
      have HG0 := Lib.hid hg0
      have HR0 := Lib.hid (show Rdr 351 w0 R B n cap ((pos + 1 : Nat) : Int) (nd + j) from hr0)
      clear hg0 hr0
      go_wp2_with (go_at_call 332; refine (pmust _ (by first | rfl | (simp; omega)) _ _).mono ?_; rintro e w' ⟨rfl, rfl⟩)
      refine (pname R B n cap L pos (nd + j) key w0 (by omega) (by omega) HL.out hn hcap hcap2 HR0.out (HB.out.g (HG.out.trans (HG0.out.mono HG.out.size)) hBlt (some_ne hBR)) hBR I.out.2.1 I.out.2.2.1).mono ?_
      rintro e w1 ⟨rfl, hg1', hr1⟩
      have hg1 : G wr.heap.size (some R) wr w1 := HG0.out.trans (hg1'.mono HG0.out.size)
      clear hg1' HR0 HG0
      have HK1 := Lib.hid (own_g HK.out hg1 (by omega))
      have HV1 := Lib.hid (own_g HV.out hg1 (by omega))
      have HG1 := Lib.hid (HG.out.trans (hg1.mono HG.out.size))
      have HN1 := Lib.hid ((hg1.block w.heap.size (lt_heap HN.out) (some_ne hne2)).trans HN.out)
      have HR1 := Lib.hid hr1
      clear hg1 hr1 HK HV HN HR
      go_wp2_with (at_builtin; go_loud (refine wpList_append_own _ rfl _ _ 27 rfl (w.heap.size + 1) 9 i9 (.string ByteArray.empty) 1 16 Tryz.underlying27 hi9 K9.out.1 K9.out.2.1 K9.out.2.2 rfl (by decide) (.slice AK j cK) j ((ks.take j).map Value.string) rfl ?_ ⟨w1.heap.size, 0, none⟩ 1 1 [.string key] rfl rfl ?_ ?_ ?_ ?_ ?_ ?_))
      · exact HK1.out.alloc _
      · exact one_news (cell_new _ _ _)
      · exact one_oneCell rfl
      · unfold maxLen; omega
      · omega
      · have := HG1.out.size; have := lt_heap HN1.out; simp; omega
      intro v2 w2 hK2 hgr2 _
      obtain ⟨AK2, cK2, rfl⟩ := own_form hK2
      have hlt1 := lt_heap HN1.out
      have hGr : G (w.heap.size + 1) none w1 w2 := ((G.refl _ _ _).alloc _ (by omega)).grown hgr2 (by simp; omega) (fun k hk => .inl (HK1.out.lt k hk).1)
      have HV2 := Lib.hid ((HV1.out.alloc _).kept hgr2 (own_type_ne HV1.out HK1.out (by decide)))
      have HR2 := Lib.hid (HR1.out.g hGr (by omega) (by simp))
      have HN2 := Lib.hid ((hGr.block w.heap.size (by omega) (by simp)).trans HN1.out)
      have HG2 := Lib.hid (HG1.out.trans ((hGr.wide (some R)).mono (by omega)))
      have HK2' := Lib.hid hK2
      clear hK2 hgr2 hGr HK1 HV1 HR1 HN1 HG1
      go_wp2_with fail
      have hnd1 : 0 ≤ nd + (j : Int) := by omega
      refine (pvalue_leaf R B n cap L (pos + 1 + key.size) (nd + j) (deep + 1) w2 (by omega) HL.out hn hcap hcap2 (by omega) hnd1 (by omega) HR2.out (HB.out.g HG2.out hBlt (some_ne hBR)) hBR I.out.2.2.2.1).mono ?_
      rintro e w3 ⟨v3, rfl, hv3, hg3, hr3⟩
      obtain ⟨k0, b0, g0, AM0, nM0, cM0, e0, s0, AK0, nK0, cK0, AV0, nV0, cV0, rfl⟩ := hv3
      have HK3 := Lib.hid (own_g HK2'.out hg3 (by omega))
      have HV3 := Lib.hid (own_g HV2.out hg3 (by omega))
      have HG3 := Lib.hid (HG2.out.trans (hg3.mono HG2.out.size))
      have HN3 := Lib.hid ((hg3.block w.heap.size (lt_heap HN2.out) (some_ne hne2)).trans HN2.out)
      have HR3 := Lib.hid hr3
      have ONE := Lib.hid (show ∀ u ∈ ([.int .i64 k0, .bool b0, .bool g0, .slice AM0 nM0 cM0, .int .i64 e0, .string s0, .slice AK0 nK0 cK0, .slice AV0 nV0 cV0] : List Value), u.oneCell' = true by simp only [List.forall_mem_cons]; exact ⟨rfl, rfl, rfl, rfl, rfl, rfl, rfl, rfl, by simp⟩)
      clear hg3 hr3 HK2' HV2 HR2 HN2 HG2
      go_wp2_with (at_builtin; go_loud (refine wpList_append_own _ rfl _ _ 28 rfl (w.heap.size + 1) 30 i30 _ 8 120 Tryz.underlying28 hi30 K30.out.1 K30.out.2.1 K30.out.2.2 rfl (by decide) (.slice AV j cV) j cs rfl ?_ ⟨w3.heap.size, 0, none⟩ 1 1 [.int .i64 k0, .bool b0, .bool g0, .slice AM0 nM0 cM0, .int .i64 e0, .string s0, .slice AK0 nK0 cK0, .slice AV0 nV0 cV0] rfl rfl ?_ ?_ ?_ ?_ ?_ ?_))
      · exact HV3.out.alloc _
      · exact many_news _ [.int .i64 k0, .bool b0, .bool g0, .slice AM0 nM0 cM0, .int .i64 e0, .string s0, .slice AK0 nK0 cK0, .slice AV0 nV0 cV0] 30
      · exact ONE.out
      · unfold maxLen; omega
      · omega
      · have := HG3.out.size; have := lt_heap HN3.out; simp; omega
      intro v4 w4 hV4 hgr4 _
      obtain ⟨AV4, cV4, rfl⟩ := own_form hV4
      have hlt3 := lt_heap HN3.out
      have hGr : G (w.heap.size + 1) none w3 w4 := ((G.refl _ _ _).alloc _ (by omega)).grown hgr4 (by simp; omega) (fun k hk => .inl (HV3.out.lt k hk).1)
      have HK4 := Lib.hid ((HK3.out.alloc _).kept hgr4 (own_type_ne HK3.out HV3.out (by decide)))
      have HR4 := Lib.hid (HR3.out.g hGr (by omega) (by simp))
      have HN4 := Lib.hid ((hGr.block w.heap.size (by omega) (by simp)).trans HN3.out)
      have HG4 := Lib.hid (HG3.out.trans ((hGr.wide (some R)).mono (by omega)))
      have HV4 := Lib.hid hV4
      clear hV4 hgr4 hGr HK3 HV3 HR3 HN3 HG3
      go_wp2
      go_roundg (m - (j + 1))
      case measure => have := HK2.out; omega
      case rel =>
        refine ⟨j + 1, pos + 2 + key.size, AK2, cK2, AV4, cV4, cs ++ [.int .i64 k0, .bool b0, .bool g0, .slice AM0 nM0 cM0, .int .i64 e0, .string s0, .slice AK0 nK0 cK0, .slice AV0 nV0 cV0], by rw [HM.out]; omega, by rw [HM.out], (by simp), rfl, rfl, I.out.2.2.2.2, ?_, HV4.out, ?_, ?_, HN4.out, HG4.out⟩
        · rw [HTK.out, List.map_append]; simpa [List.map_take] using HK4.out
        · intro u hu
          rcases List.mem_append.1 hu with h | h
          · exact HO.out u h
          · exact ONE.out u h
        · have h := HR4.out
          rw [show ((pos + 2 + key.size : Nat) : Int) = ((pos + 1 + key.size : Nat) : Int) + 1 by omega, show nd + ((j + 1 : Nat) : Int) = nd + j + 1 by omega]
          exact h
    · obtain rfl : j = m := by omega
      have htk : ks.take j = ks := by rw [← HM.out]; exact List.take_length
      have hitz : pos = z := by
        have : ks.drop j = [] := by rw [← HM.out]; exact List.drop_length
        rw [this] at hit; exact hit
      subst hitz
      rw [htk] at HK
      have hsr := SR.of_own HK.out (own_cap HK.out) (by omega)
      have har := AR.of_own HV.out (own_cap HV.out) (by omega) HO.out
      have HS := Lib.hid (And.intro hsr har)
      have HR := Lib.hid hr
      clear hsr har hr hit htk
      go_wp2_with fail
      refine (object_ok AK AV j cK cV ks cs wr HS.out.1 HS.out.2 (by omega) HT.out).mono ?_
      rintro e w1 ⟨AK1, cK1, AV1, cV1, rfl, hg1⟩
      have hltN := lt_heap HN.out
      have hN1 : w1.heap[w.heap.size]? = some zero8 := (hg1.block w.heap.size hltN (by simp)).trans HN.out
      have HR1 := Lib.hid (HR.out.g hg1 HR.out.lt (by simp))
      have HG1 := Lib.hid (HG.out.trans ((hg1.wide (some R)).mono HG.out.size))
      have hlt1 := lt_heap hN1
      have hne1 : ¬ w.heap.size = w1.heap.size := by omega
      obtain ⟨p0, p1, p2, p3, p4, p5, p6, p7⟩ := cells8 hN1
      have fz := fun i => froz_heap hN1 i
      have HN1 := Lib.hid hN1
      clear hN1 hg1 HS HR HG HN HK HV HO
      go_wp2_with (go_at_call 332; refine (pmust _ rfl _ _).mono ?_; rintro e w' ⟨rfl, rfl⟩)
      show bodyPost _ _ _ _ _ ((set8 w1 w.heap.size _ _ _ _ _ _ _ _).alloc _)
      have hW := set8_heap HN1.out rfl (.int .i64 7) (.bool false) (.bool false) (.slice none 0 0) (.int .i64 0) (.string ⟨#[]⟩) (.slice AK1 j cK1) (.slice AV1 j cV1)
      have GW := HG1.out.set8 w.heap.size (.int .i64 7) (.bool false) (.bool false) (.slice none 0 0) (.int .i64 0) (.string ⟨#[]⟩) (.slice AK1 j cK1) (.slice AV1 j cV1) (Nat.le_refl _)
      have RW : Rdr 351 (set8 w1 w.heap.size (.int .i64 7) (.bool false) (.bool false) (.slice none 0 0) (.int .i64 0) (.string ⟨#[]⟩) (.slice AK1 j cK1) (.slice AV1 j cV1)) R B n cap (pos : Nat) (nd + j) := (set8_other _ _ _ _ _ _ _ _ _ _ _ hne).trans HR1.out
      generalize set8 w1 w.heap.size (.int .i64 7) (.bool false) (.bool false) (.slice none 0 0) (.int .i64 0) (.string ⟨#[]⟩) (.slice AK1 j cK1) (.slice AV1 j cV1) = W0 at *
      have hW := (Below.heap_alloc W0 (.cells #[.int .i64 7, .bool false, .bool false, .slice none 0 0, .int .i64 0, .string ⟨#[]⟩, .slice AK1 j cK1, .slice AV1 j cV1] 30) _ (lt_heap hW)).trans hW
      have GW := GW.alloc (.cells #[.int .i64 7, .bool false, .bool false, .slice none 0 0, .int .i64 0, .string ⟨#[]⟩, .slice AK1 j cK1, .slice AV1 j cV1] 30) GW.size
      have RW := RW.alloc (.cells #[.int .i64 7, .bool false, .bool false, .slice none 0 0, .int .i64 0, .string ⟨#[]⟩, .slice AK1 j cK1, .slice AV1 j cV1] 30)
      generalize W0.alloc (.cells #[.int .i64 7, .bool false, .bool false, .slice none 0 0, .int .i64 0, .string ⟨#[]⟩, .slice AK1 j cK1, .slice AV1 j cV1] 30) = W at *
      obtain ⟨x0, x1, x2, x3, x4, x5, x6, x7⟩ := cells8 hW
      exact bodyPost_ret (v := .agg #[.int .i64 7, .bool false, .bool false, .slice none 0 0, .int .i64 0, .string ⟨#[]⟩, .slice AK1 j cK1, .slice AV1 j cV1]) (by simp [results, Tryz.results339, go_sem, x0, x1, x2, x3, x4, x5, x6, x7]) rfl
        ⟨_, rfl, ⟨_, _, _, _, _, _, _, _, _, _, _, _, _, _, rfl⟩, GW, RW⟩
end Go.Proofs.YtcfjiaogdmjlbaaGreat
