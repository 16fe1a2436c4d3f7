/- Walks of span's begins and of. -/
import Derived.Test.YtcfjiaogdmjlbaaGreatE2
namespace Go.Proofs.YtcfjiaogdmjlbaaGreat
open Go.RowKit

set_option maxRecDepth 20000 in
set_option maxHeartbeats 1000000 in
theorem begins_row (f : Int) (B n cap : Nat) (L : List UInt8) (a : Nat) (kd : Int) (m N t : Nat) (ps : Nat → Nat) (tx : Nat → ByteArray) (w : World)
    (hL : L.length = n) (hn : n ≤ 1000000) (hcap : n ≤ cap) (hcap2 : cap ≤ 9223372036854775807) (hkd : (kd = 7 ∧ N = 2 * m) ∨ (kd = 6 ∧ N = m)) (hm : m ≤ 1000) (ha : a < ps 0) (hp : Tk f L n a kd (ps 0 : Nat) 0 (m : Nat) ⟨#[]⟩) (hrow : Row f L n ps tx N) (ht : t < N) (hB : BY w B L) :
    Calls Tryz.prog 65 #[scan f B n cap, .int .i64 (a : Nat), .int .i64 (ps t : Nat)] w fun e w' => e = .returned (.bool true) ∧ G w.heap.size none w w' := by
  have hBlt := hB.1
  have hne : ¬ a = ps t := by have := hrow.mono t (by omega) 0 (by omega); omega
  have hne2 : ((a : Int) == (ps t : Nat)) = false := beq_eq_false_iff_ne.2 (by omega)
  have hg0 := ((G.refl w.heap.size none w).alloc (.cells #[.int .i64 f, .slice (some ⟨B, 0, none⟩) n cap] 67) (Nat.le_refl _)).alloc (.cells #[.int .i64 (ps t : Nat)] 3) (by simp)
  have hA0 : ((w.alloc (.cells #[.int .i64 f, .slice (some ⟨B, 0, none⟩) n cap] 67)).alloc (.cells #[.int .i64 (ps t : Nat)] 3)).heap[w.heap.size + 1]? = some (.cells #[.int .i64 (ps t : Nat)] 3 (0, 0)) := by
    have h := heap_new (w.alloc (.cells #[.int .i64 f, .slice (some ⟨B, 0, none⟩) n cap] 67)) (.cells #[.int .i64 (ps t : Nat)] 3)
    simpa using h
  have hS0 : ((w.alloc (.cells #[.int .i64 f, .slice (some ⟨B, 0, none⟩) n cap] 67)).alloc (.cells #[.int .i64 (ps t : Nat)] 3)).heap[w.heap.size]? = some (.cells #[.int .i64 f, .slice (some ⟨B, 0, none⟩) n cap] 67 (0, 0)) := (Below.heap_alloc _ _ _ (by simp)).trans (heap_new w _)
  have HA := Lib.hid (at_any f B n cap L a kd (ps 0 : Nat) 0 (m : Nat) ⟨#[]⟩ _ hL hn hcap hcap2 (hB.g hg0 hBlt (by simp)) hp)
  have HX := Lib.hid (And.intro hL hrow)
  have HB := Lib.hid hB
  have HG := Lib.hid hg0
  have HA0 := Lib.hid hA0
  have HS0 := Lib.hid hS0
  have HKD := Lib.hid hkd
  clear hL hp hrow hB hg0 hA0 hS0 ha hkd
  go_enter Tryz.func65, Tryz.ntmps65
  go_wp2_with fail
  refine HA.out.mono ?_
  rintro e w1 ⟨rfl, hg1⟩
  have HG1 := Lib.hid (HG.out.trans (hg1.mono HG.out.size))
  have HA1 := Lib.hid ((hg1.block _ (by simp) (by simp)).trans HA0.out)
  have HS1 := Lib.hid ((hg1.block _ (by simp; omega) (by simp)).trans HS0.out)
  have l1 := lt_heap HA1.out
  clear hg1 HG HA0 HS0 HA
  have hE : ∀ W2, G w1.heap.size none w1 W2 → W2.heap[w1.heap.size + 1]? = some (.cells #[.bool false] 4 (0, 0)) → w1.heap.size + 1 + 1 ≤ W2.heap.size →
    Calls Tryz.prog 60 #[scan f B n cap, tok kd (ps 0 : Nat) 0 (m : Nat) ⟨#[]⟩, .func (.func 88) #[] #[.pointer (some ⟨w.heap.size + 1, 0, none⟩), .pointer (some ⟨w.heap.size, 0, none⟩), .pointer (some ⟨w1.heap.size + 1, 0, none⟩)]] W2
      fun e w' => ∃ i : Nat, e = .returned (.tuple #[.int .i64 (ps i : Nat), .int .i64 (i : Nat)]) ∧ ((i = N ∧ BInv w1 f B n cap L ps t (w.heap.size + 1) w.heap.size (w1.heap.size + 1) N w') ∨ (i < N ∧ BDone w1 (w1.heap.size + 1) i w')) := fun W2 hg hf hz =>
    each_any f B n cap L kd m N ps tx 88 #[.pointer (some ⟨w.heap.size + 1, 0, none⟩), .pointer (some ⟨w.heap.size, 0, none⟩), .pointer (some ⟨w1.heap.size + 1, 0, none⟩)] (w1.heap.size + 1 + 1) (BInv w1 f B n cap L ps t (w.heap.size + 1) w.heap.size (w1.heap.size + 1)) (BDone w1 (w1.heap.size + 1)) W2
      HX.out.1 hn hcap hcap2 HKD.out hm HX.out.2 hz (fun _ _ h => h.1) (fun i W W' h g => h.g g) (fun i W hi h => visit88 w1 f B n cap L ps tx N t (w.heap.size + 1) w.heap.size (w1.heap.size + 1) (w1.heap.size + 1 + 1) i W HX.out.1 hn hcap hcap2 HX.out.2 ht hi ⟨by omega, by omega⟩ h) call88
      ⟨(HB.out.g HG1.out hBlt (by simp)).g hg (by have := HG1.out.size; omega) (by simp), hg, Nat.zero_le _, (hg.block _ l1 (by simp)).trans HA1.out, (hg.block _ (by omega) (by simp)).trans HS1.out, hf⟩
  have hg2 := ((G.refl w1.heap.size none w1).alloc (.cells #[.int .i64 kd, .int .i64 (ps 0 : Nat), .int .i64 0, .int .i64 (m : Nat), .bool false, .string ⟨#[]⟩] 78) (Nat.le_refl _)).alloc (.cells #[.bool false] 4) (by simp)
  have HE2 := Lib.hid (hE _ hg2 (by have h := heap_new (w1.alloc (.cells #[.int .i64 kd, .int .i64 (ps 0 : Nat), .int .i64 0, .int .i64 (m : Nat), .bool false, .string ⟨#[]⟩] 78)) (.cells #[.bool false] 4); simpa using h) (by simp))
  obtain ⟨s0, s1⟩ := cells2 HS1.out
  have u1 : ¬ w.heap.size = w1.heap.size := by omega
  have u2 : ¬ w.heap.size = w1.heap.size + 1 := by omega
  have d0 := (hg2.cell (b := w.heap.size) (o := 0) (by omega) (by simp)).trans s0
  have d1 := (hg2.cell (b := w.heap.size) (o := 1) (by omega) (by simp)).trans s1
  clear hE hg2 s0 s1
  have hk0 : (kd == 0) = false := by rcases HKD.out with ⟨rfl, _⟩ | ⟨rfl, _⟩ <;> rfl
  go_wp2_with fail
  refine HE2.out.mono ?_
  rintro e w3 ⟨i, rfl, ⟨rfl, h⟩ | ⟨hi, h⟩⟩
  · exact absurd h.2.2.1 (by omega)
  · have c0 := cells1 h.2
    have HG3 := Lib.hid (HG1.out.trans (h.1.mono HG1.out.size))
    clear h
    go_wp2
    go_ret
    exact ⟨rfl, HG3.out⟩

set_option maxRecDepth 20000 in
set_option maxHeartbeats 1000000 in
theorem of_ok (f at_ : Int) (s : ByteArray) (w : World) (hs : s.size ≤ 1000000) (hr : ∀ W, Calls Tryz.prog 26 #[.int .i64 f, .string s] W fun e w' => e = .returned (.bool true) ∧ G W.heap.size none W w')
    (hb : ∀ B cap W, s.size ≤ cap → cap ≤ 9223372036854775807 → BY W B s.data.toList → Calls Tryz.prog 65 #[scan f B s.size cap, .int .i64 0, .int .i64 at_] W fun e w' => e = .returned (.bool true) ∧ G W.heap.size none W w') :
    Calls Tryz.prog 40 #[.int .i64 f, .string s, .int .i64 at_] w fun e w' => ∃ B cap, e = .returned (.tuple #[scan f B s.size cap, .bool true]) ∧ s.size ≤ cap ∧ cap ≤ 9223372036854775807 ∧ BY w' B s.data.toList ∧ G w.heap.size none w w' := by
  obtain ⟨W, cap, hcv, hBY, hg, hc1, hc2⟩ := conv_bytes (w.alloc (.cells #[.int .i64 0, .slice none 0 0] 67)) s hs
  have hsz : (w.alloc (.cells #[.int .i64 0, .slice none 0 0] 67)).heap.size = w.heap.size + 1 := by simp
  rw [hsz] at hcv hBY
  have HR := Lib.hid hr
  have HBE := Lib.hid (fun (Z : World) h => hb (w.heap.size + 1) cap Z hc1 hc2 h)
  have HGW := Lib.hid (((G.refl w.heap.size none w).alloc (.cells #[.int .i64 0, .slice none 0 0] 67) (Nat.le_refl _)).trans (hg.mono (by simp)))
  have hR0 : W.heap[w.heap.size]? = some (.cells #[.int .i64 0, .slice none 0 0] 67 (0, 0)) := (hg.block _ (by simp) (by simp)).trans (heap_new w _)
  have HR0 := Lib.hid hR0
  have HBY := Lib.hid hBY
  have hzW := hg.size
  simp only [World.size_alloc] at hzW
  clear hr hb hsz hBY hg hR0
  go_enter Tryz.func40, Tryz.ntmps40
  go_wp2_with fail
  have hgS := (G.refl W.heap.size none W).alloc (.cells #[.int .i64 f, .slice (some ⟨w.heap.size + 1, 0, none⟩) s.size cap] 67) (Nat.le_refl _)
  have hS := heap_new W (.cells #[.int .i64 f, .slice (some ⟨w.heap.size + 1, 0, none⟩) s.size cap] 67)
  generalize W.alloc (.cells #[.int .i64 f, .slice (some ⟨w.heap.size + 1, 0, none⟩) s.size cap] 67) = V at *
  obtain ⟨s0, s1⟩ := cells2 hS
  have HS := Lib.hid hS
  have HGV := Lib.hid (HGW.out.trans (hgS.mono HGW.out.size))
  have HRV := Lib.hid ((hgS.block _ (lt_heap HR0.out) (by simp)).trans HR0.out)
  have HBV := Lib.hid (HBY.out.g hgS HBY.out.1 (by simp))
  have uS : ¬ W.heap.size = w.heap.size := by omega
  have uV : V.heap[w.heap.size + 1]? = W.heap[w.heap.size + 1]? := hgS.block _ HBY.out.1 (by simp)
  clear hS hgS hcv uV
  go_region_held3 (fun w' => G w.heap.size none w w' ∧ w'.cell? ⟨W.heap.size, 0, none⟩ = some (.int .i64 f) ∧ w'.cell? ⟨W.heap.size, 1, none⟩ = some (.slice (some ⟨w.heap.size + 1, 0, none⟩) s.size cap)) (first | exact ⟨HGV.out.drew, s0, s1⟩ | assumption | exact ⟨((hS3.1).put w.heap.size 0 _ (Nat.le_refl _)).put w.heap.size 1 _ (Nat.le_refl _), (cell_other _ _ _ _ _ _ uS).trans ((cell_other _ _ _ _ _ _ uS).trans hS3.2.1), (cell_other _ _ _ _ _ _ uS).trans ((cell_other _ _ _ _ _ _ uS).trans hS3.2.2)⟩)
    (first
      | (go_at_call 26; go_loud (refine (HR.out _).mono ?_); rintro e w2 ⟨rfl, hg2⟩; have hG2 : G V.heap.size none V w2 := ((G.refl V.heap.size none V).drew).trans hg2; have hS2 := And.intro (HGV.out.trans (hG2.mono HGV.out.size)) (cells2 ((hG2.block _ (lt_heap HS.out) (by simp)).trans HS.out)); clear hg2)
      | (go_at_call 65; go_loud (refine (HBE.out _ (HBV.out.g hG2 HBV.out.1 (by simp))).mono ?_); rintro e w3 ⟨rfl, hg3⟩; have hG3 : G V.heap.size none V w3 := hG2.trans (hg3.mono hG2.size); have hS3 := And.intro (HGV.out.trans (hG3.mono HGV.out.size)) (cells2 ((hG3.block _ (lt_heap HS.out) (by simp)).trans HS.out)); have hR3 := (hG3.block _ (lt_heap HRV.out) (by simp)).trans HRV.out; obtain ⟨r0, r1⟩ := cells2 hR3; have fr := fun i => froz_heap hR3 i; clear hg3))
  all_goals
    have HR3 := Lib.hid hR3
    have HG3 := Lib.hid hS3.1
    have HB3 := Lib.hid (HBV.out.g hG3 HBV.out.1 (by simp))
    clear r0 r1 fr hR3 hG3 hS3 hG2 hS2
    go_wp2
    show bodyPost _ _ _ _ _ (set2 w3 w.heap.size _ _)
    have hW := set2_heap HR3.out rfl (.int .i64 f) (.slice (some ⟨w.heap.size + 1, 0, none⟩) s.size cap)
    have GW := HG3.out.set2 w.heap.size (.int .i64 f) (.slice (some ⟨w.heap.size + 1, 0, none⟩) s.size cap) (Nat.le_refl _)
    have BW : BY (set2 w3 w.heap.size (.int .i64 f) (.slice (some ⟨w.heap.size + 1, 0, none⟩) s.size cap)) (w.heap.size + 1) s.data.toList :=
      ⟨by simpa [set2, World.setCell] using HB3.out.1, fun i hi => (World.cell?_of_block (set2_other _ _ _ _ _ (by simp))).trans (HB3.out.2 i hi)⟩
    generalize set2 w3 w.heap.size (.int .i64 f) (.slice (some ⟨w.heap.size + 1, 0, none⟩) s.size cap) = WW at *
    obtain ⟨x0, x1⟩ := cells2 hW
    exact bodyPost_ret (v := .tuple #[scan f (w.heap.size + 1) s.size cap, .bool true]) (by simp [results, Tryz.results40, go_sem, x0, x1]) rfl ⟨_, _, rfl, hc1, hc2, BW, GW⟩
end Go.Proofs.YtcfjiaogdmjlbaaGreat
