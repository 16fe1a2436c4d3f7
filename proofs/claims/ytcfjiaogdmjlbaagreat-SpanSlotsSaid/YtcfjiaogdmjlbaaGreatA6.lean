/- The walk of the search for a name that stands twice. -/
import Derived.Test.YtcfjiaogdmjlbaaGreatA5
import Derived.Carry
namespace Go.Proofs.YtcfjiaogdmjlbaaGreat
open Go.RowKit
/-- The entries of a set of texts. -/
def ent (seen : List ByteArray) (es : Array MapEntry) : Prop := es.toList.map (fun e => (e.key, e.val)) = seen.map fun s => (Value.string s, Value.bool true)
theorem findNow_ent (k : ByteArray) : ∀ (es : List MapEntry) (seen : List ByteArray) (i : Nat), es.map (fun e => (e.key, e.val)) = seen.map (fun s => (Value.string s, Value.bool true)) →
    ∃ r, Instr.findNow .string (.string k) es i = some r ∧ ((seen.any fun s => k == s) = true → ∃ j, r = some (j, .bool true)) ∧ ((seen.any fun s => k == s) = false → r = none)
  | [], seen, i, h => by
    cases seen with
    | nil => exact ⟨none, rfl, by simp, by simp⟩
    | cons => simp at h
  | e :: es, seen, i, h => by
    cases seen with
    | nil => simp at h
    | cons s seen =>
      simp only [List.map_cons, List.cons.injEq, Prod.mk.injEq] at h
      obtain ⟨⟨h1, h2⟩, h3⟩ := h
      by_cases hk : (k == s) = true
      · exact ⟨some (i, .bool true), by simp [Instr.findNow, h1, h2, Instr.sameNow, hk], fun _ => ⟨i, rfl⟩, by simp [hk]⟩
      · have hk' : (k == s) = false := by simpa using hk
        obtain ⟨r, hr, r1, r2⟩ := findNow_ent k es seen (i + 1) h3
        exact ⟨r, by simp [Instr.findNow, h1, Instr.sameNow, hk', hr], by simpa [hk'] using r1, by simpa [hk'] using r2⟩
theorem checkKey_str (e : Bool) (k : ByteArray) (w : World) : (Instr.checkKey e 10000 9 (.string k)).run Tryz.prog w = .ok () w := by
  rw [show (10000 : Nat) = 9999 + 1 from rfl, Instr.checkKey.eq_def]
  simp only [Sem.run_bind, run_underlying Tryz.underlying9, Result.andThen]
  rfl
theorem findKey_str {k : ByteArray} {es : List MapEntry} {r : Option (Nat × Value)} (h : Instr.findNow .string (.string k) es 0 = some r) (w : World) : (Instr.findKey 9 (.string k) es).run Tryz.prog w = .ok r w := by
  unfold Instr.findKey
  simp only [Sem.run_bind, run_underlying Tryz.underlying9, Result.andThen, h]
  rfl
theorem map_lookup {w : World} {b clock : Nat} {es : Array MapEntry} {seen : List ByteArray} (h : w.heap[b]? = some (.map es clock)) (he : ent seen es) (k : ByteArray) :
    (Instr.lookup 271 (.map (some b)) (.string k) false).run Tryz.prog w = .ok (.bool (seen.any fun s => k == s)) w := by
  obtain ⟨r, hr, r1, r2⟩ := findNow_ent k es.toList seen 0 he
  have hu : Tryz.prog.underlying 9 = some .string := Tryz.underlying9
  have hm : Tryz.prog.underlying 271 = some (.map 9 4) := Tryz.underlying271
  have hb : Tryz.prog.underlying 4 = some .bool := Tryz.underlying4
  cases hs : seen.any fun s => k == s with
  | true =>
    obtain ⟨j, rfl⟩ := r1 hs
    simp only [Instr.lookup, Sem.run_bind, run_underlying hm, getObj, Sem.run, h, Result.andThen, checkKey_str, findKey_str hr, Sem.run_pure, if_false, Bool.false_eq_true]
  | false =>
    obtain rfl := r2 hs
    have hz : (zeroValue 4).run Tryz.prog w = .ok (.bool false) w := by kernel_rfl
    simp only [Instr.lookup, Sem.run_bind, run_underlying hm, getObj, Sem.run, h, Result.andThen, checkKey_str, findKey_str hr, hz, Sem.run_pure, if_false, Bool.false_eq_true]
theorem map_update {w : World} {b clock : Nat} {es : Array MapEntry} {seen : List ByteArray} (h : w.heap[b]? = some (.map es clock)) (he : ent seen es) (k : ByteArray) (hs : (seen.any fun s => k == s) = false) :
    (Instr.mapUpdate 271 (.map (some b)) (.string k) (.bool true)).run Tryz.prog w = .ok () { w with heap := w.heap.setIfInBounds b (.map (es.push { key := .string k, val := .bool true, born := clock }) (clock + 1)) } := by
  obtain ⟨r, hr, r1, r2⟩ := findNow_ent k es.toList seen 0 he
  have hu : Tryz.prog.underlying 9 = some .string := Tryz.underlying9
  have hm : Tryz.prog.underlying 271 = some (.map 9 4) := Tryz.underlying271
  obtain rfl := r2 hs
  simp only [Instr.mapUpdate, Sem.run_bind, run_underlying hm, getObj, setObj, Sem.run, h, Result.andThen, checkKey_str, findKey_str hr]
/-- The first text that stands again, from a place on. -/
def twAux (seen : List ByteArray) : List ByteArray → Nat → Int × Bool
  | [], _ => (0, false)
  | k :: ks, i => if (seen.any fun s => k == s) = true then ((i : Int), true) else twAux (seen ++ [k]) ks (i + 1)
def TRel (w : World) (n : Nat) (ks : List ByteArray) (k : Nat) (i : Value) (wr : World) : Prop :=
  ∃ (j : Nat) (es : Array MapEntry) (clock : Nat), i = .int .i64 (j : Nat) ∧ j ≤ n ∧ k = n - j ∧ wr.heap[w.heap.size]? = some (.map es clock) ∧ ent (ks.take j) es ∧ twAux [] ks 0 = twAux (ks.take j) (ks.drop j) j ∧ G w.heap.size none w wr
theorem G.setObj {B0 b : Nat} {R : Option Nat} {w wr : World} (h : G B0 R w wr) (o : Obj) (hb : B0 ≤ b) : G B0 R w { wr with heap := wr.heap.setIfInBounds b o } :=
  h.trans ⟨rfl, rfl, rfl, by simp, fun k hk _ => by simp [Array.getElem?_setIfInBounds]; omega⟩
set_option maxRecDepth 20000 in
set_option maxHeartbeats 1000000 in
theorem twice_any (A : Option Addr) (n c : Nat) (ks : List ByteArray) (w : World) (h : SR w A n c ks) :
    Calls Tryz.prog 217 #[.slice A n c] w fun e w' => e = .returned (.tuple #[.int .i64 (twAux [] ks 0).1, .bool (twAux [] ks 0).2]) ∧ G w.heap.size none w w' := by
  have hmm := @run_makeMap Tryz.prog
  have hn : n ≤ 1000000 := h.sm
  have hcc := h.cap
  have hle := h.le
  have H := Lib.hid h; clear h
  go_enter Tryz.func217, Tryz.ntmps217
  go_wp2
  go_loopg [10] n (fun k i wr => TRel w n ks k i wr)
  case atStart => exact ⟨0, #[], 0, rfl, Nat.zero_le _, rfl, by show (w.heap.push _)[_]? = _; simp, by simp [ent], rfl, (G.refl _ _ _).alloc _ (Nat.le_refl _)⟩
  case round =>
    clear hmm
    obtain ⟨j, es, clock, rfl, hj, hk, hh, he, ht, hg⟩ := hrel
    have HK := Lib.hid hk; clear hk
    have HG := Lib.hid hg; clear hg
    by_cases hlt : j < n
    · obtain ⟨B, off, rfl, hB, hc⟩ := H.out.cells (by omega)
      have hlen := H.out.len
      have hcell : wr.cell? ⟨B, off + j, none⟩ = some (.string (ks.getD j ByteArray.empty)) := (HG.out.cell hB (by simp)).trans (hc j hlt)
      have hd : ks.drop j = ks.getD j ByteArray.empty :: ks.drop (j + 1) := by
        rw [List.drop_eq_getElem_cons (by omega)]; simp [List.getD, show j < ks.length by omega]
      have htk : ks.take (j + 1) = ks.take j ++ [ks.getD j ByteArray.empty] := by
        rw [List.take_add_one]; simp [List.getD, show j < ks.length by omega]
      rw [hd] at ht
      generalize ks.getD j ByteArray.empty = key at *
      have hlook := map_lookup hh he key
      by_cases hs : ((ks.take j).any fun s => key == s) = true
      · rw [hs] at hlook
        rw [twAux, if_pos hs] at ht
        have HT := Lib.hid ht; clear ht
        have HH := Lib.hid (And.intro hh he); clear hh he hc hd htk hs hlen
        go_wp2
        go_ret2
        exact ⟨by rw [HT.out]; rfl, HG.out⟩
      · have hs' : ((ks.take j).any fun s => key == s) = false := by simpa using hs
        rw [hs'] at hlook
        have hup := map_update hh he key hs'
        rw [twAux, if_neg hs, ← htk] at ht
        have HT := Lib.hid ht; clear ht
        have HH := Lib.hid (And.intro hh he); clear hh he hc hd hs hs' hlen
        have HTK := Lib.hid htk; clear htk
        go_wp2
        go_roundg (n - (j + 1))
        case measure => have := HK.out; omega
        case rel =>
          refine ⟨j + 1, es.push { key := .string key, val := .bool true, born := clock }, clock + 1, by simp, by omega, rfl, ?_, ?_, HT.out, HG.out.setObj _ (Nat.le_refl _)⟩
          · simp [lt_heap HH.out.1]
          · have h2 : es.toList.map (fun e => (e.key, e.val)) = _ := HH.out.2
            rw [HTK.out]; simp [ent, h2]
    · obtain rfl : j = n := by omega
      have hd : ks.drop j = [] := by rw [List.drop_eq_nil_iff]; have := H.out.len; omega
      rw [hd, twAux] at ht
      have HT := Lib.hid ht; clear ht hd hh he
      go_wp2
      go_ret2
      exact ⟨by rw [HT.out]; rfl, HG.out⟩
end Go.Proofs.YtcfjiaogdmjlbaaGreat
