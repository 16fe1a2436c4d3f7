/- The words that the walks of this claim share: what a call may have turned in memory, a reader's block, bytes in a block. -/
import Derived.Test.YtcfjiaogdmjlbaaGreatProg
import Derived.WalkKit
import Derived.KernelRfl
import Derived.RowKit3
import Derived.Deep.QuietTactic
import Derived.BigQuiet
import Derived.Outline
import Derived.IntWalk
import Derived.Deep.Draws
import Derived.Lib.Hide
import Derived.Deep.RegionHeld3
import Derived.Deep.DeepCutAuto
namespace Go.Proofs.YtcfjiaogdmjlbaaGreat
open Go.RowKit

/-- Below block number B0, but for block R, the world w' is as w was. -/
structure G (B0 : Nat) (R : Option Nat) (w w' : World) : Prop where
  os : w'.os = w.os
  tape : w'.tape = w.tape
  output : w'.output = w.output
  size : w.heap.size ≤ w'.heap.size
  block : ∀ k, k < B0 → some k ≠ R → w'.heap[k]? = w.heap[k]?

theorem G.refl (B0 : Nat) (R : Option Nat) (w : World) : G B0 R w w := ⟨rfl, rfl, rfl, Nat.le_refl _, fun _ _ _ => rfl⟩
theorem G.trans {B0 : Nat} {R : Option Nat} {a b c : World} (h : G B0 R a b) (k : G B0 R b c) : G B0 R a c :=
  ⟨k.os.trans h.os, k.tape.trans h.tape, k.output.trans h.output, Nat.le_trans h.size k.size, fun i hi hr => (k.block i hi hr).trans (h.block i hi hr)⟩
theorem G.mono {B0 B1 : Nat} {R : Option Nat} {a b : World} (h : G B1 R a b) (hB : B0 ≤ B1) : G B0 R a b :=
  ⟨h.os, h.tape, h.output, h.size, fun i hi hr => h.block i (Nat.lt_of_lt_of_le hi hB) hr⟩
theorem G.wide {B0 : Nat} {a b : World} (h : G B0 none a b) (R : Option Nat) : G B0 R a b :=
  ⟨h.os, h.tape, h.output, h.size, fun i hi _ => h.block i hi (by simp)⟩
theorem G.drew {B0 : Nat} {R : Option Nat} {a b : World} (h : G B0 R a b) : G B0 R a b.drew := ⟨h.os, h.tape, h.output, h.size, h.block⟩
theorem G.drewN {B0 : Nat} {R : Option Nat} {a b : World} (h : G B0 R a b) (n : Nat) : G B0 R a (b.drewN n) := ⟨h.os, h.tape, h.output, h.size, h.block⟩
theorem G.alloc {B0 : Nat} {R : Option Nat} {a b : World} (h : G B0 R a b) (o : Obj) (hB : B0 ≤ b.heap.size) : G B0 R a (b.alloc o) :=
  h.trans ⟨rfl, rfl, rfl, by simp, fun k hk _ => Below.heap_alloc _ _ _ (by omega)⟩
theorem G.setCell {B0 : Nat} {R : Option Nat} {a b : World} (h : G B0 R a b) (p : Addr) (v : Value) (hp : B0 ≤ p.block ∨ some p.block = R) : G B0 R a (b.setCell p v) :=
  h.trans ⟨rfl, rfl, rfl, by simp [World.setCell], fun k hk hr => Below.heap_setCell _ _ _ _ (by rcases hp with hp | hp <;> (try intro e; subst e) <;> (try omega); exact hr hp)⟩
theorem G.set {B0 R : Nat} {a b : World} (h : G B0 (some R) a b) (o : Nat) (v : Value) : G B0 (some R) a (b.setCell ⟨R, o, none⟩ v) := h.setCell _ _ (.inr rfl)
theorem G.put {B0 : Nat} {R : Option Nat} {a b : World} (h : G B0 R a b) (k o : Nat) (v : Value) (hk : B0 ≤ k) : G B0 R a (b.setCell ⟨k, o, none⟩ v) := h.setCell _ _ (.inl hk)
theorem some_ne {a b : Nat} (h : a ≠ b) : some a ≠ some b := by simpa using h
theorem G.grown {B0 : Nat} {R : Option Nat} {a b c : World} (h : G B0 R a b) {row : Option Nat} (hg : b.grownBy c row) (hB : B0 ≤ b.heap.size) (hr : ∀ k, row = some k → B0 ≤ k ∨ some k = R) : G B0 R a c :=
  h.trans ⟨hg.os, hg.tape, hg.output, hg.size, fun i hi hn => hg.block i (by omega) (fun e => by rcases hr i e.symm with h | h; omega; exact hn h)⟩
theorem G.cell {B0 : Nat} {R : Option Nat} {w w' : World} (h : G B0 R w w') {b o : Nat} (hb : b < B0) (hr : some b ≠ R) : w'.cell? ⟨b, o, none⟩ = w.cell? ⟨b, o, none⟩ :=
  World.cell?_of_block (w := w) (h.block b hb hr)
theorem G.froz {B0 : Nat} {R : Option Nat} {w w' : World} (h : G B0 R w w') {b o : Nat} (hb : b < B0) (hr : some b ≠ R) : w'.frozen? ⟨b, o, none⟩ = w.frozen? ⟨b, o, none⟩ :=
  World.frozen?_of_block (w := w) (h.block b hb hr)
theorem G.below {w w' : World} (h : G w.heap.size none w w') : Below w.heap.size w w' := ⟨h.os, h.tape, h.output, h.size, fun i hi => h.block i hi (by simp)⟩
theorem G.of_below {w w' : World} {B : Nat} {R : Option Nat} (h : Below B w w') : G B R w w' := ⟨h.os, h.tape, h.output, h.size, fun i hi _ => h.block i hi⟩
theorem G.of_eq {w w' : World} {B : Nat} {R : Option Nat} (h : w' = w) : G B R w w' := h ▸ G.refl _ _ _

theorem cell_heap {w : World} {b : Nat} {cs : Array Value} {T : TypeId} {fz : Nat × Nat} (h : w.heap[b]? = some (.cells cs T fz)) (i : Nat) : w.cell? ⟨b, i, none⟩ = cs[i]? := by
  simp [World.cell?, h]
theorem froz_heap {w : World} {b : Nat} {cs : Array Value} {T : TypeId} (h : w.heap[b]? = some (.cells cs T (0, 0))) (i : Nat) : w.frozen? ⟨b, i, none⟩ = false := by
  simp [World.frozen?, h]
theorem lt_heap {w : World} {b : Nat} {o : Obj} (h : w.heap[b]? = some o) : b < w.heap.size := (Array.getElem?_eq_some_iff.1 h).1

/-- The byte at a place of a list. -/
def byt (L : List UInt8) (a : Int) : Int := ((L.getD a.toNat 0).toNat : Int)
theorem byt_bd (L : List UInt8) (a : Int) : 0 ≤ byt L a ∧ byt L a < 256 := by
  have := (L.getD a.toNat 0).toNat_lt
  unfold byt; omega

/-- Block B begins with these bytes. -/
def BY (w : World) (B : Nat) (L : List UInt8) : Prop := B < w.heap.size ∧ ∀ i, i < L.length → w.cell? ⟨B, i, none⟩ = some (.int .u8 ((L.getD i 0).toNat : Int))
theorem BY.at_ {w : World} {B : Nat} {L : List UInt8} (h : BY w B L) (a : Int) (h0 : 0 ≤ a) (h1 : a < L.length) : w.cell? ⟨B, a.toNat, none⟩ = some (.int .u8 (byt L a)) :=
  h.2 a.toNat (by omega)
theorem BY.g {w w' : World} {B B0 : Nat} {L : List UInt8} {R : Option Nat} (h : BY w B L) (g : G B0 R w w') (hb : B < B0) (hr : some B ≠ R) : BY w' B L :=
  ⟨Nat.lt_of_lt_of_le h.1 g.size, fun i hi => (g.cell hb hr).trans (h.2 i hi)⟩

/-- A reader's block: its bytes (n of them in block B), the next place, how many values there were. T: the reader's type. -/
def Rdr (T : Nat) (w : World) (R B n cap : Nat) (a nd : Int) : Prop :=
  w.heap[R]? = some (.cells #[.slice (some ⟨B, 0, none⟩) n cap, .int .i64 a, .int .i64 nd] T (0, 0))
section
variable {T R B n cap : Nat} {a nd : Int} {w w' : World}
theorem Rdr.c0 (h : Rdr T w R B n cap a nd) : w.cell? ⟨R, 0, none⟩ = some (.slice (some ⟨B, 0, none⟩) n cap) := by simp [World.cell?, show w.heap[R]? = _ from h]
theorem Rdr.c1 (h : Rdr T w R B n cap a nd) : w.cell? ⟨R, 1, none⟩ = some (.int .i64 a) := by simp [World.cell?, show w.heap[R]? = _ from h]
theorem Rdr.c2 (h : Rdr T w R B n cap a nd) : w.cell? ⟨R, 2, none⟩ = some (.int .i64 nd) := by simp [World.cell?, show w.heap[R]? = _ from h]
theorem Rdr.fz (h : Rdr T w R B n cap a nd) (i : Nat) : w.frozen? ⟨R, i, none⟩ = false := froz_heap h i
theorem Rdr.lt (h : Rdr T w R B n cap a nd) : R < w.heap.size := lt_heap h
theorem Rdr.drewN (h : Rdr T w R B n cap a nd) (k : Nat) : Rdr T (w.drewN k) R B n cap a nd := h
theorem Rdr.alloc (h : Rdr T w R B n cap a nd) (o : Obj) : Rdr T (w.alloc o) R B n cap a nd := (Below.heap_alloc w o R h.lt).trans h
theorem Rdr.set1 (h : Rdr T w R B n cap a nd) (x : Int) : Rdr T (w.setCell ⟨R, 1, none⟩ (.int .i64 x)) R B n cap x nd := by
  unfold Rdr World.setCell; simp [Array.getElem?_modify, show w.heap[R]? = _ from h]
theorem Rdr.set2 (h : Rdr T w R B n cap a nd) (x : Int) : Rdr T (w.setCell ⟨R, 2, none⟩ (.int .i64 x)) R B n cap a x := by
  unfold Rdr World.setCell; simp [Array.getElem?_modify, show w.heap[R]? = _ from h]
theorem Rdr.other (h : Rdr T w R B n cap a nd) (p : Addr) (v : Value) (hp : p.block ≠ R) : Rdr T (w.setCell p v) R B n cap a nd :=
  (Below.heap_setCell w p v R (fun e => hp e.symm)).trans h
theorem Rdr.g (h : Rdr T w R B n cap a nd) {B0 : Nat} {S : Option Nat} (g : G B0 S w w') (hb : R < B0) (hr : some R ≠ S) : Rdr T w' R B n cap a nd :=
  (g.block R hb hr).trans h
end
theorem ret_eq {a b : Value} (h : a = b) : Ending.returned a = .returned b := by rw [h]
end Go.Proofs.YtcfjiaogdmjlbaaGreat
