/- What is computed of the eight names: held by the kernel, over all of the sets. -/
import Derived.Test.YtcfjiaogdmjlbaaGreatF8
namespace Go.Proofs.YtcfjiaogdmjlbaaGreat
open Go.RowKit
/-- The eight names, and those that are taken. -/
def allS : List ByteArray := [⟨#[97]⟩, ⟨#[97, 97]⟩, ⟨#[97, 98]⟩, ⟨#[98]⟩, ⟨#[98, 97]⟩, ⟨#[99]⟩, ⟨#[99, 97, 98]⟩, ⟨#[100]⟩]
def at8 (i : Nat) : ByteArray := allS.getD i ByteArray.empty
def kept (hb : List Bool) (n j : Nat) : List Nat := (List.range j).filter fun i => hb.getD i false && i != n
def lessT (f : Int) (n i : Nat) : Bool := if f = 3 then decide (i < n) else decide ((at8 i).size < (at8 n).size) || (decide ((at8 i).size = (at8 n).size) && decide (i < n))
def lessN (f : Int) (hb : List Bool) (n j : Nat) : Nat := ((kept hb n j).filter (lessT f n)).length
def kS (hb : List Bool) (n j : Nat) : List ByteArray := (kept hb n j).map at8
/-- The names as they stand in the bytes. -/
def kW (f : Int) (hb : List Bool) (n : Nat) : List ByteArray := if f = 2 then inO (kS hb n 8) (ordF (kS hb n 8) (kS hb n 8).length) else kS hb n 8
def incB (ks : List ByteArray) : Bool := (List.range ks.length).all fun i => i == 0 || !(sle (ks.getD i ByteArray.empty) (ks.getD (i - 1) ByteArray.empty))
def chk (f : Int) (hb : List Bool) (n : Nat) : Bool :=
  incB (kS hb n 8) && (twAux [] (kW f hb n) 0 == (0, false)) && decide (lessN f hb n 8 ≤ (kW f hb n).length) &&
  (List.range (kW f hb n).length).all fun j => !(((kW f hb n).getD j ByteArray.empty).toList == (at8 n).toList) && (abv f ((kW f hb n).getD j ByteArray.empty) (at8 n) == decide (lessN f hb n 8 ≤ j))
theorem chk3 : ∀ a b c d e f g h : Bool, ∀ n : Fin 8, chk 3 [a, b, c, d, e, f, g, h] n = true := by decide +kernel
theorem chk2 : ∀ a b c d e f g h : Bool, ∀ n : Fin 8, chk 2 [a, b, c, d, e, f, g, h] n = true := by decide +kernel
end Go.Proofs.YtcfjiaogdmjlbaaGreat
