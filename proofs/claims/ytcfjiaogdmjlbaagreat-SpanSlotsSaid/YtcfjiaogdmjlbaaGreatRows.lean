/-
  No cell of these rows narrows 'for every input' (looked for: loops, veiled, ifaces, maps, wideKeys, modest, calm, conditions, laid).
  DERIVED. THE GIVEN ROWS OF THIS SEAT. 3 by the template 'for every input the law returns true; each argument reads behind the call as it read before'; 0 by the template 'total and deterministic' (their statements: YtcfjiaogdmjlbaaGreatTotals.lean).
  GIVEN WITH THE SEED: the statements are not yours to turn. If you find one false, say at which input.
  Laid BY PROGRAM, IN A SANDBOX (cutbox-rows.mjs): the forced cells as the released guide's own fill.sh prints them over the translation 03ed4cddf30a088c… (all of the seat's roots in one cut). By AI agents, Wed Nov 11 2026. No macro, syntax, notation, axiom, sorry.
-/
import Derived.Test.YtcfjiaogdmjlbaaGreatChecked
import GoSem.Claim
import GoSem.ClaimJoined
import GoSem.ClaimMapViews
import Derived.JoinedTies
import Derived.KernelRfl
namespace Go.Proofs.YtcfjiaogdmjlbaaGreat
/- THE CELL 'sum', in the pinned program and in every row, IS THE sha256 OF THE DUMP (.gsa) THAT YtcfjiaogdmjlbaaGreatProg.lean LOADS. Nothing in Lean hashes anything: it is a label: what it is worth is what the hold of that sum in a sandbox is worth. -/
noncomputable def Tryz.pinned : Pinned := { name := "ytcfjiaogdmjlbaagreat", sum := "03ed4cddf30a088cf1eada0345015cab7d43c781cdcef599f295b025e598427e", checked := Tryz.checked }
namespace Rows
def none {H : Type} : Left H := { results := [], args := [] }

/-- 'erratumlaw23.SpanValues': WHATEVER THE INPUT: true; the input reads as it did. -/
def spanValuesSpec : ChangeSpec := { name := "spanValues", fn := fun _ => fun
  | [d1, d2, d3, d4] => { results := [.lit (.bool true)], args := [d1, d2, d3, d4] }
  | _ => none }
def spanValuesRow : OpenClaim := { program := "ytcfjiaogdmjlbaagreat", sum := "03ed4cddf30a088cf1eada0345015cab7d43c781cdcef599f295b025e598427e", func := "erratum/erratumlaw23.SpanValues", spec := "spanValues", unfollowed := true, recurses := true, apart := false }
def SpanValuesSaid : Prop := spanValuesRow.holds Tryz.pinned (OpenSpec.ofChange spanValuesSpec)

/-- ITS FALSE NEIGHBOUR: 'it returns false'. Refute it at one input. -/
def spanValuesWrong : ChangeSpec := { name := "spanValues", fn := fun _ => fun
  | [d1, d2, d3, d4] => { results := [.lit (.bool false)], args := [d1, d2, d3, d4] }
  | _ => none }
def SpanValuesWrongFalsely : Prop := spanValuesRow.holds Tryz.pinned (OpenSpec.ofChange spanValuesWrong)

/-- 'erratumlaw23.SpanSlots': WHATEVER THE INPUT: true; the input reads as it did. -/
def spanSlotsSpec : ChangeSpec := { name := "spanSlots", fn := fun _ => fun
  | [d1, d2, d3] => { results := [.lit (.bool true)], args := [d1, d2, d3] }
  | _ => none }
def spanSlotsRow : OpenClaim := { program := "ytcfjiaogdmjlbaagreat", sum := "03ed4cddf30a088cf1eada0345015cab7d43c781cdcef599f295b025e598427e", func := "erratum/erratumlaw23.SpanSlots", spec := "spanSlots", unfollowed := true, recurses := true, apart := false }
def SpanSlotsSaid : Prop := spanSlotsRow.holds Tryz.pinned (OpenSpec.ofChange spanSlotsSpec)

/-- ITS FALSE NEIGHBOUR: 'it returns false'. Refute it at one input. -/
def spanSlotsWrong : ChangeSpec := { name := "spanSlots", fn := fun _ => fun
  | [d1, d2, d3] => { results := [.lit (.bool false)], args := [d1, d2, d3] }
  | _ => none }
def SpanSlotsWrongFalsely : Prop := spanSlotsRow.holds Tryz.pinned (OpenSpec.ofChange spanSlotsWrong)

/-- 'erratumlaw23.SpanAll': WHATEVER THE INPUT: true; the input reads as it did. -/
def spanAllSpec : ChangeSpec := { name := "spanAll", fn := fun _ => fun
  | [d1, d2, d3, d4] => { results := [.lit (.bool true)], args := [d1, d2, d3, d4] }
  | _ => none }
def spanAllRow : OpenClaim := { program := "ytcfjiaogdmjlbaagreat", sum := "03ed4cddf30a088cf1eada0345015cab7d43c781cdcef599f295b025e598427e", func := "erratum/erratumlaw23.SpanAll", spec := "spanAll", unfollowed := true, recurses := true, apart := false }
def SpanAllSaid : Prop := spanAllRow.holds Tryz.pinned (OpenSpec.ofChange spanAllSpec)

/-- ITS FALSE NEIGHBOUR: 'it returns false'. Refute it at one input. -/
def spanAllWrong : ChangeSpec := { name := "spanAll", fn := fun _ => fun
  | [d1, d2, d3, d4] => { results := [.lit (.bool false)], args := [d1, d2, d3, d4] }
  | _ => none }
def SpanAllWrongFalsely : Prop := spanAllRow.holds Tryz.pinned (OpenSpec.ofChange spanAllWrong)

/- THE SECOND FORM. 'bulk': how many values and letters a reading holds, each counted each time it is reached (what is shared counts as often as it is met; a slice's spare places count too). A statement '..UptoSaid' is the law's where the arguments, and the package variables that the reading takes, are together of bulk at most 1048576: NARROWER than '..Said'. Prove '..Said' where nothing that the law and all that it calls make is longer than what came in: it says more and counts as full. Else prove '..UptoSaid'. A law counts once. -/
mutual
def uptoBulk {H : Type} : DataW H → Nat
  | .lit (.string bytes) => bytes.length + 1
  | .lit _ => 1
  | .nil => 1
  | .ptr d => uptoBulk d + 1
  | .slice elems spare => uptoBulkAll elems + uptoBulkAll spare + 1
  | .agg parts => uptoBulkAll parts + 1
  | .iface _ d => uptoBulk d + 1
  | .map entries => uptoBulkEntries entries + 1
  | .held _ => 1
def uptoBulkAll {H : Type} : List (DataW H) → Nat
  | [] => 0
  | d :: r => uptoBulk d + uptoBulkAll r
def uptoBulkEntries {H : Type} : List (Lit × DataW H) → Nat
  | [] => 0
  | x :: r => uptoBulkEntry x + uptoBulkEntries r
def uptoBulkEntry {H : Type} : Lit × DataW H → Nat
  | (.string bytes, d) => bytes.length + uptoBulk d + 1
  | (_, d) => uptoBulk d + 1
 end
def uptoSmall : (H : Type) → List (DataW H) → Bool := fun _ ds => decide (uptoBulkAll ds ≤ 1048576)
def OpenSpec.upto (s : _root_.Go.ChangeSpec) : _root_.Go.OpenSpec := { _root_.Go.OpenSpec.ofChange s with cond := some uptoSmall }

/-- 'erratumlaw23.SpanValues', WHERE WHAT IT READS IS OF BULK AT MOST 1048576: true; the input reads as it did. -/
def spanValuesUptoRow : OpenClaim := { program := "ytcfjiaogdmjlbaagreat", sum := "03ed4cddf30a088cf1eada0345015cab7d43c781cdcef599f295b025e598427e", func := "erratum/erratumlaw23.SpanValues", spec := "spanValues", unfollowed := true, recurses := true, apart := false, narrowed := true }
def SpanValuesUptoSaid : Prop := spanValuesUptoRow.holds Tryz.pinned (OpenSpec.upto spanValuesSpec)

/-- 'erratumlaw23.SpanSlots', WHERE WHAT IT READS IS OF BULK AT MOST 1048576: true; the input reads as it did. -/
def spanSlotsUptoRow : OpenClaim := { program := "ytcfjiaogdmjlbaagreat", sum := "03ed4cddf30a088cf1eada0345015cab7d43c781cdcef599f295b025e598427e", func := "erratum/erratumlaw23.SpanSlots", spec := "spanSlots", unfollowed := true, recurses := true, apart := false, narrowed := true }
def SpanSlotsUptoSaid : Prop := spanSlotsUptoRow.holds Tryz.pinned (OpenSpec.upto spanSlotsSpec)

/-- 'erratumlaw23.SpanAll', WHERE WHAT IT READS IS OF BULK AT MOST 1048576: true; the input reads as it did. -/
def spanAllUptoRow : OpenClaim := { program := "ytcfjiaogdmjlbaagreat", sum := "03ed4cddf30a088cf1eada0345015cab7d43c781cdcef599f295b025e598427e", func := "erratum/erratumlaw23.SpanAll", spec := "spanAll", unfollowed := true, recurses := true, apart := false, narrowed := true }
def SpanAllUptoSaid : Prop := spanAllUptoRow.holds Tryz.pinned (OpenSpec.upto spanAllSpec)

end Rows
end Go.Proofs.YtcfjiaogdmjlbaaGreat
