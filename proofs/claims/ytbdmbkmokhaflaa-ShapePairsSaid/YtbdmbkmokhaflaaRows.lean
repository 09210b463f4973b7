/-
  No cell of these rows narrows 'for every input' (looked for: loops, veiled, ifaces, maps, wideKeys, modest, calm, conditions, laid).
  DERIVED. THE GIVEN ROWS OF THIS SEAT. 6 by the template 'for every input the law returns true; each argument reads behind the call as it read before'; 0 by the template 'total and deterministic' (their statements: YtbdmbkmokhaflaaTotals.lean).
  GIVEN WITH THE SEED: the statements are not yours to turn. If you find one false, say at which input.
  Laid BY PROGRAM, IN A SANDBOX (cutbox-rows.mjs): the forced cells as the released guide's own fill.sh prints them over the translation f2872f69cee57a38… (all of the seat's roots in one cut). By AI agents, Wed Nov 11 2026. No macro, syntax, notation, axiom, sorry.
-/
import Derived.Test.YtbdmbkmokhaflaaChecked
import GoSem.Claim
import GoSem.ClaimJoined
import GoSem.ClaimMapViews
import Derived.JoinedTies
import Derived.KernelRfl
namespace Go.Proofs.Ytbdmbkmokhaflaa
/- THE CELL 'sum', in the pinned program and in every row, IS THE sha256 OF THE DUMP (.gsa) THAT YtbdmbkmokhaflaaProg.lean LOADS. Nothing in Lean hashes anything: it is a label: what it is worth is what the hold of that sum in a sandbox is worth. -/
noncomputable def Try.pinned : Pinned := { name := "ytbdmbkmokhaflaa", sum := "f2872f69cee57a386ce32ff143e67aee275ddee655f887b82aef502216308533", checked := Try.checked }
namespace Rows
def none {H : Type} : Left H := { results := [], args := [] }

/-- 'weighhouselaw06.ShapePairs': WHATEVER THE INPUT: true; the input reads as it did. -/
def shapePairsSpec : ChangeSpec := { name := "shapePairs", fn := fun _ => fun
  | [d] => { results := [.lit (.bool true)], args := [d] }
  | _ => none }
def shapePairsRow : OpenClaim := { program := "ytbdmbkmokhaflaa", sum := "f2872f69cee57a386ce32ff143e67aee275ddee655f887b82aef502216308533", func := "weighhouse/weighhouselaw06.ShapePairs", spec := "shapePairs", unfollowed := true, recurses := true, apart := false }
def ShapePairsSaid : Prop := shapePairsRow.holds Try.pinned (OpenSpec.ofChange shapePairsSpec)

/-- ITS FALSE NEIGHBOUR: 'it returns false'. Refute it at one input. -/
def shapePairsWrong : ChangeSpec := { name := "shapePairs", fn := fun _ => fun
  | [d] => { results := [.lit (.bool false)], args := [d] }
  | _ => none }
def ShapePairsWrongFalsely : Prop := shapePairsRow.holds Try.pinned (OpenSpec.ofChange shapePairsWrong)

/-- 'weighhouselaw06.ShapeNexts': WHATEVER THE INPUT: true; the input reads as it did. -/
def shapeNextsSpec : ChangeSpec := { name := "shapeNexts", fn := fun _ => fun
  | [d1, d2, d3, d4] => { results := [.lit (.bool true)], args := [d1, d2, d3, d4] }
  | _ => none }
def shapeNextsRow : OpenClaim := { program := "ytbdmbkmokhaflaa", sum := "f2872f69cee57a386ce32ff143e67aee275ddee655f887b82aef502216308533", func := "weighhouse/weighhouselaw06.ShapeNexts", spec := "shapeNexts", unfollowed := true, recurses := true, apart := false }
def ShapeNextsSaid : Prop := shapeNextsRow.holds Try.pinned (OpenSpec.ofChange shapeNextsSpec)

/-- ITS FALSE NEIGHBOUR: 'it returns false'. Refute it at one input. -/
def shapeNextsWrong : ChangeSpec := { name := "shapeNexts", fn := fun _ => fun
  | [d1, d2, d3, d4] => { results := [.lit (.bool false)], args := [d1, d2, d3, d4] }
  | _ => none }
def ShapeNextsWrongFalsely : Prop := shapeNextsRow.holds Try.pinned (OpenSpec.ofChange shapeNextsWrong)

/-- 'weighhouselaw06.ShapeWays': WHATEVER THE INPUT: true; the input reads as it did. -/
def shapeWaysSpec : ChangeSpec := { name := "shapeWays", fn := fun _ => fun
  | [d1, d2, d3] => { results := [.lit (.bool true)], args := [d1, d2, d3] }
  | _ => none }
def shapeWaysRow : OpenClaim := { program := "ytbdmbkmokhaflaa", sum := "f2872f69cee57a386ce32ff143e67aee275ddee655f887b82aef502216308533", func := "weighhouse/weighhouselaw06.ShapeWays", spec := "shapeWays", unfollowed := true, recurses := true, apart := false }
def ShapeWaysSaid : Prop := shapeWaysRow.holds Try.pinned (OpenSpec.ofChange shapeWaysSpec)

/-- ITS FALSE NEIGHBOUR: 'it returns false'. Refute it at one input. -/
def shapeWaysWrong : ChangeSpec := { name := "shapeWays", fn := fun _ => fun
  | [d1, d2, d3] => { results := [.lit (.bool false)], args := [d1, d2, d3] }
  | _ => none }
def ShapeWaysWrongFalsely : Prop := shapeWaysRow.holds Try.pinned (OpenSpec.ofChange shapeWaysWrong)

/-- 'weighhouselaw06.ShapeMatches': WHATEVER THE INPUT: true; the input reads as it did. -/
def shapeMatchesSpec : ChangeSpec := { name := "shapeMatches", fn := fun _ => fun
  | [d] => { results := [.lit (.bool true)], args := [d] }
  | _ => none }
def shapeMatchesRow : OpenClaim := { program := "ytbdmbkmokhaflaa", sum := "f2872f69cee57a386ce32ff143e67aee275ddee655f887b82aef502216308533", func := "weighhouse/weighhouselaw06.ShapeMatches", spec := "shapeMatches", unfollowed := true, recurses := true, apart := false }
def ShapeMatchesSaid : Prop := shapeMatchesRow.holds Try.pinned (OpenSpec.ofChange shapeMatchesSpec)

/-- ITS FALSE NEIGHBOUR: 'it returns false'. Refute it at one input. -/
def shapeMatchesWrong : ChangeSpec := { name := "shapeMatches", fn := fun _ => fun
  | [d] => { results := [.lit (.bool false)], args := [d] }
  | _ => none }
def ShapeMatchesWrongFalsely : Prop := shapeMatchesRow.holds Try.pinned (OpenSpec.ofChange shapeMatchesWrong)

/-- 'weighhouselaw06.ShapeArounds': WHATEVER THE INPUT: true; the input reads as it did. -/
def shapeAroundsSpec : ChangeSpec := { name := "shapeArounds", fn := fun _ => fun
  | [d1, d2] => { results := [.lit (.bool true)], args := [d1, d2] }
  | _ => none }
def shapeAroundsRow : OpenClaim := { program := "ytbdmbkmokhaflaa", sum := "f2872f69cee57a386ce32ff143e67aee275ddee655f887b82aef502216308533", func := "weighhouse/weighhouselaw06.ShapeArounds", spec := "shapeArounds", unfollowed := true, recurses := true, apart := false }
def ShapeAroundsSaid : Prop := shapeAroundsRow.holds Try.pinned (OpenSpec.ofChange shapeAroundsSpec)

/-- ITS FALSE NEIGHBOUR: 'it returns false'. Refute it at one input. -/
def shapeAroundsWrong : ChangeSpec := { name := "shapeArounds", fn := fun _ => fun
  | [d1, d2] => { results := [.lit (.bool false)], args := [d1, d2] }
  | _ => none }
def ShapeAroundsWrongFalsely : Prop := shapeAroundsRow.holds Try.pinned (OpenSpec.ofChange shapeAroundsWrong)

/-- 'weighhouselaw06.ShapeNest': WHATEVER THE INPUT: true; the input reads as it did. -/
def shapeNestSpec : ChangeSpec := { name := "shapeNest", fn := fun _ => fun
  | [d1, d2] => { results := [.lit (.bool true)], args := [d1, d2] }
  | _ => none }
def shapeNestRow : OpenClaim := { program := "ytbdmbkmokhaflaa", sum := "f2872f69cee57a386ce32ff143e67aee275ddee655f887b82aef502216308533", func := "weighhouse/weighhouselaw06.ShapeNest", spec := "shapeNest", unfollowed := true, recurses := true, apart := false }
def ShapeNestSaid : Prop := shapeNestRow.holds Try.pinned (OpenSpec.ofChange shapeNestSpec)

/-- ITS FALSE NEIGHBOUR: 'it returns false'. Refute it at one input. -/
def shapeNestWrong : ChangeSpec := { name := "shapeNest", fn := fun _ => fun
  | [d1, d2] => { results := [.lit (.bool false)], args := [d1, d2] }
  | _ => none }
def ShapeNestWrongFalsely : Prop := shapeNestRow.holds Try.pinned (OpenSpec.ofChange shapeNestWrong)

/- THE SECOND FORM. 'bulk': how many values and letters a reading holds, each counted each time it is reached (what is shared counts as often as it is met; a slice's spare places count too). A statement '..UptoSaid' is the law's where the arguments, and the package variables that the reading takes, are together of bulk at most 1048576: NARROWER than '..Said'. Prove '..Said' where nothing that the law and all that it calls make is longer than what came in: it says more and counts as full. Else prove '..UptoSaid'. A law counts once. -/
mutual
def uptoBulk {H : Type} : DataW H → Nat
  | .lit (.string bytes) => bytes.length + 1
  | .lit _ => 1
  | .nil => 1
  | .ptr d => uptoBulk d + 1
  | .slice elems spare => uptoBulkAll elems + uptoBulkAll spare + 1
  | .agg parts => uptoBulkAll parts + 1
  | .iface _ d => uptoBulk d + 1
  | .map entries => uptoBulkEntries entries + 1
  | .held _ => 1
def uptoBulkAll {H : Type} : List (DataW H) → Nat
  | [] => 0
  | d :: r => uptoBulk d + uptoBulkAll r
def uptoBulkEntries {H : Type} : List (Lit × DataW H) → Nat
  | [] => 0
  | x :: r => uptoBulkEntry x + uptoBulkEntries r
def uptoBulkEntry {H : Type} : Lit × DataW H → Nat
  | (.string bytes, d) => bytes.length + uptoBulk d + 1
  | (_, d) => uptoBulk d + 1
 end
def uptoSmall : (H : Type) → List (DataW H) → Bool := fun _ ds => decide (uptoBulkAll ds ≤ 1048576)
def OpenSpec.upto (s : _root_.Go.ChangeSpec) : _root_.Go.OpenSpec := { _root_.Go.OpenSpec.ofChange s with cond := some uptoSmall }

/-- 'weighhouselaw06.ShapePairs', WHERE WHAT IT READS IS OF BULK AT MOST 1048576: true; the input reads as it did. -/
def shapePairsUptoRow : OpenClaim := { program := "ytbdmbkmokhaflaa", sum := "f2872f69cee57a386ce32ff143e67aee275ddee655f887b82aef502216308533", func := "weighhouse/weighhouselaw06.ShapePairs", spec := "shapePairs", unfollowed := true, recurses := true, apart := false, narrowed := true }
def ShapePairsUptoSaid : Prop := shapePairsUptoRow.holds Try.pinned (OpenSpec.upto shapePairsSpec)

/-- 'weighhouselaw06.ShapeNexts', WHERE WHAT IT READS IS OF BULK AT MOST 1048576: true; the input reads as it did. -/
def shapeNextsUptoRow : OpenClaim := { program := "ytbdmbkmokhaflaa", sum := "f2872f69cee57a386ce32ff143e67aee275ddee655f887b82aef502216308533", func := "weighhouse/weighhouselaw06.ShapeNexts", spec := "shapeNexts", unfollowed := true, recurses := true, apart := false, narrowed := true }
def ShapeNextsUptoSaid : Prop := shapeNextsUptoRow.holds Try.pinned (OpenSpec.upto shapeNextsSpec)

/-- 'weighhouselaw06.ShapeWays', WHERE WHAT IT READS IS OF BULK AT MOST 1048576: true; the input reads as it did. -/
def shapeWaysUptoRow : OpenClaim := { program := "ytbdmbkmokhaflaa", sum := "f2872f69cee57a386ce32ff143e67aee275ddee655f887b82aef502216308533", func := "weighhouse/weighhouselaw06.ShapeWays", spec := "shapeWays", unfollowed := true, recurses := true, apart := false, narrowed := true }
def ShapeWaysUptoSaid : Prop := shapeWaysUptoRow.holds Try.pinned (OpenSpec.upto shapeWaysSpec)

/-- 'weighhouselaw06.ShapeMatches', WHERE WHAT IT READS IS OF BULK AT MOST 1048576: true; the input reads as it did. -/
def shapeMatchesUptoRow : OpenClaim := { program := "ytbdmbkmokhaflaa", sum := "f2872f69cee57a386ce32ff143e67aee275ddee655f887b82aef502216308533", func := "weighhouse/weighhouselaw06.ShapeMatches", spec := "shapeMatches", unfollowed := true, recurses := true, apart := false, narrowed := true }
def ShapeMatchesUptoSaid : Prop := shapeMatchesUptoRow.holds Try.pinned (OpenSpec.upto shapeMatchesSpec)

/-- 'weighhouselaw06.ShapeArounds', WHERE WHAT IT READS IS OF BULK AT MOST 1048576: true; the input reads as it did. -/
def shapeAroundsUptoRow : OpenClaim := { program := "ytbdmbkmokhaflaa", sum := "f2872f69cee57a386ce32ff143e67aee275ddee655f887b82aef502216308533", func := "weighhouse/weighhouselaw06.ShapeArounds", spec := "shapeArounds", unfollowed := true, recurses := true, apart := false, narrowed := true }
def ShapeAroundsUptoSaid : Prop := shapeAroundsUptoRow.holds Try.pinned (OpenSpec.upto shapeAroundsSpec)

/-- 'weighhouselaw06.ShapeNest', WHERE WHAT IT READS IS OF BULK AT MOST 1048576: true; the input reads as it did. -/
def shapeNestUptoRow : OpenClaim := { program := "ytbdmbkmokhaflaa", sum := "f2872f69cee57a386ce32ff143e67aee275ddee655f887b82aef502216308533", func := "weighhouse/weighhouselaw06.ShapeNest", spec := "shapeNest", unfollowed := true, recurses := true, apart := false, narrowed := true }
def ShapeNestUptoSaid : Prop := shapeNestUptoRow.holds Try.pinned (OpenSpec.upto shapeNestSpec)

end Rows
end Go.Proofs.Ytbdmbkmokhaflaa
