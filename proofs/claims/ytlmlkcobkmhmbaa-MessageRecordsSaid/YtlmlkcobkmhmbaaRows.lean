/-
  No cell of these rows narrows 'for every input' (looked for: loops, veiled, ifaces, maps, wideKeys, modest, calm, conditions, laid).
  DERIVED. THE GIVEN ROWS OF THIS SEAT. 5 by the template 'for every input the law returns true; each argument reads behind the call as it read before'; 0 by the template 'total and deterministic' (their statements: YtlmlkcobkmhmbaaTotals.lean).
  GIVEN WITH THE SEED: the statements are not yours to turn. If you find one false, say at which input.
  Laid BY PROGRAM, IN A SANDBOX (cutbox-rows.mjs): the forced cells as the released guide's own fill.sh prints them over the translation a3b22ba9ee353e8c… (all of the seat's roots in one cut). By AI agents, Wed Nov 11 2026. No macro, syntax, notation, axiom, sorry.
-/
import Derived.Test.YtlmlkcobkmhmbaaChecked
import GoSem.Claim
import GoSem.ClaimJoined
import GoSem.ClaimMapViews
import Derived.JoinedTies
import Derived.KernelRfl
namespace Go.Proofs.Ytlmlkcobkmhmbaa
/- THE CELL 'sum', in the pinned program and in every row, IS THE sha256 OF THE DUMP (.gsa) THAT YtlmlkcobkmhmbaaProg.lean LOADS. Nothing in Lean hashes anything: it is a label: what it is worth is what the hold of that sum in a sandbox is worth. -/
noncomputable def Try.pinned : Pinned := { name := "ytlmlkcobkmhmbaa", sum := "a3b22ba9ee353e8c0535ea2f013f20af259c800531e2fb35a631d79ab838f605", checked := Try.checked }
namespace Rows
def none {H : Type} : Left H := { results := [], args := [] }

/-- 'weighhouselaw17.MessageBegins': WHATEVER THE INPUT: true; the input reads as it did. -/
def messageBeginsSpec : ChangeSpec := { name := "messageBegins", fn := fun _ => fun
  | [d1, d2] => { results := [.lit (.bool true)], args := [d1, d2] }
  | _ => none }
def messageBeginsRow : OpenClaim := { program := "ytlmlkcobkmhmbaa", sum := "a3b22ba9ee353e8c0535ea2f013f20af259c800531e2fb35a631d79ab838f605", func := "weighhouse/weighhouselaw17.MessageBegins", spec := "messageBegins", unfollowed := true, recurses := true, apart := false }
def MessageBeginsSaid : Prop := messageBeginsRow.holds Try.pinned (OpenSpec.ofChange messageBeginsSpec)

/-- ITS FALSE NEIGHBOUR: 'it returns false'. Refute it at one input. -/
def messageBeginsWrong : ChangeSpec := { name := "messageBegins", fn := fun _ => fun
  | [d1, d2] => { results := [.lit (.bool false)], args := [d1, d2] }
  | _ => none }
def MessageBeginsWrongFalsely : Prop := messageBeginsRow.holds Try.pinned (OpenSpec.ofChange messageBeginsWrong)

/-- 'weighhouselaw17.MessageApart': WHATEVER THE INPUT: true; the input reads as it did. -/
def messageApartSpec : ChangeSpec := { name := "messageApart", fn := fun _ => fun
  | [d1, d2] => { results := [.lit (.bool true)], args := [d1, d2] }
  | _ => none }
def messageApartRow : OpenClaim := { program := "ytlmlkcobkmhmbaa", sum := "a3b22ba9ee353e8c0535ea2f013f20af259c800531e2fb35a631d79ab838f605", func := "weighhouse/weighhouselaw17.MessageApart", spec := "messageApart", unfollowed := true, recurses := true, apart := false }
def MessageApartSaid : Prop := messageApartRow.holds Try.pinned (OpenSpec.ofChange messageApartSpec)

/-- ITS FALSE NEIGHBOUR: 'it returns false'. Refute it at one input. -/
def messageApartWrong : ChangeSpec := { name := "messageApart", fn := fun _ => fun
  | [d1, d2] => { results := [.lit (.bool false)], args := [d1, d2] }
  | _ => none }
def MessageApartWrongFalsely : Prop := messageApartRow.holds Try.pinned (OpenSpec.ofChange messageApartWrong)

/-- 'weighhouselaw17.MessageRecords': WHATEVER THE INPUT: true; the input reads as it did. -/
def messageRecordsSpec : ChangeSpec := { name := "messageRecords", fn := fun _ => fun
  | [d1, d2] => { results := [.lit (.bool true)], args := [d1, d2] }
  | _ => none }
def messageRecordsRow : OpenClaim := { program := "ytlmlkcobkmhmbaa", sum := "a3b22ba9ee353e8c0535ea2f013f20af259c800531e2fb35a631d79ab838f605", func := "weighhouse/weighhouselaw17.MessageRecords", spec := "messageRecords", unfollowed := true, recurses := true, apart := false }
def MessageRecordsSaid : Prop := messageRecordsRow.holds Try.pinned (OpenSpec.ofChange messageRecordsSpec)

/-- ITS FALSE NEIGHBOUR: 'it returns false'. Refute it at one input. -/
def messageRecordsWrong : ChangeSpec := { name := "messageRecords", fn := fun _ => fun
  | [d1, d2] => { results := [.lit (.bool false)], args := [d1, d2] }
  | _ => none }
def MessageRecordsWrongFalsely : Prop := messageRecordsRow.holds Try.pinned (OpenSpec.ofChange messageRecordsWrong)

/-- 'weighhouselaw17.MessageBytes': WHATEVER THE INPUT: true; the input reads as it did. -/
def messageBytesSpec : ChangeSpec := { name := "messageBytes", fn := fun _ => fun
  | [d1, d2] => { results := [.lit (.bool true)], args := [d1, d2] }
  | _ => none }
def messageBytesRow : OpenClaim := { program := "ytlmlkcobkmhmbaa", sum := "a3b22ba9ee353e8c0535ea2f013f20af259c800531e2fb35a631d79ab838f605", func := "weighhouse/weighhouselaw17.MessageBytes", spec := "messageBytes", unfollowed := true, recurses := true, apart := false }
def MessageBytesSaid : Prop := messageBytesRow.holds Try.pinned (OpenSpec.ofChange messageBytesSpec)

/-- ITS FALSE NEIGHBOUR: 'it returns false'. Refute it at one input. -/
def messageBytesWrong : ChangeSpec := { name := "messageBytes", fn := fun _ => fun
  | [d1, d2] => { results := [.lit (.bool false)], args := [d1, d2] }
  | _ => none }
def MessageBytesWrongFalsely : Prop := messageBytesRow.holds Try.pinned (OpenSpec.ofChange messageBytesWrong)

/-- 'weighhouselaw17.MessageBack': WHATEVER THE INPUT: true; the input reads as it did. -/
def messageBackSpec : ChangeSpec := { name := "messageBack", fn := fun _ => fun
  | [d1, d2, d3] => { results := [.lit (.bool true)], args := [d1, d2, d3] }
  | _ => none }
def messageBackRow : OpenClaim := { program := "ytlmlkcobkmhmbaa", sum := "a3b22ba9ee353e8c0535ea2f013f20af259c800531e2fb35a631d79ab838f605", func := "weighhouse/weighhouselaw17.MessageBack", spec := "messageBack", unfollowed := true, recurses := true, apart := false }
def MessageBackSaid : Prop := messageBackRow.holds Try.pinned (OpenSpec.ofChange messageBackSpec)

/-- ITS FALSE NEIGHBOUR: 'it returns false'. Refute it at one input. -/
def messageBackWrong : ChangeSpec := { name := "messageBack", fn := fun _ => fun
  | [d1, d2, d3] => { results := [.lit (.bool false)], args := [d1, d2, d3] }
  | _ => none }
def MessageBackWrongFalsely : Prop := messageBackRow.holds Try.pinned (OpenSpec.ofChange messageBackWrong)

/- THE SECOND FORM. 'bulk': how many values and letters a reading holds, each counted each time it is reached (what is shared counts as often as it is met; a slice's spare places count too). A statement '..UptoSaid' is the law's where the arguments, and the package variables that the reading takes, are together of bulk at most 1048576: NARROWER than '..Said'. Prove '..Said' where nothing that the law and all that it calls make is longer than what came in: it says more and counts as full. Else prove '..UptoSaid'. A law counts once. -/
mutual
def uptoBulk {H : Type} : DataW H → Nat
  | .lit (.string bytes) => bytes.length + 1
  | .lit _ => 1
  | .nil => 1
  | .ptr d => uptoBulk d + 1
  | .slice elems spare => uptoBulkAll elems + uptoBulkAll spare + 1
  | .agg parts => uptoBulkAll parts + 1
  | .iface _ d => uptoBulk d + 1
  | .map entries => uptoBulkEntries entries + 1
  | .held _ => 1
def uptoBulkAll {H : Type} : List (DataW H) → Nat
  | [] => 0
  | d :: r => uptoBulk d + uptoBulkAll r
def uptoBulkEntries {H : Type} : List (Lit × DataW H) → Nat
  | [] => 0
  | x :: r => uptoBulkEntry x + uptoBulkEntries r
def uptoBulkEntry {H : Type} : Lit × DataW H → Nat
  | (.string bytes, d) => bytes.length + uptoBulk d + 1
  | (_, d) => uptoBulk d + 1
 end
def uptoSmall : (H : Type) → List (DataW H) → Bool := fun _ ds => decide (uptoBulkAll ds ≤ 1048576)
def OpenSpec.upto (s : _root_.Go.ChangeSpec) : _root_.Go.OpenSpec := { _root_.Go.OpenSpec.ofChange s with cond := some uptoSmall }

/-- 'weighhouselaw17.MessageBegins', WHERE WHAT IT READS IS OF BULK AT MOST 1048576: true; the input reads as it did. -/
def messageBeginsUptoRow : OpenClaim := { program := "ytlmlkcobkmhmbaa", sum := "a3b22ba9ee353e8c0535ea2f013f20af259c800531e2fb35a631d79ab838f605", func := "weighhouse/weighhouselaw17.MessageBegins", spec := "messageBegins", unfollowed := true, recurses := true, apart := false, narrowed := true }
def MessageBeginsUptoSaid : Prop := messageBeginsUptoRow.holds Try.pinned (OpenSpec.upto messageBeginsSpec)

/-- 'weighhouselaw17.MessageApart', WHERE WHAT IT READS IS OF BULK AT MOST 1048576: true; the input reads as it did. -/
def messageApartUptoRow : OpenClaim := { program := "ytlmlkcobkmhmbaa", sum := "a3b22ba9ee353e8c0535ea2f013f20af259c800531e2fb35a631d79ab838f605", func := "weighhouse/weighhouselaw17.MessageApart", spec := "messageApart", unfollowed := true, recurses := true, apart := false, narrowed := true }
def MessageApartUptoSaid : Prop := messageApartUptoRow.holds Try.pinned (OpenSpec.upto messageApartSpec)

/-- 'weighhouselaw17.MessageRecords', WHERE WHAT IT READS IS OF BULK AT MOST 1048576: true; the input reads as it did. -/
def messageRecordsUptoRow : OpenClaim := { program := "ytlmlkcobkmhmbaa", sum := "a3b22ba9ee353e8c0535ea2f013f20af259c800531e2fb35a631d79ab838f605", func := "weighhouse/weighhouselaw17.MessageRecords", spec := "messageRecords", unfollowed := true, recurses := true, apart := false, narrowed := true }
def MessageRecordsUptoSaid : Prop := messageRecordsUptoRow.holds Try.pinned (OpenSpec.upto messageRecordsSpec)

/-- 'weighhouselaw17.MessageBytes', WHERE WHAT IT READS IS OF BULK AT MOST 1048576: true; the input reads as it did. -/
def messageBytesUptoRow : OpenClaim := { program := "ytlmlkcobkmhmbaa", sum := "a3b22ba9ee353e8c0535ea2f013f20af259c800531e2fb35a631d79ab838f605", func := "weighhouse/weighhouselaw17.MessageBytes", spec := "messageBytes", unfollowed := true, recurses := true, apart := false, narrowed := true }
def MessageBytesUptoSaid : Prop := messageBytesUptoRow.holds Try.pinned (OpenSpec.upto messageBytesSpec)

/-- 'weighhouselaw17.MessageBack', WHERE WHAT IT READS IS OF BULK AT MOST 1048576: true; the input reads as it did. -/
def messageBackUptoRow : OpenClaim := { program := "ytlmlkcobkmhmbaa", sum := "a3b22ba9ee353e8c0535ea2f013f20af259c800531e2fb35a631d79ab838f605", func := "weighhouse/weighhouselaw17.MessageBack", spec := "messageBack", unfollowed := true, recurses := true, apart := false, narrowed := true }
def MessageBackUptoSaid : Prop := messageBackUptoRow.holds Try.pinned (OpenSpec.upto messageBackSpec)

end Rows
end Go.Proofs.Ytlmlkcobkmhmbaa
