/- the pure statement of WireRow -/
import Derived.Test.YtjkimfjhfncldaaOpWireRow
namespace Go.Proofs.Ytjkimfjhfncldaa.PuWireRow
open Go.RowKit Go.Proofs.YtjkimfjhfncldaaW.PrintWords Go.Proofs.YtjkimfjhfncldaaW.Hb Go.Proofs.YtjkimfjhfncldaaW.Ho Go.Proofs.Ytjkimfjhfncldaa.Q Go.Proofs.Ytjkimfjhfncldaa.OpWireRow
def Pure : Prop := ∀ (x0 : List (List (Int))) (x1 : List (Int)) (x2 : Int), ((x0).length * 24 ≤ reachBytes ∧ (x0).length ≤ maxLen ∧ ∀ y ∈ (x0), ((y).length * 1 ≤ reachBytes ∧ (y).length ≤ maxLen ∧ ∀ y2 ∈ (y), (Lit.int .u8 (y2)).wf = true)) → ((x1).length * 1 ≤ reachBytes ∧ (x1).length ≤ maxLen ∧ ∀ y ∈ (x1), (Lit.int .u8 (y)).wf = true) → (Lit.int .i64 (x2)).wf = true → ∃ k, weighhouselaw01_WireRow.f k x0 x1 x2 = some true
end Go.Proofs.Ytjkimfjhfncldaa.PuWireRow
