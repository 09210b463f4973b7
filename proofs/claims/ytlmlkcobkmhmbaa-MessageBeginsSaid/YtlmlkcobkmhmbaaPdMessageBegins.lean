/- the pure statement of MessageBegins -/
import Derived.Test.YtlmlkcobkmhmbaaOpMessageBegins
namespace Go.Proofs.Ytlmlkcobkmhmbaa.PuMessageBegins
open Go.RowKit Go.Proofs.YtlmlkcobkmhmbaaW.PrintWords Go.Proofs.YtlmlkcobkmhmbaaW.Hb Go.Proofs.YtlmlkcobkmhmbaaW.Ho Go.Proofs.Ytlmlkcobkmhmbaa.Q Go.Proofs.Ytlmlkcobkmhmbaa.OpMessageBegins
def Pure : Prop := ∀ (x0 : List (S46)) (x1 : Int), ((x0).length * 56 ≤ reachBytes ∧ (x0).length ≤ maxLen ∧ ∀ y ∈ (x0), QS46 (y)) → (Lit.int .i64 (x1)).wf = true → ∃ k, weighhouselaw17_MessageBegins.f k x0 x1 = some true
end Go.Proofs.Ytlmlkcobkmhmbaa.PuMessageBegins
