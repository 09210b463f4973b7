-- written by hprint.py (a program of these sessions) out of the translation; Lean checks it
import Derived.Test.YtlmlkcobkmhmbaaQ0
import Derived.Test.YtlmlkcobkmhmbaaQf74
import Derived.Test.YtlmlkcobkmhmbaaQf80
namespace Go.Proofs.Ytlmlkcobkmhmbaa.Q
open Go.RowKit Go.Proofs.YtlmlkcobkmhmbaaW.Hb Go.Proofs.YtlmlkcobkmhmbaaW.PrintWords Go.Proofs.YtlmlkcobkmhmbaaW.PrintLast Go.Proofs.YtlmlkcobkmhmbaaW.PrintMore
attribute [local go_sem] max2_int min2_int max_two min_two max_three min_three max_four min_four   -- for this text's walks alone
set_option linter.unusedVariables false
set_option linter.unusedSimpArgs false

/-! ### slices_ContainsFunc_int_int: function 73, by hand -/
set_option maxHeartbeats 400000 in
theorem slices_ContainsFunc_int_int.calls (A : Option Addr) (c : Nat) (xs : List Int) (w : World) (hr : (Kd.int .i64).C w A xs.length xs) (hc : xs.length ≤ c) :
    Calls Try.prog 73 #[.slice A xs.length c, .func (.func 74) #[] #[]] w fun e w' => e = .returned (.bool (xs.any outR)) ∧ w = w' := by
  have HX := Aside0.mk (ixf_any outR xs)
  go_enter Try.func73, Try.ntmps73
  go_wp2_with (go_at_call 80; (with_reducible refine (slices_IndexFunc_int_int.calls _ _ _ _ hr hc).mono ?_); rintro e w' ⟨rfl, rfl⟩)
  go_ret
  rw [← HX.out]
  exact ⟨rfl, rfl⟩


end Go.Proofs.Ytlmlkcobkmhmbaa.Q
