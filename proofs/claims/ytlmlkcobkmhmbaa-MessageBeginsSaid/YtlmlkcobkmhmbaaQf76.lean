-- written by hprint.py (a program of these sessions) out of the translation; Lean checks it
import Derived.Test.YtlmlkcobkmhmbaaQ0
import Derived.Test.YtlmlkcobkmhmbaaQf75
import Derived.Test.YtlmlkcobkmhmbaaQf81
namespace Go.Proofs.Ytlmlkcobkmhmbaa.Q
open Go.RowKit Go.Proofs.YtlmlkcobkmhmbaaW.Hb Go.Proofs.YtlmlkcobkmhmbaaW.PrintWords Go.Proofs.YtlmlkcobkmhmbaaW.PrintLast Go.Proofs.YtlmlkcobkmhmbaaW.PrintMore
attribute [local go_sem] max2_int min2_int max_two min_two max_three min_three max_four min_four   -- for this text's walks alone
set_option linter.unusedVariables false
set_option linter.unusedSimpArgs false

/-! ### message_Entry_76: function 76, by hand -/
set_option maxHeartbeats 400000 in
theorem message_Entry_76.calls (A : Option Addr) (c : Nat) (xs : List S74) (w : World) (hr : Kd.C k74 w A xs.length xs) (hc : xs.length ≤ c) :
    Calls Try.prog 76 #[.slice A xs.length c, .func (.func 75) #[] #[]] w fun e w' => e = .returned (.bool (xs.any outE)) ∧ Below w.heap.size w w' := by
  have HX := Aside0.mk (ixf_any outE xs)
  go_enter Try.func76, Try.ntmps76
  go_wp2_with (go_at_call 81; (with_reducible refine (message_Entry_81.calls _ _ _ _ hr hc).mono ?_); rintro e w' ⟨rfl, hb⟩)
  go_ret
  rw [← HX.out]
  exact ⟨rfl, hb⟩


end Go.Proofs.Ytlmlkcobkmhmbaa.Q
