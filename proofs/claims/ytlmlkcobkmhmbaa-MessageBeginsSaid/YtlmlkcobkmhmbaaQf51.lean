-- written by hprint.py (a program of these sessions) out of the translation; Lean checks it
import Derived.Test.YtlmlkcobkmhmbaaQ0
import Derived.Test.YtlmlkcobkmhmbaaQf74
import Derived.Test.YtlmlkcobkmhmbaaQf73
namespace Go.Proofs.Ytlmlkcobkmhmbaa.Q
open Go.RowKit Go.Proofs.YtlmlkcobkmhmbaaW.Hb Go.Proofs.YtlmlkcobkmhmbaaW.PrintWords Go.Proofs.YtlmlkcobkmhmbaaW.PrintLast Go.Proofs.YtlmlkcobkmhmbaaW.PrintMore
attribute [local go_sem] max2_int min2_int max_two min_two max_three min_three max_four min_four   -- for this text's walks alone
set_option linter.unusedVariables false
set_option linter.unusedSimpArgs false

/-! ### message_numbers: function 51, by hand -/
def message_numbers.f (l0 : List Int) : Option Bool := some (!(l0.any outR))
set_option maxHeartbeats 400000 in
theorem message_numbers.calls (A0 : Option Addr) (c0 : Nat) (l0 : List Int) (r : Bool) (w : World) (hr0 : Kd.C (Kd.int .i64) w A0 l0.length l0) (hc0 : l0.length ≤ c0) (h : message_numbers.f l0 = some r) :
    Calls Try.prog 51 #[.slice A0 l0.length c0] w fun e w' => e = .returned (.bool r) ∧ Below w.heap.size w w' := by
  obtain rfl : (!(l0.any outR)) = r := Option.some.inj h
  clear h
  go_enter Try.func51, Try.ntmps51
  go_wp2_with (go_at_call 73; (with_reducible refine (slices_ContainsFunc_int_int.calls _ _ _ _ hr0 hc0).mono ?_); rintro e w' ⟨rfl, rfl⟩)
  go_ret
  exact ⟨rfl, Below.refl _ _⟩
theorem message_numbers.callsN (A0 : Option Addr) (n c0 : Nat) (l0 : List Int) (hn : l0.length = n) (r : Bool) (w : World) (hr0 : Kd.C (Kd.int .i64) w A0 l0.length l0) (hc0 : n ≤ c0) (h : message_numbers.f l0 = some r) :
    Calls Try.prog 51 #[.slice A0 n c0] w fun e w' => e = .returned (.bool r) ∧ Below w.heap.size w w' := by
  subst hn
  exact message_numbers.calls A0 c0 l0 r w hr0 hc0 h


end Go.Proofs.Ytlmlkcobkmhmbaa.Q
