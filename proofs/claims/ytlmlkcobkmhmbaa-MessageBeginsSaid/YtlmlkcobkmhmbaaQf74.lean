-- written by hprint.py (a program of these sessions) out of the translation; Lean checks it
import Derived.Test.YtlmlkcobkmhmbaaQ0
namespace Go.Proofs.Ytlmlkcobkmhmbaa.Q
open Go.RowKit Go.Proofs.YtlmlkcobkmhmbaaW.Hb Go.Proofs.YtlmlkcobkmhmbaaW.PrintWords Go.Proofs.YtlmlkcobkmhmbaaW.PrintLast Go.Proofs.YtlmlkcobkmhmbaaW.PrintMore
attribute [local go_sem] max2_int min2_int max_two min_two max_three min_three max_four min_four   -- for this text's walks alone
set_option linter.unusedVariables false
set_option linter.unusedSimpArgs false

/-! ### message_numbers_lit1_74: function 74, by hand -/
def outR (n : Int) : Bool := decide (n < 0) || decide (1099511627776 < n)
theorem outR_t {n : Int} (h : n < 0 ∨ 1099511627776 < n) : outR n = true := by simp [outR]; omega
theorem outR_f {n : Int} (h : ¬ n < 0) (h' : ¬ 1099511627776 < n) : outR n = false := by simp [outR]; omega
set_option maxHeartbeats 400000 in
theorem message_numbers_lit1_74.calls (n : Int) (w : World) :
    Calls Try.prog 74 #[.int .i64 n] w fun e w' => e = .returned (.bool (outR n)) ∧ w = w' := by
  by_cases h1 : n < 0
  · have H := Aside0.mk (outR_t (.inl h1))
    go_enter Try.func74, Try.ntmps74
    go_wp2
    go_ret
    rw [H.out]
    exact ⟨rfl, rfl⟩
  · by_cases h2 : 1099511627776 < n
    · have H := Aside0.mk (outR_t (.inr h2))
      go_enter Try.func74, Try.ntmps74
      go_wp2
      go_ret
      rw [H.out]
      exact ⟨rfl, rfl⟩
    · have H := Aside0.mk (outR_f h1 h2)
      go_enter Try.func74, Try.ntmps74
      go_wp2
      go_ret
      rw [H.out]
      exact ⟨rfl, rfl⟩


end Go.Proofs.Ytlmlkcobkmhmbaa.Q
