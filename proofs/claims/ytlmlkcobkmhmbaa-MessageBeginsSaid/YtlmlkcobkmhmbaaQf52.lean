-- written by hprint.py (a program of these sessions) out of the translation; Lean checks it
import Derived.Test.YtlmlkcobkmhmbaaQ0
import Derived.Test.YtlmlkcobkmhmbaaQf75
import Derived.Test.YtlmlkcobkmhmbaaQf76
namespace Go.Proofs.Ytlmlkcobkmhmbaa.Q
open Go.RowKit Go.Proofs.YtlmlkcobkmhmbaaW.Hb Go.Proofs.YtlmlkcobkmhmbaaW.PrintWords Go.Proofs.YtlmlkcobkmhmbaaW.PrintLast Go.Proofs.YtlmlkcobkmhmbaaW.PrintMore
attribute [local go_sem] max2_int min2_int max_two min_two max_three min_three max_four min_four   -- for this text's walks alone
set_option linter.unusedVariables false
set_option linter.unusedSimpArgs false

/-! ### message_entries: function 52, by hand -/
def entB (l0 : List S74) : Bool := decide (l0.length ≤ 2048) && !(l0.any outE)
def message_entries.f (l0 : List S74) : Option Bool := some (entB l0)
set_option maxHeartbeats 400000 in
theorem message_entries.calls (A0 : Option Addr) (c0 : Nat) (l0 : List S74) (r : Bool) (w : World) (hr0 : Kd.C k74 w A0 l0.length l0) (hc0 : l0.length ≤ c0) (h : message_entries.f l0 = some r) :
    Calls Try.prog 52 #[.slice A0 l0.length c0] w fun e w' => e = .returned (.bool r) ∧ Below w.heap.size w w' := by
  obtain rfl : entB l0 = r := Option.some.inj h
  clear h
  by_cases h1 : l0.length ≤ 2048
  · have HX := Aside0.mk (show entB l0 = !(l0.any outE) by simp [entB, h1])
    have h2 : (l0.length : Int) ≤ 2048 := by omega
    go_enter Try.func52, Try.ntmps52
    go_wp2_with (go_at_call 76; (with_reducible refine (message_Entry_76.calls _ _ _ _ hr0 hc0).mono ?_); rintro e w' ⟨rfl, hb⟩)
    go_ret
    rw [HX.out]
    exact ⟨rfl, hb⟩
  · have HX := Aside0.mk (show entB l0 = false by simp [entB, h1])
    have h2 : ¬ (l0.length : Int) ≤ 2048 := by omega
    go_enter Try.func52, Try.ntmps52
    go_wp2
    go_ret
    rw [HX.out]
    exact ⟨rfl, Below.refl _ _⟩


end Go.Proofs.Ytlmlkcobkmhmbaa.Q
