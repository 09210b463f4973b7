-- written by hprint.py (a program of these sessions) out of the translation; Lean checks it
import Derived.Test.YtlmlkcobkmhmbaaQ0
import Derived.Test.YtlmlkcobkmhmbaaQf74
namespace Go.Proofs.Ytlmlkcobkmhmbaa.Q
open Go.RowKit Go.Proofs.YtlmlkcobkmhmbaaW.Hb Go.Proofs.YtlmlkcobkmhmbaaW.PrintWords Go.Proofs.YtlmlkcobkmhmbaaW.PrintLast Go.Proofs.YtlmlkcobkmhmbaaW.PrintMore
attribute [local go_sem] max2_int min2_int max_two min_two max_three min_three max_four min_four   -- for this text's walks alone
set_option linter.unusedVariables false
set_option linter.unusedSimpArgs false

/-! ### slices_IndexFunc_int_int: function 80, by hand -/
set_option maxHeartbeats 400000 in
theorem slices_IndexFunc_int_int.calls (A : Option Addr) (c : Nat) (xs : List Int) (w : World) (hr : (Kd.int .i64).C w A xs.length xs) (hc : xs.length ≤ c) :
    Calls Try.prog 80 #[.slice A xs.length c, .func (.func 74) #[] #[]] w fun e w' => e = .returned (.int .i64 (ixf outR xs)) ∧ w = w' := by
  have HR := Aside0.mk hr
  clear hr
  have hm : xs.length ≤ 9223372036854775807 := HR.out.2.1
  go_enter Try.func80, Try.ntmps80
  go_wp2
  go_loop [8] (fun i => ∃ k : Nat, k ≤ xs.length ∧ i = .int .i64 k ∧ Aside0 (∀ j (hj : j < xs.length), j < k → outR xs[j] = false)) (fun i => xs.length - (intOf i).toNat)
  case atStart => exact ⟨0, Nat.zero_le _, rfl, ⟨fun j _ h => absurd h (by omega)⟩⟩
  case round =>
    obtain ⟨k, hk, rfl, HP⟩ := hrel
    by_cases hlt : k < xs.length
    · obtain ⟨ad, e, hcell⟩ := at_intN HR.out k hlt
      cases e
      cases hp : outR xs[k] with
      | true =>
        have HP2 := Aside0.mk (ixf_hit outR xs k hlt hp HP.out)
        have HQ := Aside0.mk hp
        clear hp HP
        go_wp2_with (go_at_call 74; (with_reducible refine (message_numbers_lit1_74.calls _ _).mono ?_); rw [HQ.out]; rintro e w' ⟨rfl, rfl⟩)
        go_ret
        rw [HP2.out]
        exact ⟨rfl, rfl⟩
      | false =>
        have HQ := Aside0.mk hp
        clear hp
        go_wp2_with (go_at_call 74; (with_reducible refine (message_numbers_lit1_74.calls _ _).mono ?_); rw [HQ.out]; rintro e w' ⟨rfl, rfl⟩)
        go_round
        case rel => exact ⟨k + 1, by omega, by go_num, ⟨fun j hj h => by
          rcases Nat.lt_or_ge j k with h1 | h1
          · exact HP.out j hj h1
          · obtain rfl : j = k := by omega
            exact HQ.out⟩⟩
        case measure => simp [intOf]; omega
    · have HP2 := Aside0.mk (ixf_miss outR xs (fun j hj => HP.out j hj (by omega)))
      clear HP
      go_wp2
      go_ret
      rw [HP2.out]
      exact ⟨rfl, rfl⟩


end Go.Proofs.Ytlmlkcobkmhmbaa.Q
