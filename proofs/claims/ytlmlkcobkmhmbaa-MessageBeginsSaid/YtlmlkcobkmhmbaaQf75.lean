-- written by hprint.py (a program of these sessions) out of the translation; Lean checks it
import Derived.Test.YtlmlkcobkmhmbaaQ0
import Derived.Test.YtlmlkcobkmhmbaaQf74
import Derived.Test.YtlmlkcobkmhmbaaQf51
namespace Go.Proofs.Ytlmlkcobkmhmbaa.Q
open Go.RowKit Go.Proofs.YtlmlkcobkmhmbaaW.Hb Go.Proofs.YtlmlkcobkmhmbaaW.PrintWords Go.Proofs.YtlmlkcobkmhmbaaW.PrintLast Go.Proofs.YtlmlkcobkmhmbaaW.PrintMore
attribute [local go_sem] max2_int min2_int max_two min_two max_three min_three max_four min_four   -- for this text's walks alone
set_option linter.unusedVariables false
set_option linter.unusedSimpArgs false

/-! ### message_entries_lit1_75: function 75, by hand -/
def outE (x : S74) : Bool := outR x.f0 || decide (16384 < (x.f1.size : Int))
set_option maxHeartbeats 400000 in
theorem message_entries_lit1_75.calls (x : S74) (w : World) :
    Calls Try.prog 75 #[.agg #[.int .i64 x.f0, .string x.f1]] w fun e w' => e = .returned (.bool (outE x)) ∧ Below w.heap.size w w' := by
  obtain ⟨v, s⟩ := x
  have hs : outE ⟨v, s⟩ = (outR v || decide (16384 < (s.size : Int))) := rfl
  have HN := C_lit_int (w.alloc (.cells #[.int .i64 v, .string s] 74)) (w.heap.size + 1) (by simp) .i64 [v] #[.int .i64 v] rfl 3 (by simp)
  have HC0 := (Blk.new w 74 #[.int .i64 v, .string s]).cell 0
  have HC1 := (Blk.new w 74 #[.int .i64 v, .string s]).cell 1
  cases h1 : outR v with
  | true =>
    have HS := Aside0.mk (show outE ⟨v, s⟩ = true by rw [hs, h1]; rfl)
    have HF := Aside0.mk (show message_numbers.f [v] = some false by simp [message_numbers.f, h1])
    clear hs h1
    go_enter Try.func75, Try.ntmps75
    go_wp2_with (go_at_call 51; (with_reducible refine (message_numbers.callsN _ 1 1 [v] rfl false _ HN (Nat.le_refl 1) HF.out).mono ?_); rintro e w' ⟨rfl, hb⟩)
    go_ret
    rw [HS.out]
    exact ⟨rfl, (((Below.refl _ _).alloc (Nat.le_refl _) _).alloc (by simp) _).trans (hb.mono (by simp; omega))⟩
  | false =>
    have HS := Aside0.mk (show outE ⟨v, s⟩ = decide (16384 < (s.size : Int)) by rw [hs, h1]; rfl)
    have HF := Aside0.mk (show message_numbers.f [v] = some true by simp [message_numbers.f, h1])
    clear hs h1
    go_enter Try.func75, Try.ntmps75
    go_wp2_with (go_at_call 51; (with_reducible refine (message_numbers.callsN _ 1 1 [v] rfl true _ HN (Nat.le_refl 1) HF.out).mono ?_); rintro e w' ⟨rfl, hb⟩; have hc1 := pw_cell_below hb (cell_allocd HC1 (.cells #[.int .i64 v] 3)))
    go_ret
    rw [HS.out]
    exact ⟨rfl, (((Below.refl _ _).alloc (Nat.le_refl _) _).alloc (by simp) _).trans (hb.mono (by simp; omega))⟩


end Go.Proofs.Ytlmlkcobkmhmbaa.Q
