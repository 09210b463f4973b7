-- written by hprint.py (a program of these sessions) out of the translation; Lean checks it
import Derived.Test.YtlmlkcobkmhmbaaQ0
namespace Go.Proofs.Ytlmlkcobkmhmbaa.Q
open Go.RowKit Go.Proofs.YtlmlkcobkmhmbaaW.Hb Go.Proofs.YtlmlkcobkmhmbaaW.PrintWords Go.Proofs.YtlmlkcobkmhmbaaW.PrintLast Go.Proofs.YtlmlkcobkmhmbaaW.PrintMore
attribute [local go_sem] max2_int min2_int max_two min_two max_three min_three max_four min_four   -- for this text's walks alone
set_option linter.unusedVariables false
set_option linter.unusedSimpArgs false

/-! ### message_Entry_56: function 56, by hand -/
set_option maxHeartbeats 400000 in
theorem message_Entry_56.calls (n : Nat) (w : World) (hn : n * 24 ≤ 140737488355328) :
    Calls Try.prog 56 #[.slice none 0 0, .int .i64 n] w (OwnRes k74 74 w []) := by
  rcases Nat.eq_zero_or_pos n with h0 | h0
  · subst h0
    go_enter Try.func56, Try.ntmps56
    go_wp2
    go_ret
    exact ⟨_, rfl, Kd.R_nil _ _ _ _ _, Below.refl _ _⟩
  · go_enter Try.func56, Try.ntmps56
    have hn1 : ¬ (n : Int) < 0 := by omega
    have hn2 : 0 < (n : Int) := by omega
    go_wp2_with ((with_reducible refine gate_builtin (b := .append) (xs := #[.tmp 20, .tmp 21]) rfl ?_); at_builtin; refine Kd.R_append_zeros k74 (w0 := w) w.heap.size rfl (.tmp 20) (.tmp 21) 23 3 74 (.agg #[(.int .i64 0), (.string ⟨#[]⟩)]) 24 rfl Try.underlying23 Try.underlying3 info74 rfl (by decide) (by omega) (.slice none 0 0) [] z74 (n : Int) (fun _ => True) rfl rfl (k74_mkM _ _ _ z74) (fun _ _ => trivial) (Kd.R_nil _ _ _ _ _) (by omega) (Below.refl _ _) (Nat.le_refl _) ?aL ?_)
    intro v1 w1 hR hB _ _
    obtain ⟨A, c, rfl⟩ := Kd.R_slice hR
    have HR := Aside0.mk (Kd.R_take hR (Nat.zero_le _))
    have HB := Aside0.mk hB
    clear hR hB
    go_wp2
    go_ret
    exact ⟨_, rfl, HR.out, HB.out⟩


end Go.Proofs.Ytlmlkcobkmhmbaa.Q
