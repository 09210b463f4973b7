-- written by hprint.py (a program of these sessions) out of the translation; Lean checks it
import Derived.Test.YtjkimfjhfncldaaQ0
namespace Go.Proofs.Ytjkimfjhfncldaa.Q
open Go.RowKit Go.Proofs.YtjkimfjhfncldaaW.Hb Go.Proofs.YtjkimfjhfncldaaW.PrintWords Go.Proofs.YtjkimfjhfncldaaW.PrintLast Go.Proofs.YtjkimfjhfncldaaW.PrintMore
attribute [local go_sem] max2_int min2_int max_two min_two max_three min_three max_four min_four   -- for this text's walks alone
set_option linter.unusedVariables false
set_option linter.unusedSimpArgs false

/-! ### wire_Writer_none: function 51, by hand -/
set_option maxRecDepth 100000 in
theorem wire_Writer_none.calls (g : Nat) (v : Value) (mb : Bool) (w : World) (hb : Blk w g 70 #[v, .bool mb]) : Calls Try.prog 51 #[.pointer (some ⟨g, 0, none⟩)] w fun e w' => e = .returned (.bool (!mb)) ∧ w' = w := by
  have h1 : w.cell? ⟨g, 1, none⟩ = some (.bool mb) := hb.cell 1
  clear hb
  cases mb <;> (go_enter Try.func51, Try.ntmps51; go_wp2; go_ret; exact ⟨rfl, rfl⟩)


end Go.Proofs.Ytjkimfjhfncldaa.Q
