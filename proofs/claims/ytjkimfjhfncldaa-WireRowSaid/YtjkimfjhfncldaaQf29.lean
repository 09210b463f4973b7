-- written by hprint.py (a program of these sessions) out of the translation; Lean checks it
import Derived.Test.YtjkimfjhfncldaaQ0
import Derived.Test.YtjkimfjhfncldaaQf22
import Derived.Test.YtjkimfjhfncldaaQf51
import Derived.Test.YtjkimfjhfncldaaQf48
namespace Go.Proofs.Ytjkimfjhfncldaa.Q
open Go.RowKit Go.Proofs.YtjkimfjhfncldaaW.Hb Go.Proofs.YtjkimfjhfncldaaW.PrintWords Go.Proofs.YtjkimfjhfncldaaW.PrintLast Go.Proofs.YtjkimfjhfncldaaW.PrintMore
attribute [local go_sem] max2_int min2_int max_two min_two max_three min_three max_four min_four   -- for this text's walks alone
set_option linter.unusedVariables false
set_option linter.unusedSimpArgs false

/-! ### wire_Writer_Bytes: function 29, by hand -/
set_option maxRecDepth 100000 in
set_option maxHeartbeats 1000000 in
theorem wire_Writer_Bytes.calls (S : Nat → Prop) (g : Nat) (l : List Int) (w : World) (hW : Wr w S g l) (hl : l.length ≤ 1048576) :
    Calls Try.prog 29 #[.pointer (some ⟨g, 0, none⟩)] w (OwnRes (Kd.int .u8) 5 w l) := by
  obtain ⟨v, hb, hS, hR⟩ := hW
  obtain ⟨Av, cv, rfl, hcv, hC⟩ := Kd.R_reads hR
  have HB := Aside0.mk hb
  have h0 : w.cell? ⟨g, 0, none⟩ = some (.slice Av l.length cv) := hb.cell 0
  have HC := Aside0.mk (slices_Clone_byte_byte.walk Av l.length cv l w rfl hC hcv (by omega))
  clear hb hR hC
  go_enter Try.func29, Try.ntmps29
  go_wp2_with (first | (go_at_call 51; (with_reducible refine (wire_Writer_none.calls g _ true _ HB.out).mono ?_); rintro e2 w2 ⟨rfl, hw2⟩; subst w2) | (go_at_call 48; (with_reducible refine HC.out.mono ?_); rintro e2 w2 ⟨v2, rfl, hR2, hB2⟩; have HR2 := Aside0.mk hR2; have HB2 := Aside0.mk hB2; clear hR2 hB2))
  go_ret
  exact ⟨_, rfl, HR2.out, HB2.out⟩


end Go.Proofs.Ytjkimfjhfncldaa.Q
