/- WireFrames: the law answers true, and its arguments read behind the call as they read before it, for every input that the row lets in. -/
import Derived.Test.YtjkimfjhfncldaaRows
import Derived.Test.YtjkimfjhfncldaaMWireFrames4
import Derived.WalkKit
import Derived.ProofKit
import Derived.OpenShut
import Derived.ShutString
import Derived.ChangeOld
import Derived.Below
import Derived.SizedLaws
import Derived.JoinedCond
import Derived.Deep.CondSized
namespace Go.Proofs.Ytjkimfjhfncldaa.wireFrames
open Go.ChangeShapes Go.WideShapes Go.ChangeAt Go.RowKit
open Go.ChangeMaps (open_string shut_string)
open Go.Proofs.YtjkimfjhfncldaaW.PrintWords Go.Proofs.YtjkimfjhfncldaaW.Hb Go.Proofs.YtjkimfjhfncldaaW.Ho Go.Proofs.YtjkimfjhfncldaaW.Hu Go.Proofs.Ytjkimfjhfncldaa.Q Go.Proofs.Ytjkimfjhfncldaa.OpWireFrames Go.Proofs.Ytjkimfjhfncldaa.PuWireFrames
set_option linter.unusedVariables false
set_option linter.unusedSimpArgs false
theorem own : ownKnob Try.prog.godebug = none := by kernel_rfl
theorem laidOut : laidOutB Try.prog = true := by kernel_rfl
set_option maxRecDepth 100000 in
theorem lifted (os : Os) (started : os.Started) (H : Type) (enc : TypeId × Value → H) (F : Stop.Interp) :
    ReturnsInHanded {} Try.checked os 4 .any ((Rows.OpenSpec.upto Rows.wireFramesSpec).pre6 enc Try.prog Try.f4 Rows.wireFramesUptoRow.domain false) (((Rows.OpenSpec.upto Rows.wireFramesSpec).at F).post enc Try.prog Try.f4 false true false false) := by
  refine returnsInHanded_of_cond_sized (C := Try.checked) (s := (Rows.OpenSpec.upto Rows.wireFramesSpec)) (k := Rows.uptoSmall) rfl own started (by kernel_rfl) Try.func4
    (OpenSpec.witness (enc := enc) (C := Try.checked) (s := (Rows.OpenSpec.upto Rows.wireFramesSpec)) (k := Rows.uptoSmall) rfl false ⟨#[], #[.slice none 0 0], []⟩ 8 (by kernel_rfl) (by kernel_rfl) (by kernel_rfl) (x := ([.nil], [], [])) (by kernel_rfl) rfl (by kernel_rfl)) ?_
  intro W base args ds gs before hval0 hW hcnd hku hsz0 _
  have hsz : (DataW.weightsEach Try.prog (Try.f4.params.toList ++ Rows.wireFramesSpec.plain.varTypes Try.prog) (ds ++ gs)).all (· ≤ reachBytes) = true := hsz0
  have hval : ∀ (j : Nat) t v, Try.f4.params[j]? = some t → args[j]? = some v → Value.okWide Try.prog W .any base t v := hval0
  have hW' := hW
  obtain ⟨p, q, hA0, hV, rfl, hfz, hnd⟩ := hW
  have hA : DataW.TrodAll enc Try.prog W 0 (fun _ => true) true Try.f4.params.toList args.toList ds p := hA0
  rw [Try.params4] at hA hval hsz
  obtain ⟨v0, vs0, d0, ds0, p0, q0, hargs, rfl, rfl, h0, r0⟩ := trodAll_cons hA
  obtain ⟨rfl, rfl, rfl⟩ := trodAll_nil r0
  obtain rfl : args = #[v0] := by cases args; simp_all
  obtain ⟨rfl, rfl⟩ := trodVars_none hV
  have hs0 : ∀ n ∈ d0.weights Try.prog 22, n ≤ reachBytes := fun n hn => by have z := List.all_eq_true.1 hsz n (DataW.weights_mem_each (j := 0) rfl rfl n hn); simpa using z
  obtain ⟨a0, len0, cap0, rfl⟩ := okWide_slice Try.underlying22 (hval 0 22 v0 rfl rfl)
  have k0 := h0
  have lt0 : ∀ x ∈ p0, x.block < W.heap.size := by obtain ⟨m, hm⟩ := k0; exact DataW.trod_lt m _ _ _ hm
  obtain ⟨fuel0, hf0⟩ := h0
  obtain ⟨x0, K0, q0_, b0_⟩ := (opensU_slice Try.underlying22 (by kernel_rfl) (by kernel_rfl) (opensU_int Try.underlying5)) enc W 0 _ _ _ _ _ hf0 hs0
  obtain ⟨A0, c0, e0, le0, C0⟩ := K0
  replace e0 : ([.slice a0 len0 cap0] : List Value) = [.slice A0 x0.length c0] := e0
  injection e0 with e0 _
  injection e0 with ea0 el0 ec0
  subst ea0 el0 ec0
  have hku2 : Rows.uptoBulkAll _ ≤ 1048576 := of_decide_eq_true hku
  simp only [List.cons_append, List.nil_append, List.append_nil, Rows.uptoBulkAll, Rows.uptoBulk, Array.length_toList] at hku2
  dsimp only at b0_
  have hbulk : (((x0).map (fun z => 1)).sum + 1) ≤ 1048576 := by first | omega | (simp only [ByteArray.size] at *; omega)
  obtain ⟨k, hk⟩ := pure x0 q0_ hbulk
  refine (weighhouselaw01_WireFrames.calls k a0 cap0 x0 true W C0 le0 hk).mono ?_
  rintro e W' ⟨rfl, bel⟩
  exact ⟨_, rfl, _, _, _, [], _, [], hW', trodAll_mk1 (shut_bool Try.underlying4 _), (trodAll_cons_mk (Below.trod laidOut (by kernel_rfl) (of_decide_eq_true (by kernel_rfl)) k0 bel lt0) trodAll_mk0), rfl, bel.frame _, fun h => by cases h⟩
theorem over : Rows.wireFramesUptoRow.holds Try.pinned (Rows.OpenSpec.upto Rows.wireFramesSpec) :=
  OpenClaim.holds_of_cond 4 Try.f4 rfl rfl rfl rfl rfl rfl rfl ⟨rfl, rfl, rfl, rfl, rfl⟩ rfl rfl rfl rfl rfl (by kernel_rfl) Try.func4 (by kernel_rfl)
    (of_decide_eq_true (by kernel_rfl)) (by unfold Func.isWrapper; first | (rw [if_pos (by decide +kernel)]; kernel_rfl) | (rw [if_neg (by decide +kernel)]; exact ⟨rfl, rfl⟩))
    (fun os started H enc _ F => lifted os started H enc F)
theorem proved : Rows.WireFramesUptoSaid := over
#print axioms proved
end Go.Proofs.Ytjkimfjhfncldaa.wireFrames
namespace Go.Proofs.Ytjkimfjhfncldaa
/-- The row, under a short name, for the claim. -/
theorem wireFrames_holds : Rows.WireFramesUptoSaid := wireFrames.proved
end Go.Proofs.Ytjkimfjhfncldaa
