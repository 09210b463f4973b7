/- MessageBack: the law answers true, and its arguments read behind the call as they read before it, for every input that the row lets in. -/
import Derived.Test.YtlmlkcobkmhmbaaRows
import Derived.Test.YtlmlkcobkmhmbaaMMessageBack5
import Derived.WalkKit
import Derived.ProofKit
import Derived.OpenShut
import Derived.ShutString
import Derived.ChangeOld
import Derived.Below
import Derived.SizedLaws
namespace Go.Proofs.Ytlmlkcobkmhmbaa.messageBack
open Go.ChangeShapes Go.WideShapes Go.ChangeAt Go.RowKit
open Go.ChangeMaps (open_string shut_string)
open Go.Proofs.YtlmlkcobkmhmbaaW.PrintWords Go.Proofs.YtlmlkcobkmhmbaaW.Hb Go.Proofs.YtlmlkcobkmhmbaaW.Ho Go.Proofs.Ytlmlkcobkmhmbaa.Q Go.Proofs.Ytlmlkcobkmhmbaa.OpMessageBack Go.Proofs.Ytlmlkcobkmhmbaa.PuMessageBack
set_option linter.unusedVariables false
set_option linter.unusedSimpArgs false
theorem own : ownKnob Try.prog.godebug = none := by kernel_rfl
theorem laidOut : laidOutB Try.prog = true := by kernel_rfl
set_option maxRecDepth 100000 in
theorem lifted (os : Os) (started : os.Started) (H : Type) (enc : TypeId × Value → H) :
    ReturnsInHanded {} Try.checked os 7 .any (Rows.messageBackSpec.pre6 enc Try.prog Try.f7 Rows.messageBackRow.domain false) (Rows.messageBackSpec.post enc Try.prog Try.f7 false true false false) := by
  refine returnsInHanded_of_change_sized (C := Try.checked) own started (by kernel_rfl) Try.func7
    (ChangeSpec.witness6 (enc := enc) (C := Try.checked) false ⟨#[], #[.agg #[.int .i64 0, .int .i64 0, .int .i64 0, .int .i64 0, .int .i64 0, .int .i64 0, .int .i64 0, .slice none 0 0], .agg #[.int .i64 0, .int .i64 0, .int .i64 0, .int .i64 0, .slice none 0 0], .int .u8 0], []⟩ 8 (by kernel_rfl) (by kernel_rfl) (by kernel_rfl) (by kernel_rfl)) ?_
  intro W base args ds gs before hval0 hW hcnd hsz0 _
  have hsz : (DataW.weightsEach Try.prog (Try.f7.params.toList ++ Rows.messageBackSpec.plain.varTypes Try.prog) (ds ++ gs)).all (· ≤ reachBytes) = true := hsz0
  have hval : ∀ (j : Nat) t v, Try.f7.params[j]? = some t → args[j]? = some v → Value.okWide Try.prog W .any base t v := hval0
  have hW' := hW
  obtain ⟨p, q, hA0, hV, rfl, hfz, hnd⟩ := hW
  have hA : DataW.TrodAll enc Try.prog W 0 (fun _ => true) true Try.f7.params.toList args.toList ds p := hA0
  rw [Try.params7] at hA hval hsz
  obtain ⟨v0, vs0, d0, ds0, p0, q0, hargs, rfl, rfl, h0, r0⟩ := trodAll_cons hA
  obtain ⟨v1, vs1, d1, ds1, p1, q1, rfl, rfl, rfl, h1, r1⟩ := trodAll_cons r0
  obtain ⟨v2, vs2, d2, ds2, p2, q2, rfl, rfl, rfl, h2, r2⟩ := trodAll_cons r1
  obtain ⟨rfl, rfl, rfl⟩ := trodAll_nil r2
  obtain rfl : args = #[v0, v1, v2] := by cases args; simp_all
  obtain ⟨rfl, rfl⟩ := trodVars_none hV
  have hs0 : ∀ n ∈ d0.weights Try.prog 34, n ≤ reachBytes := fun n hn => by have z := List.all_eq_true.1 hsz n (DataW.weights_mem_each (j := 0) rfl rfl n hn); simpa using z
  obtain ⟨cs0, rfl, hz0⟩ := okWide_struct Try.underlying34 (hval 0 34 v0 rfl rfl)
  rw [show Try.prog.cellsOf 34 = 8 from by kernel_rfl] at hz0
  have k0 := h0
  have lt0 : ∀ x ∈ p0, x.block < W.heap.size := by obtain ⟨m, hm⟩ := k0; exact DataW.trod_lt m _ _ _ hm
  obtain ⟨fuel0, hf0⟩ := h0
  obtain ⟨x0, K0, q0_⟩ := open_S34 enc W 0 _ _ _ _ _ hf0 hs0
  obtain ⟨A0_7, c0_7, e0, l0_7, g0_7⟩ := k34_open K0
  replace e0 : cs0.toList = _ := e0
  obtain rfl : cs0 = #[.int .i64 (x0.f0), .int .i64 (x0.f1), .int .i64 (x0.f2), .int .i64 (x0.f3), .int .i64 (x0.f4), .int .i64 (x0.f5), .int .i64 (x0.f6), .slice A0_7 (x0.f7).length c0_7] := Array.ext' e0
  have hs1 : ∀ n ∈ d1.weights Try.prog 46, n ≤ reachBytes := fun n hn => by have z := List.all_eq_true.1 hsz n (DataW.weights_mem_each (j := 1) rfl rfl n hn); simpa using z
  obtain ⟨cs1, rfl, hz1⟩ := okWide_struct Try.underlying46 (hval 1 46 v1 rfl rfl)
  rw [show Try.prog.cellsOf 46 = 5 from by kernel_rfl] at hz1
  have k1 := h1
  have lt1 : ∀ x ∈ p1, x.block < W.heap.size := by obtain ⟨m, hm⟩ := k1; exact DataW.trod_lt m _ _ _ hm
  obtain ⟨fuel1, hf1⟩ := h1
  obtain ⟨x1, K1, q1_⟩ := open_S46 enc W 0 _ _ _ _ _ hf1 hs1
  obtain ⟨A1_4, c1_4, e1, l1_4, g1_4⟩ := k46_open K1
  replace e1 : cs1.toList = _ := e1
  obtain rfl : cs1 = #[.int .i64 (x1.f0), .int .i64 (x1.f1), .int .i64 (x1.f2), .int .i64 (x1.f3), .slice A1_4 (x1.f4).length c1_4] := Array.ext' e1
  have hs2 : ∀ n ∈ d2.weights Try.prog 5, n ≤ reachBytes := fun n hn => by have z := List.all_eq_true.1 hsz n (DataW.weights_mem_each (j := 2) rfl rfl n hn); simpa using z
  obtain ⟨x2, rfl, rfl, rfl, w2⟩ := open_int Try.underlying5 (hval 2 5 v2 rfl rfl) h2
  obtain ⟨k, hk⟩ := pure x0 x1 x2 q0_ q1_ w2
  refine (weighhouselaw17_MessageBack.calls k (x0.f0) (x0.f1) (x0.f2) (x0.f3) (x0.f4) (x0.f5) (x0.f6) A0_7 c0_7 (x0.f7) (x1.f0) (x1.f1) (x1.f2) (x1.f3) A1_4 c1_4 (x1.f4) x2 true W g0_7 l0_7 g1_4 l1_4 hk).mono ?_
  rintro e W' ⟨rfl, bel⟩
  exact ⟨_, rfl, _, _, _, [], _, [], hW', trodAll_mk1 (shut_bool Try.underlying4 _), (trodAll_cons_mk (Below.trod laidOut (by kernel_rfl) (of_decide_eq_true (by kernel_rfl)) k0 bel lt0) (trodAll_cons_mk (Below.trod laidOut (by kernel_rfl) (of_decide_eq_true (by kernel_rfl)) k1 bel lt1) (trodAll_cons_mk (shut_int Try.underlying5 w2) trodAll_mk0))), rfl, bel.frame _, fun h => by cases h⟩
theorem over : Rows.messageBackRow.holds Try.pinned (OpenSpec.ofChange Rows.messageBackSpec) :=
  OpenClaim.holds_of_wide 7 Try.f7 rfl rfl rfl rfl rfl rfl rfl ⟨rfl, rfl, rfl, rfl, rfl⟩ rfl rfl rfl rfl rfl (by kernel_rfl) Try.func7 (by kernel_rfl)
    (of_decide_eq_true (by kernel_rfl)) (by unfold Func.isWrapper; first | (rw [if_pos (by decide +kernel)]; kernel_rfl) | (rw [if_neg (by decide +kernel)]; exact ⟨rfl, rfl⟩))
    (fun os started H enc _ => lifted os started H enc)
theorem proved : Rows.MessageBackSaid := over
#print axioms proved
end Go.Proofs.Ytlmlkcobkmhmbaa.messageBack
namespace Go.Proofs.Ytlmlkcobkmhmbaa
/-- The row, under a short name, for the claim. -/
theorem messageBack_holds : Rows.MessageBackSaid := messageBack.proved
end Go.Proofs.Ytlmlkcobkmhmbaa
