/- ValueWhich: the law answers true, and its arguments read behind the call as they read before it, for every input that the row lets in. -/
import Derived.Test.YtblaibigjhlblaaDoorRows
import Derived.Test.YtblaibigjhlblaaDoorCards
import Derived.Test.YtblaibigjhlblaaDoorTie
import Derived.Test.YtblaibigjhlblaaDoorMValueWhichCard3
import Derived.Test.YtblaibigjhlblaaDoorMValueWhichCard5
import Derived.WalkKit
import Derived.ProofKit
import Derived.OpenShut
import Derived.ShutString
import Derived.ChangeOld
import Derived.Below
import Derived.SizedLaws
import Derived.Deep.DeepHandedRow
import Derived.SevenTiedAt
namespace Go.Proofs.YtblaibigjhlblaaDoor.valueWhich
open Go.ChangeShapes Go.WideShapes Go.ChangeAt Go.RowKit
open Go.ChangeMaps (open_string shut_string)
open Go.Proofs.YtblaibigjhlblaaDoorW.PrintWords Go.Proofs.YtblaibigjhlblaaDoorW.Hb Go.Proofs.YtblaibigjhlblaaDoorW.Ho Go.Proofs.YtblaibigjhlblaaDoor.Q Go.Proofs.YtblaibigjhlblaaDoor.OpValueWhich Go.Proofs.YtblaibigjhlblaaDoor.PuValueWhich
set_option linter.unusedVariables false
set_option linter.unusedSimpArgs false
theorem own : ownKnob Tryd.prog.godebug = none := by kernel_rfl
theorem laidOut : laidOutB Tryd.prog = true := by kernel_rfl
set_option maxRecDepth 100000 in
theorem reads (os : Os) {H : Type} (enc : TypeId × Value → H) : ∃ places, DataW.whole enc Tryd.prog ((Lw.world os #[] #[.slice none 0 0, .slice none 0 0, .int .i64 0, .string ByteArray.empty]).forCall (fun _ _ => 0) ⟨#[], #[.slice none 0 0, .slice none 0 0, .int .i64 0, .string ByteArray.empty], []⟩).memory Tryd.f5.params.toList Rows.valueWhichSpec.vars false (#[.slice none 0 0, .slice none 0 0, .int .i64 0, .string ByteArray.empty] : Array Value).toList 8 = some ([.nil, .nil, .lit (.int .i64 0), .lit (.string [])], [], places) :=
  ⟨[], by kernel_rfl⟩
set_option maxRecDepth 100000 in
theorem lifted (os : Os) (started : os.Started) (H : Type) (enc : TypeId × Value → H) (F : Stop.Interp) :
    ReturnsInHanded {} Tryd.checked os 5 .any ((OpenSpec.ofChange Rows.valueWhichSpec).preRow enc Tryd.prog Tryd.f5 Rows.valueWhichRow.domain false Rows.valueWhichRow.laid) (((OpenSpec.ofChange Rows.valueWhichSpec).at F).post enc Tryd.prog Tryd.f5 false true false false) := by
  obtain ⟨places, hx⟩ := reads os enc
  refine returnsInHanded_of_row (C := Tryd.checked) (s := (OpenSpec.ofChange Rows.valueWhichSpec)) own started (by kernel_rfl) Tryd.func5
    (witness_row_at (enc := enc) (C := Tryd.checked) false (Lw.world os #[] #[.slice none 0 0, .slice none 0 0, .int .i64 0, .string ByteArray.empty]) #[.slice none 0 0, .slice none 0 0, .int .i64 0, .string ByteArray.empty] rfl (by kernel_rfl) (by kernel_rfl) (by kernel_rfl)
      (OpenSpec.preRow_of_cond 8 hx (by kernel_rfl) (fun k hk => by cases hk) (by kernel_rfl) (Lw.met os #[.slice none 0 0, .slice none 0 0, .int .i64 0, .string ByteArray.empty]))) ?_
  intro W base args ds gs before hval0 hW _ hcond hsz0 hL hsh _
  have HVV : VarsOk W := Lw.varsOk hL hsh
  have hsz : (DataW.weightsEach Tryd.prog (Tryd.f5.params.toList ++ Rows.valueWhichSpec.plain.varTypes Tryd.prog) (ds ++ gs)).all (· ≤ reachBytes) = true := hsz0
  have hval : ∀ (j : Nat) t v, Tryd.f5.params[j]? = some t → args[j]? = some v → Value.okWide Tryd.prog W .any base t v := hval0
  have hW' := hW
  obtain ⟨p, q, hA0, hV, rfl, hfz, hnd⟩ := hW
  have hA : DataW.TrodAll enc Tryd.prog W 0 (fun _ => true) true Tryd.f5.params.toList args.toList ds p := hA0
  rw [Tryd.params5] at hA hval hsz
  obtain ⟨v0, vs0, d0, ds0, p0, q0, hargs, rfl, rfl, h0, r0⟩ := trodAll_cons hA
  obtain ⟨v1, vs1, d1, ds1, p1, q1, rfl, rfl, rfl, h1, r1⟩ := trodAll_cons r0
  obtain ⟨v2, vs2, d2, ds2, p2, q2, rfl, rfl, rfl, h2, r2⟩ := trodAll_cons r1
  obtain ⟨v3, vs3, d3, ds3, p3, q3, rfl, rfl, rfl, h3, r3⟩ := trodAll_cons r2
  obtain ⟨rfl, rfl, rfl⟩ := trodAll_nil r3
  obtain rfl : args = #[v0, v1, v2, v3] := by cases args; simp_all
  obtain ⟨rfl, rfl⟩ := trodVars_none hV
  have hs0 : ∀ n ∈ d0.weights Tryd.prog 22, n ≤ reachBytes := fun n hn => by have z := List.all_eq_true.1 hsz n (DataW.weights_mem_each (j := 0) rfl rfl n hn); simpa using z
  obtain ⟨a0, len0, cap0, rfl⟩ := okWide_slice Tryd.underlying22 (hval 0 22 v0 rfl rfl)
  have k0 := h0
  have lt0 : ∀ x ∈ p0, x.block < W.heap.size := by obtain ⟨m, hm⟩ := k0; exact DataW.trod_lt m _ _ _ hm
  obtain ⟨fuel0, hf0⟩ := h0
  obtain ⟨x0, K0, q0_⟩ := (opens_slice' Tryd.underlying22 (by kernel_rfl) (by kernel_rfl) open_S37) enc W 0 _ _ _ _ _ hf0 hs0
  obtain ⟨A0, c0, e0, le0, C0⟩ := K0
  replace e0 : ([.slice a0 len0 cap0] : List Value) = [.slice A0 x0.length c0] := e0
  injection e0 with e0 _
  injection e0 with ea0 el0 ec0
  subst ea0 el0 ec0
  have hs1 : ∀ n ∈ d1.weights Tryd.prog 35, n ≤ reachBytes := fun n hn => by have z := List.all_eq_true.1 hsz n (DataW.weights_mem_each (j := 1) rfl rfl n hn); simpa using z
  obtain ⟨a1, len1, cap1, rfl⟩ := okWide_slice Tryd.underlying35 (hval 1 35 v1 rfl rfl)
  have k1 := h1
  have lt1 : ∀ x ∈ p1, x.block < W.heap.size := by obtain ⟨m, hm⟩ := k1; exact DataW.trod_lt m _ _ _ hm
  obtain ⟨fuel1, hf1⟩ := h1
  obtain ⟨x1, K1, q1_⟩ := (opens_slice' Tryd.underlying35 (by kernel_rfl) (by kernel_rfl) (opens_int Tryd.underlying3)) enc W 0 _ _ _ _ _ hf1 hs1
  obtain ⟨A1, c1, e1, le1, C1⟩ := K1
  replace e1 : ([.slice a1 len1 cap1] : List Value) = [.slice A1 x1.length c1] := e1
  injection e1 with e1 _
  injection e1 with ea1 el1 ec1
  subst ea1 el1 ec1
  have hs2 : ∀ n ∈ d2.weights Tryd.prog 3, n ≤ reachBytes := fun n hn => by have z := List.all_eq_true.1 hsz n (DataW.weights_mem_each (j := 2) rfl rfl n hn); simpa using z
  obtain ⟨x2, rfl, rfl, rfl, w2⟩ := open_int Tryd.underlying3 (hval 2 3 v2 rfl rfl) h2
  have hs3 : ∀ n ∈ d3.weights Tryd.prog 9, n ≤ reachBytes := fun n hn => by have z := List.all_eq_true.1 hsz n (DataW.weights_mem_each (j := 3) rfl rfl n hn); simpa using z
  obtain ⟨x3, rfl, rfl, rfl, y3⟩ := open_string Tryd.underlying9 (hval 3 9 v3 rfl rfl) h3
  have w3 : x3.size ≤ reachBytes := by have z := hs3 x3.data.toList.length (by simp [DataW.weights]); rwa [Array.length_toList] at z
  obtain ⟨k, hk⟩ := pure x0 x1 x2 x3 q0_ q1_ w2 w3
  refine (weighhouselaw02_ValueWhich.calls k a0 cap0 x0 a1 cap1 x1 x2 x3 true W C0 le0 C1 le1 hk HVV).mono ?_
  rintro e W' ⟨rfl, bel⟩
  exact ⟨_, rfl, _, _, _, [], _, [], hW', trodAll_mk1 (shut_bool Tryd.underlying4 _), (trodAll_cons_mk (Below.trod laidOut (by kernel_rfl) (of_decide_eq_true (by kernel_rfl)) k0 bel lt0) (trodAll_cons_mk (Below.trod laidOut (by kernel_rfl) (of_decide_eq_true (by kernel_rfl)) k1 bel lt1) (trodAll_cons_mk (shut_int Tryd.underlying3 w2) (trodAll_cons_mk (shut_string Tryd.underlying9 y3) trodAll_mk0)))), rfl, bel.frame _, fun h => by cases h⟩
theorem over : Rows.ValueWhichSaid :=
  OpenClaim.holds_of_cond 5 Tryd.f5 rfl rfl rfl rfl rfl rfl rfl ⟨rfl, rfl, rfl, rfl, rfl⟩ rfl rfl rfl rfl rfl (by kernel_rfl) Tryd.func5 (by kernel_rfl)
    (of_decide_eq_true (by kernel_rfl)) (by unfold Func.isWrapper; first | (rw [if_pos (by decide +kernel)]; kernel_rfl) | (rw [if_neg (by decide +kernel)]; exact ⟨rfl, rfl⟩))
    (fun os started H enc _ F => by rw [OpenClaim.pre_eq_preRow]; exact lifted os started H enc F)
theorem plain (f : FuncId) (fn : Func) (hf : Tryd.pinned.checked.prog.funcNamed "weighhouse/weighhouselaw02.ValueWhich" = some f) (hfn : Tryd.pinned.checked.prog.funcs[f]? = some fn) :
    true = Tryd.pinned.checked.prog.looks [] ∧ ∀ (j : Nat) t, fn.params[j]? = some t → Tryd.pinned.checked.prog.wantsStandIn t = false := by
  obtain rfl : f = 5 := Option.some.inj ((show Tryd.prog.funcNamed "weighhouse/weighhouselaw02.ValueWhich" = some 5 by kernel_rfl).symm.trans hf) |>.symm
  obtain rfl : fn = Tryd.f5 := (Option.some.inj (Tryd.func5.symm.trans hfn)).symm
  refine ⟨by kernel_rfl, fun j t ht => ?_⟩
  have hall : Tryd.f5.params.all (fun t => !Tryd.prog.wantsStandIn t) = true := by kernel_rfl
  have h1 := Array.all_eq_true'.1 hall t (Array.mem_of_getElem? ht)
  exact (show Tryd.prog.wantsStandIn t = false by simpa using h1)
theorem proved : Rows.ValueWhichCardSaid :=
  Claim7.holds_tied_plain_at .later [] _ _ _ _ over (fun _ h => by cases h) (by kernel_rfl) (fun _ h => by cases h) valueWhich_row_tie rfl ⟨rfl, rfl⟩ (by kernel_rfl) rfl plain (by kernel_rfl)
#print axioms proved
end Go.Proofs.YtblaibigjhlblaaDoor.valueWhich
namespace Go.Proofs.YtblaibigjhlblaaDoor
/-- The row, under a short name, for the claim. -/
theorem valueWhich_holds : Rows.ValueWhichCardSaid := valueWhich.proved
end Go.Proofs.YtblaibigjhlblaaDoor
