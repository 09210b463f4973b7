/- texts of one claim, merged: each in a section of its own -/
import Derived.Test.YtblaibigjhlblaaGreatDoorMValueBytesCard3
import Derived.Test.YtblaibigjhlblaaGreatDoorMValueBytesCard4
import Derived.Test.YtblaibigjhlblaaGreatDoorMValueBytesCard5
import Derived.Lib.ItoaLen
import Derived.Lib.AtoiAllCases
import Derived.Lib.Join
section
-- written by hprint.py (a program of these sessions) out of the translation; Lean checks it
namespace Go.Proofs.YtblaibigjhlblaaGreatDoor.Q
open Go.RowKit Go.Proofs.YtblaibigjhlblaaGreatDoorW.Hb Go.Proofs.YtblaibigjhlblaaGreatDoorW.PrintWords Go.Proofs.YtblaibigjhlblaaGreatDoorW.PrintLast Go.Proofs.YtblaibigjhlblaaGreatDoorW.PrintMore
attribute [local go_sem] max2_int min2_int max_two min_two max_three min_three max_four min_four   -- for this text's walks alone
set_option linter.unusedVariables false
set_option linter.unusedSimpArgs false

/-! ### weighhouselaw02_knows: function 14 -/
def weighhouselaw02_knows.f (k : Nat)  : Option (Bool) := (value_Number.f (-5)).bind fun bt232 => ((value_Text.f (⟨#[97]⟩ : ByteArray)).bind fun bt235 => ((value_Truth.f true).bind fun bt238 => ((value_Print.f k (([(⟨bt232.1, bt232.2.1, bt232.2.2⟩ : S47), (⟨bt235.1, bt235.2.1, bt235.2.2⟩ : S47), (⟨bt238.1, bt238.2.1, bt238.2.2⟩ : S47)] : List (S47)))).bind fun t244 => ((value_Parse.f t244).bind fun bt245 => (if t244.toList = ([45, 53, 32, 120, 39, 54, 49, 39, 32, 116, 114, 117, 101] : List UInt8) then ((weighhouselaw02_num.f bt245.2).bind fun t249 => (if t249 = 0 then (if (bt245.1.length : Int) = 3 then (if 0 < (bt245.1.length : Int) then ((value_Right.f ((rd_T47 bt245.1 0).f0) ((rd_T47 bt245.1 0).f1) ((rd_T47 bt245.1 0).f2)).bind fun t251 => (some t251)) else (none)) else (some false)) else (some false))) else (some false))))))
theorem weighhouselaw02_knows.mono : ∀ k, LeO (weighhouselaw02_knows.f k ) (weighhouselaw02_knows.f (k + 1) ) := by
  intro  k
  unfold weighhouselaw02_knows.f
  repeat' first
      | (with_reducible exact value_Print.mono _ _)
      | (with_reducible exact LeO.refl _)
      | (with_reducible exact LeO.none _)
      | (with_reducible refine LeO.ite ?_ ?_)
      | (with_reducible refine LeO.bind ?_ (fun _ => ?_))
      | exact value_Print.mono _ _
      | exact LeO.none _
      | refine LeO.ite ?_ ?_
      | refine LeO.bind ?_ (fun _ => ?_)
set_option maxHeartbeats 8000000 in
set_option maxRecDepth 100000 in
theorem weighhouselaw02_knows.calls (k : Nat)  (r : Bool) (w : World) (h : weighhouselaw02_knows.f k  = some r) (hV : VarsOk w) :
    Calls Tryz.prog 14 #[] w fun e w' => e = .returned (.bool r) ∧ Below w.heap.size w w' := by
  have hu47 := Tryz.underlying47
  have HB := Aside0.mk (Below.refl w.heap.size w)
  have HV := Aside0.mk hV
  clear hV
  have H : ((value_Number.f (-5)).bind fun bt232 => ((value_Text.f (⟨#[97]⟩ : ByteArray)).bind fun bt235 => ((value_Truth.f true).bind fun bt238 => ((value_Print.f k (([(⟨bt232.1, bt232.2.1, bt232.2.2⟩ : S47), (⟨bt235.1, bt235.2.1, bt235.2.2⟩ : S47), (⟨bt238.1, bt238.2.1, bt238.2.2⟩ : S47)] : List (S47)))).bind fun t244 => ((value_Parse.f t244).bind fun bt245 => (if t244.toList = ([45, 53, 32, 120, 39, 54, 49, 39, 32, 116, 114, 117, 101] : List UInt8) then ((weighhouselaw02_num.f bt245.2).bind fun t249 => (if t249 = 0 then (if (bt245.1.length : Int) = 3 then (if 0 < (bt245.1.length : Int) then ((value_Right.f ((rd_T47 bt245.1 0).f0) ((rd_T47 bt245.1 0).f1) ((rd_T47 bt245.1 0).f2)).bind fun t251 => (some t251)) else (none)) else (some false)) else (some false))) else (some false))))))) = some r := h
  clear h
  replace H := Option.bind_eq_some_iff.mp H
  obtain ⟨⟨t232, t233, t234⟩, A10, H⟩ := H
  replace H : ((value_Text.f (⟨#[97]⟩ : ByteArray)).bind fun bt235 => ((value_Truth.f true).bind fun bt238 => ((value_Print.f k (([(⟨t232, t233, t234⟩ : S47), (⟨bt235.1, bt235.2.1, bt235.2.2⟩ : S47), (⟨bt238.1, bt238.2.1, bt238.2.2⟩ : S47)] : List (S47)))).bind fun t244 => ((value_Parse.f t244).bind fun bt245 => (if t244.toList = ([45, 53, 32, 120, 39, 54, 49, 39, 32, 116, 114, 117, 101] : List UInt8) then ((weighhouselaw02_num.f bt245.2).bind fun t249 => (if t249 = 0 then (if (bt245.1.length : Int) = 3 then (if 0 < (bt245.1.length : Int) then ((value_Right.f ((rd_T47 bt245.1 0).f0) ((rd_T47 bt245.1 0).f1) ((rd_T47 bt245.1 0).f2)).bind fun t251 => (some t251)) else (none)) else (some false)) else (some false))) else (some false)))))) = some r := H
  have A1 := Aside0.mk A10
  clear A10
  replace H := Option.bind_eq_some_iff.mp H
  obtain ⟨⟨t235, t236, t237⟩, A20, H⟩ := H
  replace H : ((value_Truth.f true).bind fun bt238 => ((value_Print.f k (([(⟨t232, t233, t234⟩ : S47), (⟨t235, t236, t237⟩ : S47), (⟨bt238.1, bt238.2.1, bt238.2.2⟩ : S47)] : List (S47)))).bind fun t244 => ((value_Parse.f t244).bind fun bt245 => (if t244.toList = ([45, 53, 32, 120, 39, 54, 49, 39, 32, 116, 114, 117, 101] : List UInt8) then ((weighhouselaw02_num.f bt245.2).bind fun t249 => (if t249 = 0 then (if (bt245.1.length : Int) = 3 then (if 0 < (bt245.1.length : Int) then ((value_Right.f ((rd_T47 bt245.1 0).f0) ((rd_T47 bt245.1 0).f1) ((rd_T47 bt245.1 0).f2)).bind fun t251 => (some t251)) else (none)) else (some false)) else (some false))) else (some false))))) = some r := H
  have A2 := Aside0.mk A20
  clear A20
  replace H := Option.bind_eq_some_iff.mp H
  obtain ⟨⟨t238, t239, t240⟩, A30, H⟩ := H
  replace H : ((value_Print.f k (([(⟨t232, t233, t234⟩ : S47), (⟨t235, t236, t237⟩ : S47), (⟨t238, t239, t240⟩ : S47)] : List (S47)))).bind fun t244 => ((value_Parse.f t244).bind fun bt245 => (if t244.toList = ([45, 53, 32, 120, 39, 54, 49, 39, 32, 116, 114, 117, 101] : List UInt8) then ((weighhouselaw02_num.f bt245.2).bind fun t249 => (if t249 = 0 then (if (bt245.1.length : Int) = 3 then (if 0 < (bt245.1.length : Int) then ((value_Right.f ((rd_T47 bt245.1 0).f0) ((rd_T47 bt245.1 0).f1) ((rd_T47 bt245.1 0).f2)).bind fun t251 => (some t251)) else (none)) else (some false)) else (some false))) else (some false)))) = some r := H
  have A3 := Aside0.mk A30
  clear A30
  obtain ⟨y241, hy241⟩ : ∃ y_ : List (S47), y_ = (([(⟨t232, t233, t234⟩ : S47), (⟨t235, t236, t237⟩ : S47), (⟨t238, t239, t240⟩ : S47)] : List (S47))) := ⟨_, rfl⟩
  replace H : ((value_Print.f k y241).bind fun t244 => ((value_Parse.f t244).bind fun bt245 => (if t244.toList = ([45, 53, 32, 120, 39, 54, 49, 39, 32, 116, 114, 117, 101] : List UInt8) then ((weighhouselaw02_num.f bt245.2).bind fun t249 => (if t249 = 0 then (if (bt245.1.length : Int) = 3 then (if 0 < (bt245.1.length : Int) then ((value_Right.f ((rd_T47 bt245.1 0).f0) ((rd_T47 bt245.1 0).f1) ((rd_T47 bt245.1 0).f2)).bind fun t251 => (some t251)) else (none)) else (some false)) else (some false))) else (some false)))) = some r := by first | (rw [hy241]; with_reducible exact H) | (have H2_ := (Option.bind_some _ _).symm.trans H; rw [hy241]; with_reducible exact H2_) | (have H2_ := (Option.bind_some _ _).symm.trans H; with_reducible exact H2_) | with_reducible exact H | (rw [hy241]; exact H) | exact H
  have Ny241 := Aside0.mk hy241
  clear hy241
  replace H := Option.bind_eq_some_iff.mp H
  obtain ⟨t244, A40, H⟩ := H
  replace H : ((value_Parse.f t244).bind fun bt245 => (if t244.toList = ([45, 53, 32, 120, 39, 54, 49, 39, 32, 116, 114, 117, 101] : List UInt8) then ((weighhouselaw02_num.f bt245.2).bind fun t249 => (if t249 = 0 then (if (bt245.1.length : Int) = 3 then (if 0 < (bt245.1.length : Int) then ((value_Right.f ((rd_T47 bt245.1 0).f0) ((rd_T47 bt245.1 0).f1) ((rd_T47 bt245.1 0).f2)).bind fun t251 => (some t251)) else (none)) else (some false)) else (some false))) else (some false))) = some r := H
  have A4 := Aside0.mk A40
  clear A40
  replace H := Option.bind_eq_some_iff.mp H
  obtain ⟨⟨t245, t246⟩, A50, H⟩ := H
  replace H : (if t244.toList = ([45, 53, 32, 120, 39, 54, 49, 39, 32, 116, 114, 117, 101] : List UInt8) then ((weighhouselaw02_num.f t246).bind fun t249 => (if t249 = 0 then (if (t245.length : Int) = 3 then (if 0 < (t245.length : Int) then ((value_Right.f ((rd_T47 t245 0).f0) ((rd_T47 t245 0).f1) ((rd_T47 t245 0).f2)).bind fun t251 => (some t251)) else (none)) else (some false)) else (some false))) else (some false)) = some r := H
  have A5 := Aside0.mk A50
  clear A50
  by_cases c6 : t244.toList = ([45, 53, 32, 120, 39, 54, 49, 39, 32, 116, 114, 117, 101] : List UInt8)
  · rw [if_pos c6] at H
    have c6b0 : (t244.toList == ([45, 53, 32, 120, 39, 54, 49, 39, 32, 116, 114, 117, 101] : List UInt8)) = true := beq_iff_eq.mpr c6
    have c6b1 : (t244.toList != ([45, 53, 32, 120, 39, 54, 49, 39, 32, 116, 114, 117, 101] : List UInt8)) = false := bne_eq_false_iff_eq.mpr c6
    clear c6
    replace H := Option.bind_eq_some_iff.mp H
    obtain ⟨t249, A70, H⟩ := H
    replace H : (if t249 = 0 then (if (t245.length : Int) = 3 then (if 0 < (t245.length : Int) then ((value_Right.f ((rd_T47 t245 0).f0) ((rd_T47 t245 0).f1) ((rd_T47 t245 0).f2)).bind fun t251 => (some t251)) else (none)) else (some false)) else (some false)) = some r := H
    have A7 := Aside0.mk A70
    clear A70
    by_cases c8 : t249 = 0
    · rw [if_pos c8] at H
      have c8b0 : (t249 == 0) = true := beq_iff_eq.mpr c8
      have c8b1 : (t249 != 0) = false := bne_eq_false_iff_eq.mpr c8
      clear c8
      by_cases c9 : (t245.length : Int) = 3
      · rw [if_pos c9] at H
        have c9b0 : ((t245.length : Int) == 3) = true := beq_iff_eq.mpr c9
        have c9b1 : ((t245.length : Int) != 3) = false := bne_eq_false_iff_eq.mpr c9
        clear c9
        by_cases c10 : 0 < (t245.length : Int)
        · rw [if_pos c10] at H
          have c10b0 : decide (0 < (t245.length : Int)) = true := decide_eq_true c10
          have c10b1 : decide (0 < t245.length) = true := decide_eq_true (by omega)
          clear c10
          replace H := Option.bind_eq_some_iff.mp H
          obtain ⟨t251, A110, H⟩ := H
          replace H : (some t251) = some r := H
          have A11 := Aside0.mk A110
          clear A110
          obtain rfl := Option.some.inj H
          go_enter Tryz.func14, Tryz.ntmps14
          go_wp2_with (first | ((with_reducible refine gate_callee (f := 34) rfl ?_); refine goesL_ (some 4) rfl rfl Tryz.func34 (by kernel_rfl) rfl #[.int .i64 (-5)] rfl (by (try simp only [List.map_toArray, List.map_cons, List.map_nil]); first | done | rfl | (simp only [List.length_drop, List.length_take]; rfl)) ?_; (with_reducible refine (value_Number.calls (-5) t232 t233 t234 _ A1.out).mono ?_); rintro e w12 ⟨rfl, hb⟩; refine ⟨_, rfl, ?_⟩; have n0_ := Aside0.mk (below_step (by repeat (first | (with_reducible first | exact HB.out | apply below_alloc | apply pw_below_drewN | apply below_drew1) | exact HB.out)) hb); clear HB; have HB := n0_; clear n0_; (try clear hb); (try clear hb2); (try clear hk); (try clear hi)) | ((with_reducible refine gate_callee (f := 35) rfl ?_); refine goesL_ (some 5) rfl rfl Tryz.func35 (by kernel_rfl) rfl #[.string (⟨#[97]⟩ : ByteArray)] rfl (by (try simp only [List.map_toArray, List.map_cons, List.map_nil]); first | done | rfl | (simp only [List.length_drop, List.length_take]; rfl)) ?_; (with_reducible refine (value_Text.calls (⟨#[97]⟩ : ByteArray) t235 t236 t237 _ A2.out).mono ?_); rintro e w13 ⟨rfl, hb⟩; refine ⟨_, rfl, ?_⟩; have n0_ := Aside0.mk (below_step (by repeat (first | (with_reducible first | exact HB.out | apply below_alloc | apply pw_below_drewN | apply below_drew1) | exact HB.out)) hb); clear HB; have HB := n0_; clear n0_; (try clear hb); (try clear hb2); (try clear hk); (try clear hi)) | ((with_reducible refine gate_callee (f := 36) rfl ?_); refine goesL_ (some 6) rfl rfl Tryz.func36 (by kernel_rfl) rfl #[.bool true] rfl (by (try simp only [List.map_toArray, List.map_cons, List.map_nil]); first | done | rfl | (simp only [List.length_drop, List.length_take]; rfl)) ?_; (with_reducible refine (value_Truth.calls true t238 t239 t240 _ A3.out).mono ?_); rintro e w14 ⟨rfl, hb⟩; refine ⟨_, rfl, ?_⟩; have n0_ := Aside0.mk (below_step (by repeat (first | (with_reducible first | exact HB.out | apply below_alloc | apply pw_below_drewN | apply below_drew1) | exact HB.out)) hb); clear HB; have HB := n0_; clear n0_; (try clear hb); (try clear hb2); (try clear hk); (try clear hi)) | ((with_reducible refine gate_dst (N := 7) rfl ?_); (try (refine gate_guard (by rfl) ?_; dsimp only)); refine Kd.R_lit k47 _ 47 ?hg (N := 7) ?hd (xs := ([(⟨t232, t233, t234⟩ : S47), (⟨t235, t236, t237⟩ : S47), (⟨t238, t239, t240⟩ : S47)] : List (S47))) (inner := [.int .i64 t232, .int .i64 t233, .string t234, .int .i64 t235, .int .i64 t236, .string t237, .int .i64 t238, .int .i64 t239, .string t240]) (ok := fun _ => True) (okp := fun _ => True) ?hr ?hp (fun _ hk => hk) trivial (Below.refl _ _) (Nat.le_refl _) (by simp) ?_; (case hd => rfl); (case hg => rfl); (case hr => first | (go_simp; done) | (go_simp; rfl)); (case hp => exact (Reps.c3 (show Kd.M k47 _ _ _ (⟨t232, t233, t234⟩ : S47) [.int .i64 t232, .int .i64 t233, .string t234] from (k47_mkM _ _ _ (⟨t232, t233, t234⟩ : S47) )) (Reps.c3 (show Kd.M k47 _ _ _ (⟨t235, t236, t237⟩ : S47) [.int .i64 t235, .int .i64 t236, .string t237] from (k47_mkM _ _ _ (⟨t235, t236, t237⟩ : S47) )) (Reps.c3 (show Kd.M k47 _ _ _ (⟨t238, t239, t240⟩ : S47) [.int .i64 t238, .int .i64 t239, .string t240] from (k47_mkM _ _ _ (⟨t238, t239, t240⟩ : S47) )) (Reps.none _ _))))); intro v242 w15 ho16 hb hg_ hnew_; clear hg_ hnew_; (first | rw [← Ny241.out] at ho16 | (simp only [Int.reduceToNat] at ho16; rw [← Ny241.out] at ho16)); have n0_ := Aside0.mk (Kd.R_lower ho16 (below_size (by repeat (first | (with_reducible first | exact HB.out | apply below_alloc | apply pw_below_drewN | apply below_drew1) | exact HB.out)))); have n1_ := Aside0.mk (below_step (by repeat (first | (with_reducible first | exact HB.out | apply below_alloc | apply pw_below_drewN | apply below_drew1) | exact HB.out)) hb); clear HB; have HO243 := n0_; have HB := n1_; clear n0_ n1_; clear hb ho16; obtain ⟨Ao17, co17, eo17⟩ := Kd.R_slice HO243.out; subst eo17) | ((with_reducible refine gate_callee (f := 16) rfl ?_); refine goesL_ (some 8) rfl rfl Tryz.func16 (by kernel_rfl) rfl #[.slice Ao17 y241.length co17] rfl (by (try simp only [List.map_toArray, List.map_cons, List.map_nil]); first | done | rfl | (simp only [List.length_drop, List.length_take]; rfl)) ?_; (with_reducible refine (value_Print.calls k _ _ y241 t244 _ ?side1 ?side2 A4.out ?sideV).mono ?_); (case sideV => exact HV.out.below (by repeat (first | (with_reducible first | exact HB.out | apply below_alloc | apply pw_below_drewN | apply below_drew1) | exact HB.out))); (case side1 => repeat (first | exact (Kd.R_reads' HO243.out).2.2 | (with_reducible refine Kd.C_alloc ?_ _) | (with_reducible refine Kd.C_drewN ?_ _) | (with_reducible refine Kd.C_drew ?_))); (case side2 => exact (Kd.R_reads' HO243.out).2.1); rintro e w18 ⟨rfl, hb⟩; refine ⟨_, rfl, ?_⟩; have n0_ := Aside0.mk (Kd.R_below (by (with_reducible repeat (first | apply Kd.R_alloc | apply Kd.R_drewN | apply Kd.R_drew)); exact HO243.out) hb); have n1_ := Aside0.mk (below_step (by repeat (first | (with_reducible first | exact HB.out | apply below_alloc | apply pw_below_drewN | apply below_drew1) | exact HB.out)) hb); clear HO243; clear HB; have HO243 := n0_; have HB := n1_; clear n0_ n1_; (try clear hb); (try clear hb2); (try clear hk); (try clear hi)) | ((with_reducible refine gate_callee (f := 15) rfl ?_); refine goesL_ (some 11) rfl rfl Tryz.func15 (by kernel_rfl) rfl #[.string t244] rfl (by (try simp only [List.map_toArray, List.map_cons, List.map_nil]); first | done | rfl | (simp only [List.length_drop, List.length_take]; rfl)) ?_; (with_reducible refine (value_Parse.calls t244 t245 t246 _ A5.out ?sideV).mono ?_); (case sideV => exact HV.out.below (by repeat (first | (with_reducible first | exact HB.out | apply below_alloc | apply pw_below_drewN | apply below_drew1) | exact HB.out))); rintro e w19 ⟨v247, rfl, ho0, hb⟩; refine ⟨_, rfl, ?_⟩; have n0_ := Aside0.mk (Kd.R_elder' (by (with_reducible repeat (first | apply Kd.R_alloc | apply Kd.R_drewN | apply Kd.R_drew)); exact HO243.out) (Kd.R_base ho0) hb); have n1_ := Aside0.mk (Kd.R_lower (Kd.R_new' ho0 (Kd.R_lt (by (with_reducible repeat (first | apply Kd.R_alloc | apply Kd.R_drewN | apply Kd.R_drew)); exact HO243.out))) (below_size (by repeat (first | (with_reducible first | exact HB.out | apply below_alloc | apply pw_below_drewN | apply below_drew1) | exact HB.out)))); have n2_ := Aside0.mk (below_step (by repeat (first | (with_reducible first | exact HB.out | apply below_alloc | apply pw_below_drewN | apply below_drew1) | exact HB.out)) hb); clear HO243; clear HB; have HO243 := n0_; have HO248 := n1_; have HB := n2_; clear n0_ n1_ n2_; (try clear hb); (try clear hb2); (try clear hk); (try clear hi); (try clear ho0)) | (go_at_call 11; (with_reducible refine (weighhouselaw02_num.calls t246 t249 _ A7.out).mono ?_); rintro e w' ⟨rfl, ⟨nd, rfl⟩⟩; obtain ⟨Ao20, co20, eo20⟩ := Kd.R_slice HO248.out; subst eo20; have p250 : 0 ≤ (0 : Int) := (by omega); have q250 : 0 < (t245.length : Int) := of_decide_eq_true (by first | (with_reducible assumption) | assumption); obtain ⟨ad250, e250, hx250_0, hx250_1, hx250_2⟩ := at_T47 (Kd.R_reads' HO248.out).2.2 0 p250 q250; cases e250; have qi250 : (0 < t245.length) = True := eq_true (by omega); (try rw [show ((0 : Int)).toNat = 0 from rfl] at hx250_0); (try rw [show 0 * 3 = 0 from rfl] at hx250_0); (try rw [Addr.add_zero'] at hx250_0); (try rw [show ((0 : Int)).toNat = 0 from rfl] at hx250_1); (try rw [show 0 * 3 = 0 from rfl] at hx250_1); (try rw [Addr.add_zero'] at hx250_1); (try rw [show ((0 : Int)).toNat = 0 from rfl] at hx250_2); (try rw [show 0 * 3 = 0 from rfl] at hx250_2); (try rw [Addr.add_zero'] at hx250_2); replace p250 := eq_true p250; replace q250 := eq_true q250) | (go_at_call 37; (with_reducible refine (value_Right.calls ((rd_T47 t245 0).f0) ((rd_T47 t245 0).f1) ((rd_T47 t245 0).f2) t251 _ A11.out).mono ?_); rintro e w21 ⟨rfl, hb⟩; have n0_ := Aside0.mk (Kd.R_below (by (with_reducible repeat (first | apply Kd.R_alloc | apply Kd.R_drewN | apply Kd.R_drew)); exact HO243.out) hb); have n1_ := Aside0.mk (Kd.R_below (by (with_reducible repeat (first | apply Kd.R_alloc | apply Kd.R_drewN | apply Kd.R_drew)); exact HO248.out) hb); have n2_ := Aside0.mk (below_step (by repeat (first | (with_reducible first | exact HB.out | apply below_alloc | apply pw_below_drewN | apply below_drew1) | exact HB.out)) hb); clear HO243; clear HO248; clear HB; have HO243 := n0_; have HO248 := n1_; have HB := n2_; clear n0_ n1_ n2_; (try clear hb); (try clear hb2); (try clear hk); (try clear hi)))
          go_ret
          exact ⟨by first | rfl | (simp [errW_none, errW_some] <;> rfl) | (simp [*, errW_none, errW_some] <;> rfl), by repeat (first | (with_reducible first | exact HB.out | apply below_alloc | apply pw_below_drewN | apply below_drew1) | exact HB.out)⟩
        · rw [if_neg c10] at H
          exact absurd H (by simp)
      · rw [if_neg c9] at H
        have c9b0 : ((t245.length : Int) == 3) = false := beq_eq_false_iff_ne.mpr c9
        have c9b1 : ((t245.length : Int) != 3) = true := bne_iff_ne.mpr c9
        obtain rfl := Option.some.inj H
        go_enter Tryz.func14, Tryz.ntmps14
        go_wp2_with (first | ((with_reducible refine gate_callee (f := 34) rfl ?_); refine goesL_ (some 4) rfl rfl Tryz.func34 (by kernel_rfl) rfl #[.int .i64 (-5)] rfl (by (try simp only [List.map_toArray, List.map_cons, List.map_nil]); first | done | rfl | (simp only [List.length_drop, List.length_take]; rfl)) ?_; (with_reducible refine (value_Number.calls (-5) t232 t233 t234 _ A1.out).mono ?_); rintro e w22 ⟨rfl, hb⟩; refine ⟨_, rfl, ?_⟩; have n0_ := Aside0.mk (below_step (by repeat (first | (with_reducible first | exact HB.out | apply below_alloc | apply pw_below_drewN | apply below_drew1) | exact HB.out)) hb); clear HB; have HB := n0_; clear n0_; (try clear hb); (try clear hb2); (try clear hk); (try clear hi)) | ((with_reducible refine gate_callee (f := 35) rfl ?_); refine goesL_ (some 5) rfl rfl Tryz.func35 (by kernel_rfl) rfl #[.string (⟨#[97]⟩ : ByteArray)] rfl (by (try simp only [List.map_toArray, List.map_cons, List.map_nil]); first | done | rfl | (simp only [List.length_drop, List.length_take]; rfl)) ?_; (with_reducible refine (value_Text.calls (⟨#[97]⟩ : ByteArray) t235 t236 t237 _ A2.out).mono ?_); rintro e w23 ⟨rfl, hb⟩; refine ⟨_, rfl, ?_⟩; have n0_ := Aside0.mk (below_step (by repeat (first | (with_reducible first | exact HB.out | apply below_alloc | apply pw_below_drewN | apply below_drew1) | exact HB.out)) hb); clear HB; have HB := n0_; clear n0_; (try clear hb); (try clear hb2); (try clear hk); (try clear hi)) | ((with_reducible refine gate_callee (f := 36) rfl ?_); refine goesL_ (some 6) rfl rfl Tryz.func36 (by kernel_rfl) rfl #[.bool true] rfl (by (try simp only [List.map_toArray, List.map_cons, List.map_nil]); first | done | rfl | (simp only [List.length_drop, List.length_take]; rfl)) ?_; (with_reducible refine (value_Truth.calls true t238 t239 t240 _ A3.out).mono ?_); rintro e w24 ⟨rfl, hb⟩; refine ⟨_, rfl, ?_⟩; have n0_ := Aside0.mk (below_step (by repeat (first | (with_reducible first | exact HB.out | apply below_alloc | apply pw_below_drewN | apply below_drew1) | exact HB.out)) hb); clear HB; have HB := n0_; clear n0_; (try clear hb); (try clear hb2); (try clear hk); (try clear hi)) | ((with_reducible refine gate_dst (N := 7) rfl ?_); (try (refine gate_guard (by rfl) ?_; dsimp only)); refine Kd.R_lit k47 _ 47 ?hg (N := 7) ?hd (xs := ([(⟨t232, t233, t234⟩ : S47), (⟨t235, t236, t237⟩ : S47), (⟨t238, t239, t240⟩ : S47)] : List (S47))) (inner := [.int .i64 t232, .int .i64 t233, .string t234, .int .i64 t235, .int .i64 t236, .string t237, .int .i64 t238, .int .i64 t239, .string t240]) (ok := fun _ => True) (okp := fun _ => True) ?hr ?hp (fun _ hk => hk) trivial (Below.refl _ _) (Nat.le_refl _) (by simp) ?_; (case hd => rfl); (case hg => rfl); (case hr => first | (go_simp; done) | (go_simp; rfl)); (case hp => exact (Reps.c3 (show Kd.M k47 _ _ _ (⟨t232, t233, t234⟩ : S47) [.int .i64 t232, .int .i64 t233, .string t234] from (k47_mkM _ _ _ (⟨t232, t233, t234⟩ : S47) )) (Reps.c3 (show Kd.M k47 _ _ _ (⟨t235, t236, t237⟩ : S47) [.int .i64 t235, .int .i64 t236, .string t237] from (k47_mkM _ _ _ (⟨t235, t236, t237⟩ : S47) )) (Reps.c3 (show Kd.M k47 _ _ _ (⟨t238, t239, t240⟩ : S47) [.int .i64 t238, .int .i64 t239, .string t240] from (k47_mkM _ _ _ (⟨t238, t239, t240⟩ : S47) )) (Reps.none _ _))))); intro v242 w25 ho26 hb hg_ hnew_; clear hg_ hnew_; (first | rw [← Ny241.out] at ho26 | (simp only [Int.reduceToNat] at ho26; rw [← Ny241.out] at ho26)); have n0_ := Aside0.mk (Kd.R_lower ho26 (below_size (by repeat (first | (with_reducible first | exact HB.out | apply below_alloc | apply pw_below_drewN | apply below_drew1) | exact HB.out)))); have n1_ := Aside0.mk (below_step (by repeat (first | (with_reducible first | exact HB.out | apply below_alloc | apply pw_below_drewN | apply below_drew1) | exact HB.out)) hb); clear HB; have HO243 := n0_; have HB := n1_; clear n0_ n1_; clear hb ho26; obtain ⟨Ao27, co27, eo27⟩ := Kd.R_slice HO243.out; subst eo27) | ((with_reducible refine gate_callee (f := 16) rfl ?_); refine goesL_ (some 8) rfl rfl Tryz.func16 (by kernel_rfl) rfl #[.slice Ao27 y241.length co27] rfl (by (try simp only [List.map_toArray, List.map_cons, List.map_nil]); first | done | rfl | (simp only [List.length_drop, List.length_take]; rfl)) ?_; (with_reducible refine (value_Print.calls k _ _ y241 t244 _ ?side1 ?side2 A4.out ?sideV).mono ?_); (case sideV => exact HV.out.below (by repeat (first | (with_reducible first | exact HB.out | apply below_alloc | apply pw_below_drewN | apply below_drew1) | exact HB.out))); (case side1 => repeat (first | exact (Kd.R_reads' HO243.out).2.2 | (with_reducible refine Kd.C_alloc ?_ _) | (with_reducible refine Kd.C_drewN ?_ _) | (with_reducible refine Kd.C_drew ?_))); (case side2 => exact (Kd.R_reads' HO243.out).2.1); rintro e w28 ⟨rfl, hb⟩; refine ⟨_, rfl, ?_⟩; have n0_ := Aside0.mk (Kd.R_below (by (with_reducible repeat (first | apply Kd.R_alloc | apply Kd.R_drewN | apply Kd.R_drew)); exact HO243.out) hb); have n1_ := Aside0.mk (below_step (by repeat (first | (with_reducible first | exact HB.out | apply below_alloc | apply pw_below_drewN | apply below_drew1) | exact HB.out)) hb); clear HO243; clear HB; have HO243 := n0_; have HB := n1_; clear n0_ n1_; (try clear hb); (try clear hb2); (try clear hk); (try clear hi)) | ((with_reducible refine gate_callee (f := 15) rfl ?_); refine goesL_ (some 11) rfl rfl Tryz.func15 (by kernel_rfl) rfl #[.string t244] rfl (by (try simp only [List.map_toArray, List.map_cons, List.map_nil]); first | done | rfl | (simp only [List.length_drop, List.length_take]; rfl)) ?_; (with_reducible refine (value_Parse.calls t244 t245 t246 _ A5.out ?sideV).mono ?_); (case sideV => exact HV.out.below (by repeat (first | (with_reducible first | exact HB.out | apply below_alloc | apply pw_below_drewN | apply below_drew1) | exact HB.out))); rintro e w29 ⟨v247, rfl, ho0, hb⟩; refine ⟨_, rfl, ?_⟩; have n0_ := Aside0.mk (Kd.R_elder' (by (with_reducible repeat (first | apply Kd.R_alloc | apply Kd.R_drewN | apply Kd.R_drew)); exact HO243.out) (Kd.R_base ho0) hb); have n1_ := Aside0.mk (Kd.R_lower (Kd.R_new' ho0 (Kd.R_lt (by (with_reducible repeat (first | apply Kd.R_alloc | apply Kd.R_drewN | apply Kd.R_drew)); exact HO243.out))) (below_size (by repeat (first | (with_reducible first | exact HB.out | apply below_alloc | apply pw_below_drewN | apply below_drew1) | exact HB.out)))); have n2_ := Aside0.mk (below_step (by repeat (first | (with_reducible first | exact HB.out | apply below_alloc | apply pw_below_drewN | apply below_drew1) | exact HB.out)) hb); clear HO243; clear HB; have HO243 := n0_; have HO248 := n1_; have HB := n2_; clear n0_ n1_ n2_; (try clear hb); (try clear hb2); (try clear hk); (try clear hi); (try clear ho0)) | (go_at_call 11; (with_reducible refine (weighhouselaw02_num.calls t246 t249 _ A7.out).mono ?_); rintro e w' ⟨rfl, ⟨nd, rfl⟩⟩; obtain ⟨Ao30, co30, eo30⟩ := Kd.R_slice HO248.out; subst eo30))
        go_ret
        exact ⟨by first | rfl | (simp [errW_none, errW_some] <;> rfl) | (simp [*, errW_none, errW_some] <;> rfl), by repeat (first | (with_reducible first | exact HB.out | apply below_alloc | apply pw_below_drewN | apply below_drew1) | exact HB.out)⟩
    · rw [if_neg c8] at H
      have c8b0 : (t249 == 0) = false := beq_eq_false_iff_ne.mpr c8
      have c8b1 : (t249 != 0) = true := bne_iff_ne.mpr c8
      obtain rfl := Option.some.inj H
      go_enter Tryz.func14, Tryz.ntmps14
      go_wp2_with (first | ((with_reducible refine gate_callee (f := 34) rfl ?_); refine goesL_ (some 4) rfl rfl Tryz.func34 (by kernel_rfl) rfl #[.int .i64 (-5)] rfl (by (try simp only [List.map_toArray, List.map_cons, List.map_nil]); first | done | rfl | (simp only [List.length_drop, List.length_take]; rfl)) ?_; (with_reducible refine (value_Number.calls (-5) t232 t233 t234 _ A1.out).mono ?_); rintro e w31 ⟨rfl, hb⟩; refine ⟨_, rfl, ?_⟩; have n0_ := Aside0.mk (below_step (by repeat (first | (with_reducible first | exact HB.out | apply below_alloc | apply pw_below_drewN | apply below_drew1) | exact HB.out)) hb); clear HB; have HB := n0_; clear n0_; (try clear hb); (try clear hb2); (try clear hk); (try clear hi)) | ((with_reducible refine gate_callee (f := 35) rfl ?_); refine goesL_ (some 5) rfl rfl Tryz.func35 (by kernel_rfl) rfl #[.string (⟨#[97]⟩ : ByteArray)] rfl (by (try simp only [List.map_toArray, List.map_cons, List.map_nil]); first | done | rfl | (simp only [List.length_drop, List.length_take]; rfl)) ?_; (with_reducible refine (value_Text.calls (⟨#[97]⟩ : ByteArray) t235 t236 t237 _ A2.out).mono ?_); rintro e w32 ⟨rfl, hb⟩; refine ⟨_, rfl, ?_⟩; have n0_ := Aside0.mk (below_step (by repeat (first | (with_reducible first | exact HB.out | apply below_alloc | apply pw_below_drewN | apply below_drew1) | exact HB.out)) hb); clear HB; have HB := n0_; clear n0_; (try clear hb); (try clear hb2); (try clear hk); (try clear hi)) | ((with_reducible refine gate_callee (f := 36) rfl ?_); refine goesL_ (some 6) rfl rfl Tryz.func36 (by kernel_rfl) rfl #[.bool true] rfl (by (try simp only [List.map_toArray, List.map_cons, List.map_nil]); first | done | rfl | (simp only [List.length_drop, List.length_take]; rfl)) ?_; (with_reducible refine (value_Truth.calls true t238 t239 t240 _ A3.out).mono ?_); rintro e w33 ⟨rfl, hb⟩; refine ⟨_, rfl, ?_⟩; have n0_ := Aside0.mk (below_step (by repeat (first | (with_reducible first | exact HB.out | apply below_alloc | apply pw_below_drewN | apply below_drew1) | exact HB.out)) hb); clear HB; have HB := n0_; clear n0_; (try clear hb); (try clear hb2); (try clear hk); (try clear hi)) | ((with_reducible refine gate_dst (N := 7) rfl ?_); (try (refine gate_guard (by rfl) ?_; dsimp only)); refine Kd.R_lit k47 _ 47 ?hg (N := 7) ?hd (xs := ([(⟨t232, t233, t234⟩ : S47), (⟨t235, t236, t237⟩ : S47), (⟨t238, t239, t240⟩ : S47)] : List (S47))) (inner := [.int .i64 t232, .int .i64 t233, .string t234, .int .i64 t235, .int .i64 t236, .string t237, .int .i64 t238, .int .i64 t239, .string t240]) (ok := fun _ => True) (okp := fun _ => True) ?hr ?hp (fun _ hk => hk) trivial (Below.refl _ _) (Nat.le_refl _) (by simp) ?_; (case hd => rfl); (case hg => rfl); (case hr => first | (go_simp; done) | (go_simp; rfl)); (case hp => exact (Reps.c3 (show Kd.M k47 _ _ _ (⟨t232, t233, t234⟩ : S47) [.int .i64 t232, .int .i64 t233, .string t234] from (k47_mkM _ _ _ (⟨t232, t233, t234⟩ : S47) )) (Reps.c3 (show Kd.M k47 _ _ _ (⟨t235, t236, t237⟩ : S47) [.int .i64 t235, .int .i64 t236, .string t237] from (k47_mkM _ _ _ (⟨t235, t236, t237⟩ : S47) )) (Reps.c3 (show Kd.M k47 _ _ _ (⟨t238, t239, t240⟩ : S47) [.int .i64 t238, .int .i64 t239, .string t240] from (k47_mkM _ _ _ (⟨t238, t239, t240⟩ : S47) )) (Reps.none _ _))))); intro v242 w34 ho35 hb hg_ hnew_; clear hg_ hnew_; (first | rw [← Ny241.out] at ho35 | (simp only [Int.reduceToNat] at ho35; rw [← Ny241.out] at ho35)); have n0_ := Aside0.mk (Kd.R_lower ho35 (below_size (by repeat (first | (with_reducible first | exact HB.out | apply below_alloc | apply pw_below_drewN | apply below_drew1) | exact HB.out)))); have n1_ := Aside0.mk (below_step (by repeat (first | (with_reducible first | exact HB.out | apply below_alloc | apply pw_below_drewN | apply below_drew1) | exact HB.out)) hb); clear HB; have HO243 := n0_; have HB := n1_; clear n0_ n1_; clear hb ho35; obtain ⟨Ao36, co36, eo36⟩ := Kd.R_slice HO243.out; subst eo36) | ((with_reducible refine gate_callee (f := 16) rfl ?_); refine goesL_ (some 8) rfl rfl Tryz.func16 (by kernel_rfl) rfl #[.slice Ao36 y241.length co36] rfl (by (try simp only [List.map_toArray, List.map_cons, List.map_nil]); first | done | rfl | (simp only [List.length_drop, List.length_take]; rfl)) ?_; (with_reducible refine (value_Print.calls k _ _ y241 t244 _ ?side1 ?side2 A4.out ?sideV).mono ?_); (case sideV => exact HV.out.below (by repeat (first | (with_reducible first | exact HB.out | apply below_alloc | apply pw_below_drewN | apply below_drew1) | exact HB.out))); (case side1 => repeat (first | exact (Kd.R_reads' HO243.out).2.2 | (with_reducible refine Kd.C_alloc ?_ _) | (with_reducible refine Kd.C_drewN ?_ _) | (with_reducible refine Kd.C_drew ?_))); (case side2 => exact (Kd.R_reads' HO243.out).2.1); rintro e w37 ⟨rfl, hb⟩; refine ⟨_, rfl, ?_⟩; have n0_ := Aside0.mk (Kd.R_below (by (with_reducible repeat (first | apply Kd.R_alloc | apply Kd.R_drewN | apply Kd.R_drew)); exact HO243.out) hb); have n1_ := Aside0.mk (below_step (by repeat (first | (with_reducible first | exact HB.out | apply below_alloc | apply pw_below_drewN | apply below_drew1) | exact HB.out)) hb); clear HO243; clear HB; have HO243 := n0_; have HB := n1_; clear n0_ n1_; (try clear hb); (try clear hb2); (try clear hk); (try clear hi)) | ((with_reducible refine gate_callee (f := 15) rfl ?_); refine goesL_ (some 11) rfl rfl Tryz.func15 (by kernel_rfl) rfl #[.string t244] rfl (by (try simp only [List.map_toArray, List.map_cons, List.map_nil]); first | done | rfl | (simp only [List.length_drop, List.length_take]; rfl)) ?_; (with_reducible refine (value_Parse.calls t244 t245 t246 _ A5.out ?sideV).mono ?_); (case sideV => exact HV.out.below (by repeat (first | (with_reducible first | exact HB.out | apply below_alloc | apply pw_below_drewN | apply below_drew1) | exact HB.out))); rintro e w38 ⟨v247, rfl, ho0, hb⟩; refine ⟨_, rfl, ?_⟩; have n0_ := Aside0.mk (Kd.R_elder' (by (with_reducible repeat (first | apply Kd.R_alloc | apply Kd.R_drewN | apply Kd.R_drew)); exact HO243.out) (Kd.R_base ho0) hb); have n1_ := Aside0.mk (Kd.R_lower (Kd.R_new' ho0 (Kd.R_lt (by (with_reducible repeat (first | apply Kd.R_alloc | apply Kd.R_drewN | apply Kd.R_drew)); exact HO243.out))) (below_size (by repeat (first | (with_reducible first | exact HB.out | apply below_alloc | apply pw_below_drewN | apply below_drew1) | exact HB.out)))); have n2_ := Aside0.mk (below_step (by repeat (first | (with_reducible first | exact HB.out | apply below_alloc | apply pw_below_drewN | apply below_drew1) | exact HB.out)) hb); clear HO243; clear HB; have HO243 := n0_; have HO248 := n1_; have HB := n2_; clear n0_ n1_ n2_; (try clear hb); (try clear hb2); (try clear hk); (try clear hi); (try clear ho0)) | (go_at_call 11; (with_reducible refine (weighhouselaw02_num.calls t246 t249 _ A7.out).mono ?_); rintro e w' ⟨rfl, ⟨nd, rfl⟩⟩))
      go_ret
      exact ⟨by first | rfl | (simp [errW_none, errW_some] <;> rfl) | (simp [*, errW_none, errW_some] <;> rfl), by repeat (first | (with_reducible first | exact HB.out | apply below_alloc | apply pw_below_drewN | apply below_drew1) | exact HB.out)⟩
  · rw [if_neg c6] at H
    have c6b0 : (t244.toList == ([45, 53, 32, 120, 39, 54, 49, 39, 32, 116, 114, 117, 101] : List UInt8)) = false := beq_eq_false_iff_ne.mpr c6
    have c6b1 : (t244.toList != ([45, 53, 32, 120, 39, 54, 49, 39, 32, 116, 114, 117, 101] : List UInt8)) = true := bne_iff_ne.mpr c6
    obtain rfl := Option.some.inj H
    go_enter Tryz.func14, Tryz.ntmps14
    go_wp2_with (first | ((with_reducible refine gate_callee (f := 34) rfl ?_); refine goesL_ (some 4) rfl rfl Tryz.func34 (by kernel_rfl) rfl #[.int .i64 (-5)] rfl (by (try simp only [List.map_toArray, List.map_cons, List.map_nil]); first | done | rfl | (simp only [List.length_drop, List.length_take]; rfl)) ?_; (with_reducible refine (value_Number.calls (-5) t232 t233 t234 _ A1.out).mono ?_); rintro e w39 ⟨rfl, hb⟩; refine ⟨_, rfl, ?_⟩; have n0_ := Aside0.mk (below_step (by repeat (first | (with_reducible first | exact HB.out | apply below_alloc | apply pw_below_drewN | apply below_drew1) | exact HB.out)) hb); clear HB; have HB := n0_; clear n0_; (try clear hb); (try clear hb2); (try clear hk); (try clear hi)) | ((with_reducible refine gate_callee (f := 35) rfl ?_); refine goesL_ (some 5) rfl rfl Tryz.func35 (by kernel_rfl) rfl #[.string (⟨#[97]⟩ : ByteArray)] rfl (by (try simp only [List.map_toArray, List.map_cons, List.map_nil]); first | done | rfl | (simp only [List.length_drop, List.length_take]; rfl)) ?_; (with_reducible refine (value_Text.calls (⟨#[97]⟩ : ByteArray) t235 t236 t237 _ A2.out).mono ?_); rintro e w40 ⟨rfl, hb⟩; refine ⟨_, rfl, ?_⟩; have n0_ := Aside0.mk (below_step (by repeat (first | (with_reducible first | exact HB.out | apply below_alloc | apply pw_below_drewN | apply below_drew1) | exact HB.out)) hb); clear HB; have HB := n0_; clear n0_; (try clear hb); (try clear hb2); (try clear hk); (try clear hi)) | ((with_reducible refine gate_callee (f := 36) rfl ?_); refine goesL_ (some 6) rfl rfl Tryz.func36 (by kernel_rfl) rfl #[.bool true] rfl (by (try simp only [List.map_toArray, List.map_cons, List.map_nil]); first | done | rfl | (simp only [List.length_drop, List.length_take]; rfl)) ?_; (with_reducible refine (value_Truth.calls true t238 t239 t240 _ A3.out).mono ?_); rintro e w41 ⟨rfl, hb⟩; refine ⟨_, rfl, ?_⟩; have n0_ := Aside0.mk (below_step (by repeat (first | (with_reducible first | exact HB.out | apply below_alloc | apply pw_below_drewN | apply below_drew1) | exact HB.out)) hb); clear HB; have HB := n0_; clear n0_; (try clear hb); (try clear hb2); (try clear hk); (try clear hi)) | ((with_reducible refine gate_dst (N := 7) rfl ?_); (try (refine gate_guard (by rfl) ?_; dsimp only)); refine Kd.R_lit k47 _ 47 ?hg (N := 7) ?hd (xs := ([(⟨t232, t233, t234⟩ : S47), (⟨t235, t236, t237⟩ : S47), (⟨t238, t239, t240⟩ : S47)] : List (S47))) (inner := [.int .i64 t232, .int .i64 t233, .string t234, .int .i64 t235, .int .i64 t236, .string t237, .int .i64 t238, .int .i64 t239, .string t240]) (ok := fun _ => True) (okp := fun _ => True) ?hr ?hp (fun _ hk => hk) trivial (Below.refl _ _) (Nat.le_refl _) (by simp) ?_; (case hd => rfl); (case hg => rfl); (case hr => first | (go_simp; done) | (go_simp; rfl)); (case hp => exact (Reps.c3 (show Kd.M k47 _ _ _ (⟨t232, t233, t234⟩ : S47) [.int .i64 t232, .int .i64 t233, .string t234] from (k47_mkM _ _ _ (⟨t232, t233, t234⟩ : S47) )) (Reps.c3 (show Kd.M k47 _ _ _ (⟨t235, t236, t237⟩ : S47) [.int .i64 t235, .int .i64 t236, .string t237] from (k47_mkM _ _ _ (⟨t235, t236, t237⟩ : S47) )) (Reps.c3 (show Kd.M k47 _ _ _ (⟨t238, t239, t240⟩ : S47) [.int .i64 t238, .int .i64 t239, .string t240] from (k47_mkM _ _ _ (⟨t238, t239, t240⟩ : S47) )) (Reps.none _ _))))); intro v242 w42 ho43 hb hg_ hnew_; clear hg_ hnew_; (first | rw [← Ny241.out] at ho43 | (simp only [Int.reduceToNat] at ho43; rw [← Ny241.out] at ho43)); have n0_ := Aside0.mk (Kd.R_lower ho43 (below_size (by repeat (first | (with_reducible first | exact HB.out | apply below_alloc | apply pw_below_drewN | apply below_drew1) | exact HB.out)))); have n1_ := Aside0.mk (below_step (by repeat (first | (with_reducible first | exact HB.out | apply below_alloc | apply pw_below_drewN | apply below_drew1) | exact HB.out)) hb); clear HB; have HO243 := n0_; have HB := n1_; clear n0_ n1_; clear hb ho43; obtain ⟨Ao44, co44, eo44⟩ := Kd.R_slice HO243.out; subst eo44) | ((with_reducible refine gate_callee (f := 16) rfl ?_); refine goesL_ (some 8) rfl rfl Tryz.func16 (by kernel_rfl) rfl #[.slice Ao44 y241.length co44] rfl (by (try simp only [List.map_toArray, List.map_cons, List.map_nil]); first | done | rfl | (simp only [List.length_drop, List.length_take]; rfl)) ?_; (with_reducible refine (value_Print.calls k _ _ y241 t244 _ ?side1 ?side2 A4.out ?sideV).mono ?_); (case sideV => exact HV.out.below (by repeat (first | (with_reducible first | exact HB.out | apply below_alloc | apply pw_below_drewN | apply below_drew1) | exact HB.out))); (case side1 => repeat (first | exact (Kd.R_reads' HO243.out).2.2 | (with_reducible refine Kd.C_alloc ?_ _) | (with_reducible refine Kd.C_drewN ?_ _) | (with_reducible refine Kd.C_drew ?_))); (case side2 => exact (Kd.R_reads' HO243.out).2.1); rintro e w45 ⟨rfl, hb⟩; refine ⟨_, rfl, ?_⟩; have n0_ := Aside0.mk (Kd.R_below (by (with_reducible repeat (first | apply Kd.R_alloc | apply Kd.R_drewN | apply Kd.R_drew)); exact HO243.out) hb); have n1_ := Aside0.mk (below_step (by repeat (first | (with_reducible first | exact HB.out | apply below_alloc | apply pw_below_drewN | apply below_drew1) | exact HB.out)) hb); clear HO243; clear HB; have HO243 := n0_; have HB := n1_; clear n0_ n1_; (try clear hb); (try clear hb2); (try clear hk); (try clear hi)) | ((with_reducible refine gate_callee (f := 15) rfl ?_); refine goesL_ (some 11) rfl rfl Tryz.func15 (by kernel_rfl) rfl #[.string t244] rfl (by (try simp only [List.map_toArray, List.map_cons, List.map_nil]); first | done | rfl | (simp only [List.length_drop, List.length_take]; rfl)) ?_; (with_reducible refine (value_Parse.calls t244 t245 t246 _ A5.out ?sideV).mono ?_); (case sideV => exact HV.out.below (by repeat (first | (with_reducible first | exact HB.out | apply below_alloc | apply pw_below_drewN | apply below_drew1) | exact HB.out))); rintro e w46 ⟨v247, rfl, ho0, hb⟩; refine ⟨_, rfl, ?_⟩; have n0_ := Aside0.mk (Kd.R_elder' (by (with_reducible repeat (first | apply Kd.R_alloc | apply Kd.R_drewN | apply Kd.R_drew)); exact HO243.out) (Kd.R_base ho0) hb); have n1_ := Aside0.mk (Kd.R_lower (Kd.R_new' ho0 (Kd.R_lt (by (with_reducible repeat (first | apply Kd.R_alloc | apply Kd.R_drewN | apply Kd.R_drew)); exact HO243.out))) (below_size (by repeat (first | (with_reducible first | exact HB.out | apply below_alloc | apply pw_below_drewN | apply below_drew1) | exact HB.out)))); have n2_ := Aside0.mk (below_step (by repeat (first | (with_reducible first | exact HB.out | apply below_alloc | apply pw_below_drewN | apply below_drew1) | exact HB.out)) hb); clear HO243; clear HB; have HO243 := n0_; have HO248 := n1_; have HB := n2_; clear n0_ n1_ n2_; (try clear hb); (try clear hb2); (try clear hk); (try clear hi); (try clear ho0)))
    go_ret
    exact ⟨by first | rfl | (simp [errW_none, errW_some] <;> rfl) | (simp [*, errW_none, errW_some] <;> rfl), by repeat (first | (with_reducible first | exact HB.out | apply below_alloc | apply pw_below_drewN | apply below_drew1) | exact HB.out)⟩

end Go.Proofs.YtblaibigjhlblaaGreatDoor.Q
end

section
-- written by hprint.py (a program of these sessions) out of the translation; Lean checks it
namespace Go.Proofs.YtblaibigjhlblaaGreatDoor.Q
open Go.RowKit Go.Proofs.YtblaibigjhlblaaGreatDoorW.Hb Go.Proofs.YtblaibigjhlblaaGreatDoorW.PrintWords Go.Proofs.YtblaibigjhlblaaGreatDoorW.PrintLast Go.Proofs.YtblaibigjhlblaaGreatDoorW.PrintMore
attribute [local go_sem] max2_int min2_int max_two min_two max_three min_three max_four min_four   -- for this text's walks alone
set_option linter.unusedVariables false
set_option linter.unusedSimpArgs false

/-! ### weighhouselaw02_ValueBytes: function 3, by hand -/
def weighhouselaw02_ValueBytes.f (k : Nat) (l0 : List S47) (l1 : List Int) : Option Bool := (weighhouselaw02_Own.f l0).bind fun x => (value_Put.f k x).bind fun c => (weighhouseref02_Put.f k l0).bind fun d => (value_Get.f k l1).bind fun y => (weighhouseref02_Get.f k l1).bind fun z => (weighhouselaw02_Same.f k y.1 z.1).bind fun s => (weighhouselaw02_Same.f k x l0).bind fun t => (weighhouselaw02_knows.f k).bind fun q => if c.1 = d.1 ∧ c.2 = d.2 ∧ s = true ∧ y.2 = z.2 ∧ t = true ∧ q = true ∧ l1.length ≤ 140737488351232 then some true else none
set_option maxRecDepth 100000 in
set_option maxHeartbeats 8000000 in
theorem weighhouselaw02_ValueBytes.calls (k : Nat) (A0 : Option Addr) (c0 : Nat) (l0 : List S47) (A1 : Option Addr) (c1 : Nat) (l1 : List Int) (r : Bool) (w : World) (hr0 : Kd.C k47 w A0 l0.length l0) (hc0 : l0.length ≤ c0) (hr1 : Kd.C (Kd.int .u8) w A1 l1.length l1) (hc1 : l1.length ≤ c1) (h : weighhouselaw02_ValueBytes.f k l0 l1 = some r) (hV : VarsOk w) :
    Calls Tryz.prog 3 #[.slice A0 l0.length c0, .slice A1 l1.length c1] w fun e w' => e = .returned (.bool r) ∧ Below w.heap.size w w' := by
  unfold weighhouselaw02_ValueBytes.f at h
  obtain ⟨x, hx, h⟩ := Option.bind_eq_some_iff.mp h
  obtain ⟨⟨c, ce⟩, hp, h⟩ := Option.bind_eq_some_iff.mp h
  obtain ⟨⟨d, de⟩, hd, h⟩ := Option.bind_eq_some_iff.mp h
  obtain ⟨⟨y, ye⟩, hg, h⟩ := Option.bind_eq_some_iff.mp h
  obtain ⟨⟨z, ze⟩, hz, h⟩ := Option.bind_eq_some_iff.mp h
  obtain ⟨s, hs, h⟩ := Option.bind_eq_some_iff.mp h
  obtain ⟨t, ht, h⟩ := Option.bind_eq_some_iff.mp h
  obtain ⟨q, hq, h⟩ := Option.bind_eq_some_iff.mp h
  simp only at hs h
  split at h
  rotate_left
  · cases h
  rename_i hcond
  obtain rfl := Option.some.inj h
  obtain ⟨rfl, rfl, rfl, rfl, rfl, rfl, hlen⟩ := hcond
  have HX := Aside0.mk hx
  have HP := Aside0.mk hp
  have HD := Aside0.mk hd
  have HG := Aside0.mk hg
  have HZ := Aside0.mk hz
  have HS := Aside0.mk hs
  have HT := Aside0.mk ht
  have HQ := Aside0.mk hq
  have HV := Aside0.mk hV
  have HLN := Aside0.mk (show (l1 ++ [77, 78] : List Int).length = l1.length + 2 by simp)
  have HTK := Aside0.mk (show (l1 ++ [77, 78] : List Int).take l1.length = l1 by simp)
  have hm0 : l0.length ≤ 9223372036854775807 := hr0.2.1
  have hm1 : l1.length ≤ 9223372036854775807 := hr1.2.1
  have hss : ((strOfNums c).toList == (strOfNums c).toList) = true := by simp
  have hee : (ce == ce) = true := by simp
  have hyy : (ye == ye) = true := by simp
  obtain ⟨st, hst⟩ : ∃ st, strOfNums c = st := ⟨_, rfl⟩
  rw [hst] at hss
  have HST := Aside0.mk hst
  have HB := Aside0.mk (Below.refl w.heap.size w)
  have CM := Aside0.mk (hr0)
  have CL := Aside0.mk (hr1)
  clear h hx hp hd hg hz hs ht hq hV hst hr0 hr1
  go_enter Tryz.func3, Tryz.ntmps3
  go_wp2_with (fail)
  with_reducible refine (lentRoom A1 c1 l1 _ CL.out hc1 (by omega)).mono ?_
  rintro en w2 ⟨A2, c2, rfl, hR2, hb⟩
  replace HB := Aside0.mk (HB.out.trans ((hb).mono HB.out.size))
  replace CM := Aside0.mk (Kd.C_below CM.out hb)
  replace CL := Aside0.mk (Kd.C_below CL.out hb)
  obtain ⟨_, hcc2, hC2⟩ := Kd.R_reads' hR2
  have hcl2 : l1.length ≤ c2 := by omega
  have hroom : l1.length + 2 ≤ c2 := by have := HLN.out; omega
  have CW := Aside0.mk (show (Kd.int .u8).C w2 A2 (l1.length + 2) (l1 ++ [77, 78]) from by rw [HLN.out] at hC2; exact hC2)
  have CV := Aside0.mk (show (Kd.int .u8).C w2 A2 l1.length l1 from by have h2 := Kd.C_take (m := l1.length) hC2 (by have := HLN.out; omega); rw [HTK.out] at h2; exact h2)
  clear hR2 hb hC2
  go_wp2_with (fail)
  with_reducible refine (weighhouselaw02_Own.calls A0 c0 l0 x _ CM.out hc0 HX.out).mono ?_
  rintro en w3 ⟨v3, rfl, hR3, hb⟩
  replace HB := Aside0.mk (HB.out.trans ((hb).mono HB.out.size))
  replace CM := Aside0.mk (Kd.C_below CM.out hb)
  replace CL := Aside0.mk (Kd.C_below CL.out hb)
  replace CW := Aside0.mk (Kd.C_below CW.out hb)
  replace CV := Aside0.mk (Kd.C_below CV.out hb)
  obtain ⟨A3, c3, rfl, hc3, hCc3⟩ := Kd.R_reads hR3
  have CX := Aside0.mk (hCc3)
  clear hR3 hCc3 hb
  go_wp2_with (fail)
  with_reducible refine (value_Put.calls k A3 c3 x c ce _ CX.out hc3 HP.out).mono ?_
  rintro en w4 ⟨v4, rfl, hR4, hb⟩
  replace HB := Aside0.mk (HB.out.trans ((hb).mono HB.out.size))
  replace CM := Aside0.mk (Kd.C_below CM.out hb)
  replace CL := Aside0.mk (Kd.C_below CL.out hb)
  replace CW := Aside0.mk (Kd.C_below CW.out hb)
  replace CV := Aside0.mk (Kd.C_below CV.out hb)
  replace CX := Aside0.mk (Kd.C_below CX.out hb)
  obtain ⟨A4, c4, rfl, hc4, hCc4⟩ := Kd.R_reads hR4
  have CP := Aside0.mk (hCc4)
  clear hR4 hCc4 hb
  go_wp2_with (fail)
  with_reducible refine (weighhouseref02_Put.calls k A0 c0 l0 c ce _ CM.out hc0 HD.out).mono ?_
  rintro en w5 ⟨v5, rfl, hR5, hb⟩
  replace HB := Aside0.mk (HB.out.trans ((hb).mono HB.out.size))
  replace CM := Aside0.mk (Kd.C_below CM.out hb)
  replace CL := Aside0.mk (Kd.C_below CL.out hb)
  replace CW := Aside0.mk (Kd.C_below CW.out hb)
  replace CV := Aside0.mk (Kd.C_below CV.out hb)
  replace CX := Aside0.mk (Kd.C_below CX.out hb)
  replace CP := Aside0.mk (Kd.C_below CP.out hb)
  obtain ⟨A5, c5, rfl, hc5, hCc5⟩ := Kd.R_reads hR5
  have CD := Aside0.mk (hCc5)
  clear hR5 hCc5 hb
  go_wp2_with (fail)
  with_reducible refine (value_Get.calls k A2 c2 l1 y ye _ CV.out hcl2 HG.out).mono ?_
  rintro en w6 ⟨v6, rfl, hR6, hb⟩
  replace HB := Aside0.mk (HB.out.trans ((hb).mono HB.out.size))
  replace CM := Aside0.mk (Kd.C_below CM.out hb)
  replace CL := Aside0.mk (Kd.C_below CL.out hb)
  replace CW := Aside0.mk (Kd.C_below CW.out hb)
  replace CV := Aside0.mk (Kd.C_below CV.out hb)
  replace CX := Aside0.mk (Kd.C_below CX.out hb)
  replace CP := Aside0.mk (Kd.C_below CP.out hb)
  replace CD := Aside0.mk (Kd.C_below CD.out hb)
  obtain ⟨A6, c6, rfl, hc6, hCc6⟩ := Kd.R_reads hR6
  have CY := Aside0.mk (hCc6)
  clear hR6 hCc6 hb
  go_wp2_with (fail)
  with_reducible refine (weighhouseref02_Get.calls k A1 c1 l1 z ye _ CL.out hc1 HZ.out).mono ?_
  rintro en w7 ⟨v7, rfl, hR7, hb⟩
  replace HB := Aside0.mk (HB.out.trans ((hb).mono HB.out.size))
  replace CM := Aside0.mk (Kd.C_below CM.out hb)
  replace CL := Aside0.mk (Kd.C_below CL.out hb)
  replace CW := Aside0.mk (Kd.C_below CW.out hb)
  replace CV := Aside0.mk (Kd.C_below CV.out hb)
  replace CX := Aside0.mk (Kd.C_below CX.out hb)
  replace CP := Aside0.mk (Kd.C_below CP.out hb)
  replace CD := Aside0.mk (Kd.C_below CD.out hb)
  replace CY := Aside0.mk (Kd.C_below CY.out hb)
  obtain ⟨A7, c7, rfl, hc7, hCc7⟩ := Kd.R_reads hR7
  have CZ := Aside0.mk (hCc7)
  clear hR7 hCc7 hb
  have hcp : (convert 23 9 (.slice A4 c.length c4)).run Tryz.prog w7 = .ok (.string st) w7 := by rw [← HST.out]; exact (Kd.C_string (P := Tryz.prog) (src := 23) (dst := 9) (e := 5) (c := c4) Tryz.underlying23 Tryz.underlying5 Tryz.underlying9 CP.out)
  have hcd : (convert 23 9 (.slice A5 c.length c5)).run Tryz.prog w7 = .ok (.string st) w7 := by rw [← HST.out]; exact (Kd.C_string (P := Tryz.prog) (src := 23) (dst := 9) (e := 5) (c := c5) Tryz.underlying23 Tryz.underlying5 Tryz.underlying9 CD.out)
  go_wp2_with (fail)
  with_reducible refine (weighhouselaw02_num.calls ce ce _ rfl).mono ?_
  rintro en w8 ⟨rfl, hb⟩
  replace HB := Aside0.mk (HB.out.trans ((hb.below).mono HB.out.size))
  replace CM := Aside0.mk (Kd.C_below CM.out hb.below)
  replace CL := Aside0.mk (Kd.C_below CL.out hb.below)
  replace CW := Aside0.mk (Kd.C_below CW.out hb.below)
  replace CV := Aside0.mk (Kd.C_below CV.out hb.below)
  replace CX := Aside0.mk (Kd.C_below CX.out hb.below)
  replace CP := Aside0.mk (Kd.C_below CP.out hb.below)
  replace CD := Aside0.mk (Kd.C_below CD.out hb.below)
  replace CY := Aside0.mk (Kd.C_below CY.out hb.below)
  replace CZ := Aside0.mk (Kd.C_below CZ.out hb.below)
  clear hb hcp hcd
  go_wp2_with (fail)
  with_reducible refine (weighhouselaw02_Same.calls k A6 c6 y A7 c7 z true _ CY.out hc6 CZ.out hc7 HS.out).mono ?_
  rintro en w9 ⟨rfl, hb⟩
  replace HB := Aside0.mk (HB.out.trans ((hb.below).mono HB.out.size))
  replace CM := Aside0.mk (Kd.C_below CM.out hb.below)
  replace CL := Aside0.mk (Kd.C_below CL.out hb.below)
  replace CW := Aside0.mk (Kd.C_below CW.out hb.below)
  replace CV := Aside0.mk (Kd.C_below CV.out hb.below)
  replace CX := Aside0.mk (Kd.C_below CX.out hb.below)
  replace CP := Aside0.mk (Kd.C_below CP.out hb.below)
  replace CD := Aside0.mk (Kd.C_below CD.out hb.below)
  replace CY := Aside0.mk (Kd.C_below CY.out hb.below)
  replace CZ := Aside0.mk (Kd.C_below CZ.out hb.below)
  clear hb
  go_wp2_with (fail)
  with_reducible refine (weighhouselaw02_num.calls ye ye _ rfl).mono ?_
  rintro en wa ⟨rfl, hb⟩
  replace HB := Aside0.mk (HB.out.trans ((hb.below).mono HB.out.size))
  replace CM := Aside0.mk (Kd.C_below CM.out hb.below)
  replace CL := Aside0.mk (Kd.C_below CL.out hb.below)
  replace CW := Aside0.mk (Kd.C_below CW.out hb.below)
  replace CV := Aside0.mk (Kd.C_below CV.out hb.below)
  replace CX := Aside0.mk (Kd.C_below CX.out hb.below)
  replace CP := Aside0.mk (Kd.C_below CP.out hb.below)
  replace CD := Aside0.mk (Kd.C_below CD.out hb.below)
  replace CY := Aside0.mk (Kd.C_below CY.out hb.below)
  replace CZ := Aside0.mk (Kd.C_below CZ.out hb.below)
  clear hb
  go_wp2_with (fail)
  with_reducible refine (weighhouselaw02_Same.calls k A3 c3 x A0 c0 l0 true _ CX.out hc3 CM.out hc0 HT.out).mono ?_
  rintro en wb ⟨rfl, hb⟩
  replace HB := Aside0.mk (HB.out.trans ((hb.below).mono HB.out.size))
  replace CM := Aside0.mk (Kd.C_below CM.out hb.below)
  replace CL := Aside0.mk (Kd.C_below CL.out hb.below)
  replace CW := Aside0.mk (Kd.C_below CW.out hb.below)
  replace CV := Aside0.mk (Kd.C_below CV.out hb.below)
  replace CX := Aside0.mk (Kd.C_below CX.out hb.below)
  replace CP := Aside0.mk (Kd.C_below CP.out hb.below)
  replace CD := Aside0.mk (Kd.C_below CD.out hb.below)
  replace CY := Aside0.mk (Kd.C_below CY.out hb.below)
  replace CZ := Aside0.mk (Kd.C_below CZ.out hb.below)
  clear hb
  go_wp2_with (fail)
  with_reducible refine (weighhouselaw01_Stays.calls A2 c2 l1 A1 c1 _ CW.out hroom CL.out hc1).mono ?_
  rintro en wc ⟨rfl, hb⟩
  replace HB := Aside0.mk (HB.out.trans ((hb).mono HB.out.size))
  replace CM := Aside0.mk (Kd.C_below CM.out hb)
  replace CL := Aside0.mk (Kd.C_below CL.out hb)
  replace CW := Aside0.mk (Kd.C_below CW.out hb)
  replace CV := Aside0.mk (Kd.C_below CV.out hb)
  replace CX := Aside0.mk (Kd.C_below CX.out hb)
  replace CP := Aside0.mk (Kd.C_below CP.out hb)
  replace CD := Aside0.mk (Kd.C_below CD.out hb)
  replace CY := Aside0.mk (Kd.C_below CY.out hb)
  replace CZ := Aside0.mk (Kd.C_below CZ.out hb)
  clear hb
  go_wp2_with (fail)
  with_reducible refine (weighhouselaw02_knows.calls k true _ HQ.out (HV.out.below HB.out)).mono ?_
  rintro en wd ⟨rfl, hb⟩
  replace HB := Aside0.mk (HB.out.trans ((hb).mono HB.out.size))
  replace CM := Aside0.mk (Kd.C_below CM.out hb)
  replace CL := Aside0.mk (Kd.C_below CL.out hb)
  replace CW := Aside0.mk (Kd.C_below CW.out hb)
  replace CV := Aside0.mk (Kd.C_below CV.out hb)
  replace CX := Aside0.mk (Kd.C_below CX.out hb)
  replace CP := Aside0.mk (Kd.C_below CP.out hb)
  replace CD := Aside0.mk (Kd.C_below CD.out hb)
  replace CY := Aside0.mk (Kd.C_below CY.out hb)
  replace CZ := Aside0.mk (Kd.C_below CZ.out hb)
  clear hb
  go_wp2_with (fail)
  go_ret
  exact ⟨rfl, HB.out⟩


end Go.Proofs.YtblaibigjhlblaaGreatDoor.Q
end

section
/- what the readings of the parameters of ValueBytes give -/
set_option linter.unusedVariables false
set_option linter.unusedSimpArgs false
namespace Go.Proofs.YtblaibigjhlblaaGreatDoor.OpValueBytes
open Go.RowKit Go.Proofs.YtblaibigjhlblaaGreatDoorW.PrintWords Go.Proofs.YtblaibigjhlblaaGreatDoorW.Hb Go.Proofs.YtblaibigjhlblaaGreatDoorW.Ho Go.Proofs.YtblaibigjhlblaaGreatDoor.Q

theorem opens_slice' {P : Program} {t : TypeId} {α : Type} {d : Kd α} {e B : Nat} {Q : α → Prop} (ht : P.underlying t = some (.slice e)) (hs : P.cellsOf e = d.sz) (hB : P.bytesOf e = B) (hp : Opens P d e Q) :
    Opens P (Kd.slice e d) t (fun xs => xs.length * B ≤ reachBytes ∧ xs.length ≤ maxLen ∧ ∀ x ∈ xs, Q x) := by
  subst hB
  exact opens_slice ht hs hp
def QS47 (x : S47) : Prop := ((Lit.int .i64 (x.f0)).wf = true) ∧ ((Lit.int .i64 (x.f1)).wf = true) ∧ ((x.f2).size ≤ reachBytes)
theorem open_S47 : Opens Tryz.prog k47 47 QS47 := by
  intro H enc w base spare held fuel cs x h hw
  obtain ⟨xs, n, _, hx, hl, hxl, hf⟩ := DataW.trod_struct Tryz.underlying47 h
  rw [show Tryz.prog.cellsOf 47 = 3 from by kernel_rfl] at hl
  obtain ⟨c0, c1, c2, rfl⟩ : ∃ c0 c1 c2, cs = [c0, c1, c2] := by
    clear hf hx h
    match cs, hl with
    | [c0, c1, c2], _ => exact ⟨c0, c1, c2, rfl⟩
  obtain ⟨y0, y1, y2, rfl⟩ : ∃ y0 y1 y2, xs = [y0, y1, y2] := by
    have hxl2 : xs.length = 3 := hxl
    clear hxl hf hx
    match xs, hxl2 with
    | [y0, y1, y2], _ => exact ⟨y0, y1, y2, rfl⟩
  subst hx
  have g0 : DataW.trod enc Tryz.prog w base spare held n 3 (([c0, c1, c2].drop 0).take (Tryz.prog.cellsOf 3)) = some y0 := hf 0 _ rfl
  rw [show Tryz.prog.cellsOf 3 = 1 from by kernel_rfl] at g0
  replace g0 : DataW.trod enc Tryz.prog w base spare held n 3 [c0] = some y0 := g0
  obtain ⟨v0, K0, q0⟩ := (opens_int Tryz.underlying3) enc w base spare held n _ _ g0 (fun m hm => hw m (weights_field (j := 0) (tj := 3) Tryz.underlying47 rfl rfl m hm))
  have g1 : DataW.trod enc Tryz.prog w base spare held n 3 (([c0, c1, c2].drop 1).take (Tryz.prog.cellsOf 3)) = some y1 := hf 1 _ rfl
  rw [show Tryz.prog.cellsOf 3 = 1 from by kernel_rfl] at g1
  replace g1 : DataW.trod enc Tryz.prog w base spare held n 3 [c1] = some y1 := g1
  obtain ⟨v1, K1, q1⟩ := (opens_int Tryz.underlying3) enc w base spare held n _ _ g1 (fun m hm => hw m (weights_field (j := 1) (tj := 3) Tryz.underlying47 rfl rfl m hm))
  have g2 : DataW.trod enc Tryz.prog w base spare held n 9 (([c0, c1, c2].drop 2).take (Tryz.prog.cellsOf 9)) = some y2 := hf 2 _ rfl
  rw [show Tryz.prog.cellsOf 9 = 1 from by kernel_rfl] at g2
  replace g2 : DataW.trod enc Tryz.prog w base spare held n 9 [c2] = some y2 := g2
  obtain ⟨v2, K2, q2⟩ := (opens_string Tryz.underlying9) enc w base spare held n _ _ g2 (fun m hm => hw m (weights_field (j := 2) (tj := 9) Tryz.underlying47 rfl rfl m hm))
  exact ⟨⟨v0, v1, v2⟩, ⟨[c0], [c1, c2], rfl, K0, ⟨[c1], [c2], rfl, K1, K2⟩⟩, ⟨q0, q1, q2⟩⟩
end Go.Proofs.YtblaibigjhlblaaGreatDoor.OpValueBytes
end

section
/- the pure statement of ValueBytes -/
namespace Go.Proofs.YtblaibigjhlblaaGreatDoor.PuValueBytes
open Go.RowKit Go.Proofs.YtblaibigjhlblaaGreatDoorW.PrintWords Go.Proofs.YtblaibigjhlblaaGreatDoorW.Hb Go.Proofs.YtblaibigjhlblaaGreatDoorW.Ho Go.Proofs.YtblaibigjhlblaaGreatDoor.Q Go.Proofs.YtblaibigjhlblaaGreatDoor.OpValueBytes
def Pure : Prop := ∀ (x0 : List (S47)) (x1 : List (Int)), ((x0).length * 32 ≤ reachBytes ∧ (x0).length ≤ maxLen ∧ ∀ y ∈ (x0), QS47 (y)) → ((x1).length * 1 ≤ reachBytes ∧ (x1).length ≤ maxLen ∧ ∀ y ∈ (x1), (Lit.int .u8 (y)).wf = true) → ∃ k, weighhouselaw02_ValueBytes.f k x0 x1 = some true
end Go.Proofs.YtblaibigjhlblaaGreatDoor.PuValueBytes
end

section
/- layer 2, ValueBack: the texts of values, read back (cut out of the theory of ValueTexts) -/
set_option linter.unusedVariables false
set_option linter.unusedSimpArgs false
namespace Go.Proofs.YtblaibigjhlblaaGreatDoor.Th
open Go.RowKit Go.Proofs.YtblaibigjhlblaaGreatDoorW.PrintWords Go.Proofs.YtblaibigjhlblaaGreatDoorW.Hb Go.Proofs.YtblaibigjhlblaaGreatDoor.Q

theorem w64 {x : Int} (h0 : -9223372036854775808 ≤ x) (h1 : x ≤ 9223372036854775807) : wrap64 x = x := by unfold wrap64; omega
theorem hexU_len (l : List UInt8) : (hexU l).length = 2 * l.length := by
  induction l with
  | nil => rfl
  | cons a l ih =>
    have : (hexU (a :: l)).length = 2 + (hexU l).length := by simp [hexU]; omega
    rw [this, ih, List.length_cons]; omega
theorem emptyL : (⟨#[]⟩ : ByteArray).toList = [] := by rw [ByteArray.toList_eq]
/-- A value is in order. -/
def okv (a b : Int) (s : ByteArray) : Bool :=
  if a = 1 then s.toList == [] else if a = 2 then (if b = 0 then decide ((s.size : Int) ≤ 256) else false) else if a = 3 then (if b = 0 then s.toList == [] else if b = 1 then s.toList == [] else false) else false
theorem text_some (a b : Int) (s : ByteArray) (h : okv a b s = true) (h0 : -9223372036854775808 ≤ b) (h1 : b ≤ 9223372036854775807) : ∃ t, value_text.f a b s = some t ∧ t.size ≤ 600 := by
  unfold okv at h
  unfold value_text.f
  by_cases a1 : a = 1
  · refine ⟨_, by rw [if_pos a1, if_pos ⟨h0, h1⟩], ?_⟩
    have := Lib.itoa_length_le b h0 h1
    rw [Lib.size_eq]
    simpa using (by omega : (Lib.itoa b).length ≤ 600)
  · rw [if_neg a1] at h ⊢
    by_cases a2 : a = 2
    · rw [if_pos a2] at h
      have hs : s.size ≤ 256 := by
        split at h
        · have := of_decide_eq_true h; omega
        · cases h
      have hl := hexU_len s.data.toList
      have hz := Lib.size_eq s
      refine ⟨_, by rw [if_neg (by omega), if_pos (by omega)], ?_⟩
      rw [Lib.size_eq]
      show (textU s).length ≤ 600
      simp only [textU, List.length_cons, List.length_append, List.length_nil]
      omega
    · rw [if_neg a2] at h
      by_cases a3 : a = 3
      · rw [if_pos a3]
        refine ⟨_, rfl, ?_⟩
        cases (b == 1) <;> decide
      · rw [if_neg a3] at h
        cases h
def allF (p : Nat → Bool) : Nat → Nat → Bool
  | 0, _ => true
  | d + 1, i => if p i = true then allF p d (i + 1) else false
theorem allF_true {p : Nat → Bool} (n : Nat) (hp : ∀ i, i < n → p i = true) : ∀ d i, i + d = n → allF p d i = true := by
  intro d
  induction d with
  | zero => intro i _; rfl
  | succ d ih =>
    intro i hi
    show (if p i = true then allF p d (i + 1) else false) = true
    rw [if_pos (hp i (by omega))]
    exact ih (i + 1) (by omega)
theorem scan_ev (g : Nat → Int → Option Bool) (n : Nat) (p : Nat → Bool)
    (hs : ∀ k (i : Nat), i < n → g (k + 1) (i : Int) = if p i = true then g k ((i + 1 : Nat) : Int) else some false)
    (he : ∀ k, g (k + 1) (n : Int) = some true) : ∀ d i, i + d = n → Ev (fun k => g k (i : Int)) (allF p d i) := by
  intro d
  induction d with
  | zero =>
    intro i hi
    obtain rfl : i = n := hi
    exact Ev.step (f := fun _ => some true) (fun k => he k) (Ev.now _)
  | succ d ih =>
    intro i hi
    show Ev _ (if p i = true then allF p d (i + 1) else false)
    by_cases hp : p i = true
    · rw [if_pos hp]
      refine Ev.step (f := fun k => g k ((i + 1 : Nat) : Int)) (fun k => ?_) (ih (i + 1) (by omega))
      show g (k + 1) (i : Int) = _
      rw [hs k i (by omega), if_pos hp]
    · rw [if_neg hp]
      refine Ev.step (f := fun _ => some false) (fun k => ?_) (Ev.now _)
      show g (k + 1) (i : Int) = _
      rw [hs k i (by omega), if_neg hp]
theorem right_ok (a b : Int) (s : ByteArray) : value_Right.f a b s = some (okv a b s) := by
  unfold value_Right.f okv value_Number.f value_Text.f value_Truth.f
  by_cases h1 : a = 1
  · rw [if_pos h1, if_pos h1]
    simp [h1, emptyL]
  · rw [if_neg h1, if_neg h1]
    by_cases h2 : a = 2
    · rw [if_pos h2, if_pos h2]
      by_cases hb : b = 0
      · simp [h2, hb]
      · simp [h2, hb]
    · rw [if_neg h2, if_neg h2]
      by_cases h3 : a = 3
      · rw [if_pos h3, if_pos h3]
        by_cases hb : b = 0
        · by_cases hs : s.toList = [] <;> simp [h3, hb, hs, emptyL]
        · by_cases hb1 : b = 1
          · by_cases hs : s.toList = [] <;> simp [h3, hb1, hs, emptyL]
          · simp [h3, hb, hb1, emptyL]
      · rw [if_neg h3, if_neg h3]
def okS (s : S47) : Bool := okv s.f0 s.f1 s.f2
def allOk (l : List S47) : Bool := allF (fun i => okS (rd_T47 l (i : Int))) l.length 0
theorem all_ev (l : List S47) (hm : l.length ≤ 4611686018427387904) : Ev (fun k => value_all.f k l) (allOk l) := by
  refine scan_ev (fun k i => value_all.l0 k l (l.length : Int) i) l.length _ (fun k i hi => ?_) (fun k => ?_) l.length 0 (by omega)
  · simp only [value_all.l0]
    rw [if_pos (by omega), if_pos (by omega), if_pos (by omega), right_ok, Option.bind_some, w64 (by omega) (by omega)]
    rfl
  · simp only [value_all.l0]
    rw [if_neg (by omega)]
theorem allF_get {p : Nat → Bool} : ∀ d i, allF p d i = true → ∀ j, i ≤ j → j < i + d → p j = true := by
  intro d
  induction d with
  | zero => intro i _ j h1 h2; omega
  | succ d ih =>
    intro i h j h1 h2
    have h' : (if p i = true then allF p d (i + 1) else false) = true := h
    by_cases hp : p i = true
    · rw [if_pos hp] at h'
      by_cases e : j = i
      · rw [e]; exact hp
      · exact ih (i + 1) h' j (by omega) (by omega)
    · rw [if_neg hp] at h'; cases h'
theorem rdT (l : List S47) (i : Nat) (h : i < l.length) : rd_T47 l (i : Int) = l[i] := by simp [rd_T47, List.getD_eq_getElem?_getD, h]
theorem ok_get {l : List S47} (h : allOk l = true) (i : Nat) (hi : i < l.length) : okv l[i].f0 l[i].f1 l[i].f2 = true := by
  have := allF_get l.length 0 h i (by omega) (by omega)
  rw [rdT l i hi] at this
  exact this
theorem dd_small {u : Nat} (h : u < 10) : Lib.decDigits u = [UInt8.ofNat (48 + u)] := by rw [Lib.decDigits, dif_pos h]
theorem dd_big {u : Nat} (h : ¬ u < 10) : Lib.decDigits u = Lib.decDigits (u / 10) ++ [UInt8.ofNat (48 + u % 10)] := by rw [Lib.decDigits, dif_neg h]
theorem dg_nat (d : Nat) (h : d < 10) : (UInt8.ofNat (48 + d)).toNat = 48 + d := by
  rw [UInt8.toNat_ofNat']
  omega
theorem dd_head (u : Nat) : ∃ c r, Lib.decDigits u = c :: r ∧ 48 ≤ c.toNat ∧ c.toNat ≤ 57 := by
  induction u using Nat.strongRecOn with
  | ind u ih =>
    by_cases h : u < 10
    · exact ⟨_, [], dd_small h, by rw [dg_nat u h]; omega, by rw [dg_nat u h]; omega⟩
    · obtain ⟨c, r, e, h1, h2⟩ := ih (u / 10) (by omega)
      exact ⟨c, r ++ [UInt8.ofNat (48 + u % 10)], by rw [dd_big h, e]; rfl, h1, h2⟩
theorem dd_len : ∀ (m u : Nat), u < 10 ^ (m + 1) → (Lib.decDigits u).length ≤ m + 1 := by
  intro m
  induction m with
  | zero => intro u h; rw [dd_small (by omega)]; simp
  | succ m ih =>
    intro u h
    by_cases hu : u < 10
    · rw [dd_small hu]; simp
    · have pw : 10 ^ (m + 1 + 1) = 10 * 10 ^ (m + 1) := by rw [Nat.pow_succ, Nat.mul_comm]
      have := ih (u / 10) (by omega)
      rw [dd_big hu, List.length_append]
      simp
      omega
theorem pu_dd (u : Nat) : ∀ r : List UInt8, u < 18446744073709551616 → Lib.parseUint10 0 (Lib.decDigits u ++ r) = Lib.parseUint10 u r := by
  induction u using Nat.strongRecOn with
  | ind u ih =>
    intro r hu
    by_cases h : u < 10
    · rw [dd_small h]
      show Lib.parseUint10 0 (UInt8.ofNat (48 + u) :: r) = _
      simp only [Lib.parseUint10]
      rw [dg_nat u h, if_pos (by omega), if_neg (by omega), if_neg (by omega), show 0 * 10 + (48 + u - 48) = u by omega]
    · rw [dd_big h, List.append_assoc, ih (u / 10) (by omega) _ (by omega)]
      show Lib.parseUint10 (u / 10) (UInt8.ofNat (48 + u % 10) :: r) = _
      simp only [Lib.parseUint10]
      rw [dg_nat _ (by omega), if_pos (by omega), if_neg (by omega), if_neg (by omega), show u / 10 * 10 + (48 + u % 10 - 48) = u by omega]
theorem pm_dd (u : Nat) (hu : u < 18446744073709551616) : Lib.parseMag (Lib.decDigits u) = .ok u := by
  obtain ⟨c, r, e, _⟩ := dd_head u
  have := pu_dd u [] hu
  rw [List.append_nil] at this
  unfold Lib.parseMag
  rw [if_neg (by rw [e]; simp), this]
  rfl
theorem atoi_itoa (n : Int) (h0 : -9223372036854775808 ≤ n) (h1 : n ≤ 9223372036854775807) : Lib.atoiAll (Lib.itoa n) = .ok n := by
  unfold Lib.itoa
  by_cases hn : n < 0
  · rw [if_pos hn, Lib.atoiAll_minus, pm_dd _ (by omega)]
    simp only [Lib.signed]
    rw [if_neg (by omega)]
    congr 1
    omega
  · rw [if_neg hn]
    obtain ⟨c, r, e, g1, g2⟩ := dd_head n.toNat
    rw [e, Lib.atoiAll_plain c r (by omega) (by omega), ← e, pm_dd _ (by omega)]
    simp only [Lib.signless]
    rw [if_neg (by omega)]
    congr 1
    omega
theorem unhexU_two (a b : UInt8) (r acc : List UInt8) : unhexU (a :: b :: r) acc = if ixB a < 0 ∨ ixB b < 0 then none else unhexU r (acc ++ [(ixB a * 16 + ixB b).toNat.toUInt8]) := by rw [unhexU]
theorem ix_hex : ∀ j : Nat, j < 16 → ixB (hexC j) = (j : Int) := by decide +kernel
theorem unhex_hex (b : List UInt8) : ∀ r acc : List UInt8, unhexU (hexU b ++ r) acc = unhexU r (acc ++ b) := by
  induction b with
  | nil => intro r acc; simp [hexU]
  | cons c b ih =>
    intro r acc
    have c0 := c.toNat_lt
    have e : hexU (c :: b) ++ r = hexC (c.toNat / 16) :: hexC (c.toNat % 16) :: (hexU b ++ r) := by simp [hexU]
    rw [e, unhexU_two, ix_hex _ (by omega), ix_hex _ (by omega), if_neg (by omega), ih]
    have eb : (((c.toNat / 16 : Nat) : Int) * 16 + ((c.toNat % 16 : Nat) : Int)).toNat.toUInt8 = c := by
      rw [show (((c.toNat / 16 : Nat) : Int) * 16 + ((c.toNat % 16 : Nat) : Int)).toNat = c.toNat by omega]
      simp [Nat.toUInt8]
    rw [eb]
    simp
/-- The text L is the value's. -/
def IsText (a b : Int) (c : ByteArray) (L : List UInt8) : Prop :=
  okv a b c = true ∧ -9223372036854775808 ≤ b ∧ b ≤ 9223372036854775807 ∧ ∃ t : ByteArray, value_text.f a b c = some t ∧ t.data.toList = L
theorem nilB {s : ByteArray} (h : s.toList = []) : s = ⟨#[]⟩ := by
  rw [ByteArray.toList_eq] at h
  cases s with
  | mk d => simpa using h
/-- The three kinds of values that may be, and their texts. -/
theorem isText_cases {a b : Int} {c : ByteArray} {L : List UInt8} (h : IsText a b c L) :
    (a = 1 ∧ c = ⟨#[]⟩ ∧ L = Lib.itoa b ∧ -9223372036854775808 ≤ b ∧ b ≤ 9223372036854775807) ∨ (a = 2 ∧ b = 0 ∧ c.size ≤ 256 ∧ L = textU c) ∨ (a = 3 ∧ b = 1 ∧ c = ⟨#[]⟩ ∧ L = [116, 114, 117, 101]) ∨ (a = 3 ∧ b = 0 ∧ c = ⟨#[]⟩ ∧ L = [102, 97, 108, 115, 101]) := by
  obtain ⟨h1, h2, h3, t, h4, rfl⟩ := h
  unfold okv at h1
  unfold value_text.f at h4
  by_cases a1 : a = 1
  · rw [if_pos a1] at h1
    rw [if_pos a1, if_pos ⟨h2, h3⟩] at h4
    obtain rfl := Option.some.inj h4
    exact .inl ⟨a1, nilB (by simpa using h1), rfl, h2, h3⟩
  · rw [if_neg a1] at h1 h4
    by_cases a2 : a = 2
    · rw [if_pos a2] at h1
      rw [if_neg (by omega)] at h4
      split at h1
      · rename_i hb
        have := of_decide_eq_true h1
        rw [if_pos (by omega)] at h4
        obtain rfl := Option.some.inj h4
        exact .inr (.inl ⟨a2, hb, by omega, rfl⟩)
      · cases h1
    · rw [if_neg a2] at h1
      by_cases a3 : a = 3
      · rw [if_pos a3] at h1 h4
        obtain rfl := Option.some.inj h4
        split at h1
        · rename_i hb
          subst hb
          exact .inr (.inr (.inr ⟨a3, rfl, nilB (by simpa using h1), rfl⟩))
        · split at h1
          · rename_i hb
            subst hb
            exact .inr (.inr (.inl ⟨a3, rfl, nilB (by simpa using h1), rfl⟩))
          · cases h1
      · rw [if_neg a3] at h1
        cases h1
theorem isText_int {b : Int} (h0 : -9223372036854775808 ≤ b) (h1 : b ≤ 9223372036854775807) : IsText 1 b ⟨#[]⟩ (Lib.itoa b) := by
  refine ⟨by unfold okv; rw [if_pos rfl, emptyL]; rfl, h0, h1, ⟨(Lib.itoa b).toArray⟩, by unfold value_text.f; rw [if_pos rfl, if_pos ⟨h0, h1⟩], rfl⟩
theorem isText_bytes {c : ByteArray} (h : c.size ≤ 256) : IsText 2 0 c (textU c) := by
  refine ⟨by unfold okv; rw [if_neg (by omega), if_pos rfl, if_pos rfl]; exact decide_eq_true (by omega), by omega, by omega, ⟨(textU c).toArray⟩, by unfold value_text.f; rw [if_neg (by omega), if_neg (by omega), if_pos (by omega)], rfl⟩
theorem isText_true : IsText 3 1 ⟨#[]⟩ [116, 114, 117, 101] := by
  refine ⟨by unfold okv; rw [if_neg (by omega), if_neg (by omega), if_pos rfl, if_neg (by omega), if_pos rfl, emptyL]; rfl, by omega, by omega, _, by unfold value_text.f; rw [if_neg (by omega), if_pos rfl], rfl⟩
theorem isText_false : IsText 3 0 ⟨#[]⟩ [102, 97, 108, 115, 101] := by
  refine ⟨by unfold okv; rw [if_neg (by omega), if_neg (by omega), if_pos rfl, if_pos rfl, emptyL]; rfl, by omega, by omega, _, by unfold value_text.f; rw [if_neg (by omega), if_pos rfl], rfl⟩
theorem itoa_head (n : Int) : ∃ c r, Lib.itoa n = c :: r ∧ (c.toNat = 45 ∨ 48 ≤ c.toNat ∧ c.toNat ≤ 57) := by
  unfold Lib.itoa
  split
  · exact ⟨45, _, rfl, .inl rfl⟩
  · obtain ⟨c, r, e, h⟩ := dd_head n.toNat
    exact ⟨c, r, e, .inr h⟩
/-! ### the program -/
theorem pre_int {s : ByteArray} {n : Int} (h0 : -9223372036854775808 ≤ n) (h1 : n ≤ 9223372036854775807) (hs : s.data.toList = Lib.itoa n) : preV s = ((1, n, ⟨#[]⟩), false) := by
  obtain ⟨c, r, e, hc⟩ := itoa_head n
  have hp : Lib.hasPrefix s.data.toList [120, 39] = false := by
    rw [hs, e]
    unfold Lib.hasPrefix
    have : ((120 : UInt8) == c) = false := by
      rw [beq_eq_false_iff_ne]
      rintro rfl
      have : (120 : UInt8).toNat = 120 := rfl
      omega
    simp [List.isPrefixOf, this]
  unfold preV
  rw [hp, if_neg (by decide), hs, atoi_itoa n h0 h1]
theorem pre_bytes {s c : ByteArray} (hs : s.data.toList = textU c) : preV s = ((2, 0, c), false) := by
  have hp : Lib.hasPrefix s.data.toList [120, 39] = true := by
    rw [hs]
    unfold Lib.hasPrefix textU
    simp [List.isPrefixOf]
  have ht : Lib.trimPrefix s.data.toList [120, 39] = hexU c.data.toList ++ [39] := by
    unfold Lib.trimPrefix
    rw [hp, if_pos rfl, hs]
    rfl
  have hu : unhexU (hexU c.data.toList ++ [39]) [] = some c.data.toList := by
    rw [unhex_hex, List.nil_append, unhexU]
    simp
  unfold preV
  rw [hp, if_pos rfl, ht, hu]
theorem pre_true {s : ByteArray} (hs : s.data.toList = [116, 114, 117, 101]) : preV s = ((3, 1, ⟨#[]⟩), false) := by
  have hp : Lib.hasPrefix [116, 114, 117, 101] [120, 39] = false := by decide
  have ha : Lib.atoiAll [116, 114, 117, 101] = Lib.NumEnd.syntax := by decide
  unfold preV trueV
  rw [ByteArray.toList_eq, hs, hp, if_neg (by decide), ha]
  rfl
theorem pre_false {s : ByteArray} (hs : s.data.toList = [102, 97, 108, 115, 101]) : preV s = ((3, 0, ⟨#[]⟩), false) := by
  have hp : Lib.hasPrefix [102, 97, 108, 115, 101] [120, 39] = false := by decide
  have ha : Lib.atoiAll [102, 97, 108, 115, 101] = Lib.NumEnd.syntax := by decide
  unfold preV trueV
  rw [ByteArray.toList_eq, hs, hp, if_neg (by decide), ha]
  rfl
theorem pre_text {a b : Int} {c s : ByteArray} (h : IsText a b c s.data.toList) : preV s = ((a, b, c), false) := by
  rcases isText_cases h with ⟨rfl, rfl, h1, h2, h3⟩ | ⟨rfl, rfl, h1, h2⟩ | ⟨rfl, rfl, rfl, h1⟩ | ⟨rfl, rfl, rfl, h1⟩
  · exact pre_int h2 h3 h1
  · exact pre_bytes h2
  · exact pre_true h1
  · exact pre_false h1
theorem pre_bounds (s : ByteArray) : -9223372036854775808 ≤ (preV s).1.2.1 ∧ (preV s).1.2.1 ≤ 9223372036854775807 := by
  have ht : 0 ≤ trueV s ∧ trueV s ≤ 1 := by unfold trueV; split <;> omega
  unfold preV
  split
  · split
    · dsimp only; omega
    · dsimp only; omega
  · split
    · rename_i n hn
      exact Lib.atoiAll_bounds hn
    · dsimp only; omega
theorem word_prog (s : ByteArray) (hs : s.size ≤ 281474976710656) : ∃ a b c ok, value_word.f s = some (a, b, c, ok) ∧ (ok = true → IsText a b c s.data.toList) ∧ ∀ a' b' c', IsText a' b' c' s.data.toList → (a', b', c') = (a, b, c) ∧ ok = true := by
  have key : ∀ a' b' c', IsText a' b' c' s.data.toList → value_word.f s = some (a', b', c', true) := by
    intro a' b' c' h
    obtain ⟨h1, h2, h3, t, h4, h5⟩ := id h
    unfold value_word.f
    rw [if_neg (by omega), pre_text h, if_neg (by simp), right_ok, Option.bind_some, h1, if_pos rfl]
    dsimp only
    rw [h4, Option.bind_some, ByteArray.toList_eq, ByteArray.toList_eq, h5]
    simp
  have tot : ∃ a b c ok, value_word.f s = some (a, b, c, ok) ∧ (ok = true → IsText a b c s.data.toList) := by
    unfold value_word.f
    rw [if_neg (by omega)]
    by_cases hp : (preV s).2 = true
    · rw [if_pos hp]
      exact ⟨_, _, _, _, rfl, fun h => by cases h⟩
    · rw [if_neg hp, right_ok, Option.bind_some]
      by_cases hk : okv (preV s).1.1 (preV s).1.2.1 (preV s).1.2.2 = true
      · obtain ⟨t, e1, _⟩ := text_some _ _ _ hk (pre_bounds s).1 (pre_bounds s).2
        rw [if_pos hk, e1, Option.bind_some]
        refine ⟨_, _, _, _, rfl, fun h => ⟨hk, (pre_bounds s).1, (pre_bounds s).2, t, e1, ?_⟩⟩
        rw [ByteArray.toList_eq, ByteArray.toList_eq] at h
        simpa using h
      · rw [if_neg hk]
        exact ⟨_, _, _, _, rfl, fun h => by cases h⟩
  obtain ⟨a, b, c, ok, e, h⟩ := tot
  refine ⟨a, b, c, ok, e, h, fun a' b' c' h' => ?_⟩
  have := key a' b' c' h'
  rw [e] at this
  simp only [Option.some.injEq, Prod.mk.injEq] at this
  obtain ⟨rfl, rfl, rfl, rfl⟩ := this
  exact ⟨rfl, rfl⟩
/-! ### no text holds a space -/
theorem dd_no (u : Nat) : ∀ x ∈ Lib.decDigits u, x ≠ 32 := by
  induction u using Nat.strongRecOn with
  | ind u ih =>
    intro x hx
    by_cases h : u < 10
    · rw [dd_small h, List.mem_singleton] at hx
      rintro rfl
      have := dg_nat u h
      rw [← hx] at this
      have e : (32 : UInt8).toNat = 32 := rfl
      omega
    · rw [dd_big h, List.mem_append, List.mem_singleton] at hx
      rcases hx with hx | hx
      · exact ih (u / 10) (by omega) x hx
      · rintro rfl
        have := dg_nat (u % 10) (by omega)
        rw [← hx] at this
        have e : (32 : UInt8).toNat = 32 := rfl
        omega
theorem hexC_no : ∀ j : Nat, j < 16 → hexC j ≠ 32 := by decide +kernel
theorem hexU_no (l : List UInt8) : ∀ x ∈ hexU l, x ≠ 32 := by
  intro x hx
  unfold hexU at hx
  obtain ⟨c, _, hc⟩ := List.mem_flatMap.1 hx
  have := c.toNat_lt
  simp only [List.mem_cons, List.not_mem_nil, or_false] at hc
  rcases hc with rfl | rfl
  · exact hexC_no _ (by omega)
  · exact hexC_no _ (by omega)
theorem text_no {a b : Int} {c : ByteArray} {L : List UInt8} (h : IsText a b c L) : (∀ x ∈ L, x ≠ 32) ∧ L ≠ [] := by
  rcases isText_cases h with ⟨rfl, rfl, rfl, h2, h3⟩ | ⟨rfl, rfl, h1, rfl⟩ | ⟨rfl, rfl, rfl, rfl⟩ | ⟨rfl, rfl, rfl, rfl⟩
  · refine ⟨?_, ?_⟩
    · unfold Lib.itoa
      split
      · intro x hx
        rcases List.mem_cons.1 hx with rfl | hx
        · decide
        · exact dd_no _ x hx
      · exact dd_no _
    · obtain ⟨c0, r, e, _⟩ := itoa_head b
      rw [e]
      simp
  · refine ⟨fun x hx => ?_, by simp [textU]⟩
    simp only [textU, List.mem_cons, List.mem_append, List.not_mem_nil, or_false] at hx
    rcases hx with rfl | rfl | hx | rfl
    · decide
    · decide
    · exact hexU_no _ x hx
    · decide
  · exact ⟨by decide, by decide⟩
  · exact ⟨by decide, by decide⟩
end Go.Proofs.YtblaibigjhlblaaGreatDoor.Th
end

section
/- layer 2: values as bytes, by the program and by the document -/
set_option linter.unusedVariables false
set_option linter.unusedSimpArgs false
namespace Go.Proofs.YtblaibigjhlblaaGreatDoor.Th
open Go.RowKit Go.Proofs.YtblaibigjhlblaaGreatDoorW.PrintWords Go.Proofs.YtblaibigjhlblaaGreatDoorW.Hb Go.Proofs.YtblaibigjhlblaaGreatDoor.Q

theorem refRight_ok (a b : Int) (s : ByteArray) : weighhouseref02_Right.f a b s = some (okv a b s) := by
  unfold weighhouseref02_Right.f okv
  repeat' split
  all_goals first | rfl | (exfalso; omega)
theorem refAll_ev (l : List S47) (hm : l.length ≤ 4611686018427387904) : Ev (fun k => weighhouseref02_All.f k l) (allOk l) := by
  refine scan_ev (fun k i => weighhouseref02_All.l0 k l i) l.length _ (fun k i hi => ?_) (fun k => ?_) l.length 0 (by omega)
  · simp only [weighhouseref02_All.l0]
    rw [if_pos (by omega), if_pos (by omega), refRight_ok, Option.bind_some, w64 (by omega) (by omega)]
    rfl
  · simp only [weighhouseref02_All.l0]
    rw [if_neg (by omega)]
theorem ok_mem {l : List S47} (h : allOk l = true) : ∀ v ∈ l, okv v.f0 v.f1 v.f2 = true := by
  intro v hv
  obtain ⟨i, hi, rfl⟩ := List.mem_iff_getElem.1 hv
  exact ok_get h i hi
theorem ok_of {l : List S47} (h : ∀ v ∈ l, okv v.f0 v.f1 v.f2 = true) : allOk l = true := by
  unfold allOk
  refine allF_true l.length (fun i hi => ?_) l.length 0 (by omega)
  unfold okS
  rw [rdT l i hi]
  exact h _ (List.getElem_mem hi)
theorem okv_P {v : S47} (h : okv v.f0 v.f1 v.f2 = true) : okP v = true := by
  unfold okv at h
  simp only [okP, Bool.or_eq_true, Bool.and_eq_true, decide_eq_true_eq]
  by_cases a1 : v.f0 = 1
  · exact .inl (.inl a1)
  · rw [if_neg a1] at h
    by_cases a2 : v.f0 = 2
    · rw [if_pos a2] at h
      split at h
      · have := of_decide_eq_true h
        exact .inl (.inr ⟨a2, by omega⟩)
      · cases h
    · rw [if_neg a2] at h
      by_cases a3 : v.f0 = 3
      · rw [if_pos a3] at h
        split at h
        · exact .inr ⟨a3, by omega, by omega⟩
        · split at h
          · exact .inr ⟨a3, by omega, by omega⟩
          · cases h
      · rw [if_neg a3] at h
        cases h
theorem all_P {l : List S47} (h : allOk l = true) : l.all okP = true := List.all_eq_true.2 (fun v hv => okv_P (ok_mem h v hv))
/-! ### the document's bytes -/
theorem sh64 (n : Int) (k : Nat) (hk : k ≤ 64) : shr .u64 n (k : Int) = n / 2 ^ k := by
  unfold shr
  rw [Int.toNat_natCast, show IntKind.u64.bits = 64 from rfl, Nat.min_eq_left hk]
theorem number_is (x : Int) : weighhouseref01_Number.f 9 x = some (bigL (IntKind.u64.wrap x) 8) := by
  unfold weighhouseref01_Number.f
  have st : ∀ (k i : Nat) (l : List Int), i ≤ 56 → l.length ≤ 8 → weighhouseref01_Number.l0 (k + 1) x l (i : Int) = weighhouseref01_Number.l0 k x (l ++ [(IntKind.u64.wrap x / 2 ^ i) % 256]) ((i : Int) - 8) := by
    intro k i l hi hl
    have h1 : IntKind.u64.wrap (i : Int) = (i : Int) := by simp [IntKind.wrap, IntKind.bits, IntKind.signed]; omega
    have h2 : wrap64 ((i : Int) - 8) = (i : Int) - 8 := by unfold wrap64; omega
    rw [weighhouseref01_Number.l0, h1, h2, if_pos (by omega), if_pos (by omega), if_pos (by omega), sh64 _ _ (by omega)]
  rw [show (56 : Int) = ((56 : Nat) : Int) from rfl, st 8 56 [] (by omega) (by simp), show ((56 : Nat) : Int) - 8 = ((48 : Nat) : Int) from rfl, st 7 48 _ (by omega) (by simp), show ((48 : Nat) : Int) - 8 = ((40 : Nat) : Int) from rfl, st 6 40 _ (by omega) (by simp), show ((40 : Nat) : Int) - 8 = ((32 : Nat) : Int) from rfl, st 5 32 _ (by omega) (by simp), show ((32 : Nat) : Int) - 8 = ((24 : Nat) : Int) from rfl, st 4 24 _ (by omega) (by simp), show ((24 : Nat) : Int) - 8 = ((16 : Nat) : Int) from rfl, st 3 16 _ (by omega) (by simp), show ((16 : Nat) : Int) - 8 = ((8 : Nat) : Int) from rfl, st 2 8 _ (by omega) (by simp), show ((8 : Nat) : Int) - 8 = ((0 : Nat) : Int) from rfl, st 1 0 _ (by omega) (by simp)]
  rw [weighhouseref01_Number.l0, if_neg (by decide)]
  simp [bigL, bigB, List.range_succ]
theorem number_ev (x : Int) : Ev (fun k => weighhouseref01_Number.f k x) (bigL (IntKind.u64.wrap x) 8) := Ev.of (fun k => weighhouseref01_Number.mono x k) (number_is x)
theorem text_is (s : ByteArray) (h : s.size ≤ 65535) : weighhouseref01_Text.f s = some (textB s) := by
  unfold weighhouseref01_Text.f textB
  have h1 : wrap64 ((s.size : Int) / 256) = (s.size : Int) / 256 := by unfold wrap64; omega
  have h2 : bigL (s.size : Int) 2 = [(s.size : Int) / 256 % 256, (s.size : Int) % 256] := by simp [bigL, bigB, List.range_succ]
  rw [h1, h2, Option.bind_some, if_pos (by simp; omega)]
theorem bytes_ev (l : List S47) (hl : l.length ≤ 255) (hok : allOk l = true) : Ev (fun k => weighhouseref02_BytesOf.f k l) (putB l) := by
  have hP : ∀ v ∈ l, okP v = true := List.all_eq_true.1 (all_P hok)
  have loop : ∀ d i : Nat, i + d = l.length → Ev (fun k => weighhouseref02_BytesOf.l0 k l ((l.length : Int) :: pvals (l.take i)) (i : Int)) (putB l) := by
    intro d
    induction d with
    | zero =>
      intro i hi
      refine Ev.step (f := fun _ => some (putB l)) (fun k => ?_) (Ev.now _)
      simp only [weighhouseref02_BytesOf.l0]
      rw [if_neg (by omega), List.take_of_length_le (by omega)]
      rfl
    | succ d ih =>
      intro i hi
      have hil : i < l.length := by omega
      have e1 : rd_T47 l (i : Int) = l[i] := rdT l i hil
      have hv := okP_cases (hP _ (List.getElem_mem hil))
      have hlen := pvals_len (l.take i) (fun v hv => hP v (List.mem_of_mem_take hv))
      rw [List.length_take] at hlen
      have pt := pvals_take l i l[i] (List.getElem?_eq_getElem hil)
      have nx := ih (i + 1) (by omega)
      rw [pt] at nx
      obtain ⟨L, hL⟩ : ∃ L, (l.length : Int) :: pvals (l.take i) = L := ⟨_, rfl⟩
      have hLL : L.length ≤ 66046 := by rw [← hL]; simp only [List.length_cons]; omega
      have nx2 : Ev (fun k => weighhouseref02_BytesOf.l0 k l (L ++ pval l[i]) ((i + 1 : Nat) : Int)) (putB l) := by rw [← hL]; exact nx
      rw [hL]
      obtain ⟨v, hvv⟩ : ∃ v, l[i] = v := ⟨_, rfl⟩
      rw [hvv] at hv e1 nx2
      obtain ⟨f0, f1, f2⟩ := v
      dsimp only at hv
      have hf : f0 % 256 = f0 := by omega
      by_cases h1 : f0 = 1
      · have hp : L ++ pval ⟨f0, f1, f2⟩ = (L ++ [f0]) ++ bigL (IntKind.u64.wrap f1) 8 := by unfold pval; rw [if_pos h1]; simp
        rw [hp] at nx2
        refine Ev.step (f := fun k => (weighhouseref01_Number.f k f1).bind fun t => if (L ++ [f0]).length + t.length < 140737488355328 then weighhouseref02_BytesOf.l0 k l ((L ++ [f0]) ++ t) ((i + 1 : Nat) : Int) else none) (fun k => ?_) (Ev.bind (number_ev f1) (Ev.congr (fun k => if_pos (by rw [bigL_len', List.length_append]; simp; omega)) nx2))
        simp only [weighhouseref02_BytesOf.l0]
        rw [if_pos (by omega), if_pos (by omega), if_pos (by omega), e1, Option.bind_some, hf, if_pos h1, w64 (by omega) (by omega)]
        rfl
      · by_cases h2 : f0 = 2
        · have hs : f2.size ≤ 256 := by omega
          have hp : L ++ pval ⟨f0, f1, f2⟩ = (L ++ [f0]) ++ textB f2 := by unfold pval; rw [if_neg h1, if_pos h2]; simp
          rw [hp] at nx2
          refine Ev.step (fun k => ?_) nx2
          simp only [weighhouseref02_BytesOf.l0]
          rw [if_pos (by omega), if_pos (by omega), if_pos (by omega), e1, Option.bind_some, hf, if_neg h1, if_pos h2, text_is f2 (by omega), Option.bind_some, if_pos (by rw [textB_len, List.length_append]; simp; omega), w64 (by omega) (by omega)]
          rfl
        · have h3 : f0 = 3 := by omega
          have hf1 : f1 % 256 = f1 := by omega
          have hp : L ++ pval ⟨f0, f1, f2⟩ = (L ++ [f0]) ++ [f1] := by unfold pval; rw [if_neg h1, if_neg h2]; simp
          rw [hp] at nx2
          refine Ev.step (fun k => ?_) nx2
          simp only [weighhouseref02_BytesOf.l0]
          rw [if_pos (by omega), if_pos (by omega), if_pos (by omega), e1, Option.bind_some, hf, if_neg h1, if_neg h2, if_pos h3, if_pos (by rw [List.length_append]; simp; omega), hf1, w64 (by omega) (by omega)]
          rfl
  refine Ev.congr (fun k => ?_) (loop l.length 0 (by omega))
  unfold weighhouseref02_BytesOf.f
  rw [show ((l.length : Int)) % 256 = (l.length : Int) by omega]
  rfl
/-- What Put gives. -/
def putR (l : List S47) : List Int × Int := if 255 < l.length then ([], 6) else if allOk l = true then (putB l, 0) else ([], 1)
theorem put_ev (l : List S47) (hm : l.length ≤ 4398046511104) : Ev (fun k => value_Put.f k l) (putR l) := by
  unfold putR
  by_cases hb : 255 < l.length
  · rw [if_pos hb]
    refine Ev.congr (fun k => ?_) (Ev.now _)
    unfold value_Put.f
    rw [if_pos hb]
  · rw [if_neg hb]
    refine Ev.congr (f := fun k => (value_all.f k l).bind fun q => if q = true then (if l.all okP = true then some (putB l, 0) else none) else some ([], 1)) (fun k => ?_) (Ev.bind (all_ev l (by omega)) ?_)
    · unfold value_Put.f
      rw [if_neg hb]
    · by_cases ha : allOk l = true
      · rw [if_pos ha]
        exact Ev.congr (fun k => by rw [if_pos ha, if_pos (all_P ha)]) (Ev.now _)
      · rw [if_neg ha]
        exact Ev.congr (fun k => by rw [if_neg ha]) (Ev.now _)
theorem refPut_ev (l : List S47) (hm : l.length ≤ 4398046511104) : Ev (fun k => weighhouseref02_Put.f k l) (putR l) := by
  unfold putR
  by_cases hb : 255 < l.length
  · rw [if_pos hb]
    refine Ev.congr (fun k => ?_) (Ev.now _)
    unfold weighhouseref02_Put.f
    rw [if_pos (by omega)]
  · rw [if_neg hb]
    refine Ev.congr (f := fun k => (weighhouseref02_All.f k l).bind fun q => if q = true then ((weighhouseref02_BytesOf.f k l).bind fun t => some (t, 0)) else some ([], 1)) (fun k => ?_) (Ev.bind (refAll_ev l (by omega)) ?_)
    · unfold weighhouseref02_Put.f
      rw [if_neg (by omega)]
    · by_cases ha : allOk l = true
      · rw [if_pos ha]
        exact Ev.congr (fun k => by rw [if_pos ha]) (Ev.bind (bytes_ev l (by omega) ha) (Ev.now _))
      · rw [if_neg ha]
        exact Ev.congr (fun k => by rw [if_neg ha]) (Ev.now _)
/-! ### bytes read: by the program and by the document -/
def Bad (l : List S47) : Prop := ∃ v ∈ l, okv v.f0 v.f1 v.f2 = false
theorem bad_ok {l : List S47} (h : Bad l) : allOk l = false := by
  obtain ⟨v, hv, hb⟩ := h
  cases ha : allOk l with
  | false => rfl
  | true => rw [ok_mem ha v hv] at hb; cases hb
theorem Bad.app {l : List S47} (h : Bad l) (m : List S47) : Bad (l ++ m) := by
  obtain ⟨v, hv, hb⟩ := h
  exact ⟨v, List.mem_append_left _ hv, hb⟩
theorem done_err {xs : List Int} {e : Int} (h : e ≠ 0) : rDone xs e ≠ 0 := by
  unfold rDone
  rw [if_pos h]
  exact h
theorem gval_err (xs : List Int) {e : Int} (h : e ≠ 0) : gval true xs e = (⟨0, 0, ⟨#[]⟩⟩, xs, e) := gval_4 (rByte_err h) (by decide) (by decide) (by decide)
theorem gvals_err (n : Nat) (xs : List Int) {e : Int} (h : e ≠ 0) : ∀ acc, (gvals true n xs e acc).2 = (xs, e) := by
  induction n with
  | zero => intro acc; rfl
  | succ n ih =>
    intro acc
    rw [gvals_step n acc (.inl rfl) (gval_err xs h)]
    exact ih _
theorem gvals_two : ∀ (n : Nat) (xs : List Int) (e : Int) (a b : List S47), (a = b ∨ (Bad a ∧ Bad b)) →
    (rDone (gvals true n xs e a).2.1 (gvals true n xs e a).2.2 = 0 ↔ rDone (gvals false n xs e b).2.1 (gvals false n xs e b).2.2 = 0) ∧
    (rDone (gvals true n xs e a).2.1 (gvals true n xs e a).2.2 = 0 → ((gvals true n xs e a).1 = (gvals false n xs e b).1 ∨ (Bad (gvals true n xs e a).1 ∧ Bad (gvals false n xs e b).1)))
  | 0, xs, e, a, b, h => ⟨Iff.rfl, fun _ => h⟩
  | n + 1, xs, e, a, b, h => by
    by_cases he : e = 0
    · subst he
      obtain ⟨t, x1, e1, h1⟩ : ∃ v x e, rByte xs 0 = (v, x, e) := ⟨_, _, _, rfl⟩
      have go : ∀ (v w : S47) (x2 : List Int) (e2 : Int), gval true xs 0 = (v, x2, e2) → gval false xs 0 = (w, x2, e2) → (v = w ∨ (okv v.f0 v.f1 v.f2 = false ∧ okv w.f0 w.f1 w.f2 = false)) → _ := fun v w x2 e2 g1 g2 hvw => by
        have ih := gvals_two n x2 e2 (a ++ [v]) (b ++ [w]) (by
          rcases h with rfl | ⟨ha, hb⟩
          · rcases hvw with rfl | ⟨hv, hw⟩
            · exact .inl rfl
            · exact .inr ⟨⟨v, by simp, hv⟩, ⟨w, by simp, hw⟩⟩
          · exact .inr ⟨ha.app _, hb.app _⟩)
        rw [← gvals_step (z := true) n a (.inl rfl) g1, ← gvals_step (z := false) n b (.inr rfl) g2] at ih
        exact ih
      by_cases t1 : t = 1
      · subst t1
        obtain ⟨v, x2, e2, h2⟩ : ∃ v x e, rInt x1 e1 = (v, x, e) := ⟨_, _, _, rfl⟩
        exact go _ _ _ _ (gval_1 h1 h2) (gval_1 h1 h2) (.inl rfl)
      by_cases t2 : t = 2
      · subst t2
        obtain ⟨v, x2, e2, h2⟩ : ∃ v x e, rText x1 e1 = (v, x, e) := ⟨_, _, _, rfl⟩
        exact go _ _ _ _ (gval_2 h1 h2) (gval_2 h1 h2) (.inl rfl)
      by_cases t3 : t = 3
      · subst t3
        obtain ⟨v, x2, e2, h2⟩ : ∃ v x e, rByte x1 e1 = (v, x, e) := ⟨_, _, _, rfl⟩
        exact go _ _ _ _ (gval_3 h1 h2) (gval_3 h1 h2) (.inl rfl)
      refine go _ _ _ _ (gval_4 h1 t1 t2 t3) (gval_4 h1 t1 t2 t3) (.inr ⟨?_, ?_⟩)
      · show okv (if true = true then (0 : Int) else t) 0 ⟨#[]⟩ = false
        rw [if_pos rfl]
        decide
      show okv (if false = true then (0 : Int) else t) 0 ⟨#[]⟩ = false
      rw [if_neg (by decide)]
      unfold okv
      rw [if_neg t1, if_neg t2, if_neg t3]
    · have g1 := gvals_err (n + 1) xs he a
      rw [gvals_stop (n + 1) xs he b, g1]
      exact ⟨⟨fun h => absurd h (done_err he), fun h => absurd h (done_err he)⟩, fun h => absurd h (done_err he)⟩
theorem gvals_len (z : Bool) : ∀ (n : Nat) (xs : List Int) (e : Int) (a : List S47), (gvals z n xs e a).1.length ≤ n + a.length
  | 0, xs, e, a => by simp [gvals_0]
  | n + 1, xs, e, a => by
    rw [gvals]
    split
    · simp only; omega
    · have := gvals_len z n (gval z xs e).2.1 (gval z xs e).2.2 (a ++ [(gval z xs e).1])
      simp only [List.length_append, List.length_singleton] at this
      omega
/-- What Get gives. -/
def getR (z : Bool) (l : List Int) : List S47 × Int := if rDone (getV z l).2.1 (getV z l).2.2 = 0 ∧ allOk (getV z l).1 = true then ((getV z l).1, 0) else ([], 21)
theorem getR_two (l : List Int) : getR true l = getR false l := by
  obtain ⟨h1, h2⟩ := gvals_two (rByte l 0).1.toNat (rByte l 0).2.1 (rByte l 0).2.2 [] [] (.inl rfl)
  change (rDone (getV true l).2.1 (getV true l).2.2 = 0 ↔ rDone (getV false l).2.1 (getV false l).2.2 = 0) at h1
  change (rDone (getV true l).2.1 (getV true l).2.2 = 0 → ((getV true l).1 = (getV false l).1 ∨ (Bad (getV true l).1 ∧ Bad (getV false l).1))) at h2
  unfold getR
  by_cases hd : rDone (getV true l).2.1 (getV true l).2.2 = 0
  · rcases h2 hd with he | ⟨ha, hb⟩
    · rw [he]
      simp only [h1]
    · rw [if_neg (fun h => by rw [bad_ok ha] at h; cases h.2), if_neg (fun h => by rw [bad_ok hb] at h; cases h.2)]
  · rw [if_neg (fun h => hd h.1), if_neg (fun h => hd (h1.2 h.1))]
theorem getV_len (z : Bool) (l : List Int) (hl : ∀ x ∈ l, 0 ≤ x ∧ x ≤ 255) : (getV z l).1.length ≤ 255 := by
  have h := gvals_len z (rByte l 0).1.toNat (rByte l 0).2.1 (rByte l 0).2.2 []
  have h2 := rByte_in (xs := l) (e := 0) (v := (rByte l 0).1) (xs1 := (rByte l 0).2.1) (e1 := (rByte l 0).2.2) hl rfl
  unfold getV
  simp only [List.length_nil] at h
  omega
theorem isBb_of {l : List Int} (h : ∀ x ∈ l, 0 ≤ x ∧ x ≤ 255) : l.all isBb = true := List.all_eq_true.2 (fun x hx => by
  have := h x hx
  simp only [isBb, Bool.and_eq_true, decide_eq_true_eq]
  exact this)
theorem get_ev (l : List Int) (hb : ∀ x ∈ l, 0 ≤ x ∧ x ≤ 255) (hl : l.length ≤ 140737488355328) : Ev (fun k => value_Get.f k l) (getR true l) := by
  have hc : (l.all isBb && decide (l.length ≤ 140737488355328)) = true := by rw [isBb_of hb, decide_eq_true hl]; rfl
  have hn := getV_len true l hb
  by_cases hd : rDone (getV true l).2.1 (getV true l).2.2 = 0
  · refine Ev.congr (f := fun k => (value_all.f k (getV true l).1).bind fun q => some (if q = true then ((getV true l).1, 0) else ([], 21))) (fun k => ?_) (Ev.bind (all_ev _ (by omega)) ?_)
    · unfold value_Get.f
      rw [if_pos hc, if_pos hd]
    · by_cases ha : allOk (getV true l).1 = true
      · rw [show getR true l = ((getV true l).1, 0) by unfold getR; exact if_pos ⟨hd, ha⟩]
        exact Ev.congr (fun k => by rw [if_pos ha]) (Ev.now _)
      · rw [show getR true l = ([], 21) by unfold getR; exact if_neg (fun h => ha h.2)]
        exact Ev.congr (fun k => by rw [if_neg ha]) (Ev.now _)
  · rw [show getR true l = ([], 21) by unfold getR; exact if_neg (fun h => hd h.1)]
    refine Ev.congr (fun k => ?_) (Ev.now _)
    unfold value_Get.f
    rw [if_pos hc, if_neg hd]
theorem refGet_ev (l : List Int) (hb : ∀ x ∈ l, 0 ≤ x ∧ x ≤ 255) (hl : l.length ≤ 140737488355328) : Ev (fun k => weighhouseref02_Get.f k l) (getR false l) := by
  have hc : (l.all isBb && decide (l.length ≤ 140737488355328)) = true := by rw [isBb_of hb, decide_eq_true hl]; rfl
  have hn := getV_len false l hb
  by_cases hd : rDone (getV false l).2.1 (getV false l).2.2 = 0
  · refine Ev.congr (f := fun k => (weighhouseref02_All.f k (getV false l).1).bind fun q => some (if q = true then ((getV false l).1, 0) else ([], 21))) (fun k => ?_) (Ev.bind (refAll_ev _ (by omega)) ?_)
    · unfold weighhouseref02_Get.f
      rw [if_pos hc, if_pos hd]
    · by_cases ha : allOk (getV false l).1 = true
      · rw [show getR false l = ((getV false l).1, 0) by unfold getR; exact if_pos ⟨hd, ha⟩]
        exact Ev.congr (fun k => by rw [if_pos ha]) (Ev.now _)
      · rw [show getR false l = ([], 21) by unfold getR; exact if_neg (fun h => ha h.2)]
        exact Ev.congr (fun k => by rw [if_neg ha]) (Ev.now _)
  · rw [show getR false l = ([], 21) by unfold getR; exact if_neg (fun h => hd h.1)]
    refine Ev.congr (fun k => ?_) (Ev.now _)
    unfold weighhouseref02_Get.f
    rw [if_pos hc, if_neg hd]
theorem getR_len (z : Bool) (l : List Int) (hb : ∀ x ∈ l, 0 ≤ x ∧ x ≤ 255) : (getR z l).1.length ≤ 255 := by
  unfold getR
  split
  · exact getV_len z l hb
  · simp
end Go.Proofs.YtblaibigjhlblaaGreatDoor.Th
end

section
/- ValueBytes: the pure statement, proved: any values as bytes, any bytes as values -/
set_option linter.unusedVariables false
set_option linter.unusedSimpArgs false
namespace Go.Proofs.YtblaibigjhlblaaGreatDoor.PuValueBytes
open Go.RowKit Go.Proofs.YtblaibigjhlblaaGreatDoorW.PrintWords Go.Proofs.YtblaibigjhlblaaGreatDoorW.Hb Go.Proofs.YtblaibigjhlblaaGreatDoorW.Ho Go.Proofs.YtblaibigjhlblaaGreatDoor.Q Go.Proofs.YtblaibigjhlblaaGreatDoor.OpValueBytes Go.Proofs.YtblaibigjhlblaaGreatDoor.Th

set_option maxRecDepth 100000 in
theorem knows_50 : weighhouselaw02_knows.f 50 = some true := by decide +kernel
theorem knows_ev : Ev (fun k => weighhouselaw02_knows.f k) true := Ev.of (fun k => weighhouselaw02_knows.mono k) knows_50
theorem own_ok (l : List S47) (h : l.length < 4398046511104) : weighhouselaw02_Own.f l = some l := by
  unfold weighhouselaw02_Own.f
  rw [Option.bind_some, if_pos (by simpa using h)]
  rfl
theorem same_ev (l : List S47) (hm : l.length ≤ 4398046511104) : Ev (fun k => weighhouselaw02_Same.f k l l) true := by
  have loop : ∀ d i : Nat, i + d = l.length → Ev (fun k => weighhouselaw02_Same.l0 k l l (i : Int)) true := by
    intro d
    induction d with
    | zero =>
      intro i hi
      refine Ev.step (f := fun _ => some true) (fun k => ?_) (Ev.now _)
      simp only [weighhouselaw02_Same.l0]
      rw [if_neg (by omega)]
    | succ d ih =>
      intro i hi
      refine Ev.step (f := fun k => weighhouselaw02_Same.l0 k l l ((i + 1 : Nat) : Int)) (fun k => ?_) (ih (i + 1) (by omega))
      simp only [weighhouselaw02_Same.l0]
      have h1 : (0 : Int) ≤ (i : Int) := by omega
      have h2 : (i : Int) < (l.length : Int) := by omega
      have h3 : wrap64 ((i : Int) + 1) = ((i + 1 : Nat) : Int) := by rw [w64 (by omega) (by omega)]; omega
      simp [h1, h2, h3]
  refine Ev.congr (f := fun k => weighhouselaw02_Same.l0 k l l 0) (fun k => ?_) (loop l.length 0 (by omega))
  unfold weighhouselaw02_Same.f
  rw [if_pos rfl]
theorem wfB {x : Int} (h : (Lit.int .u8 x).wf = true) : 0 ≤ x ∧ x ≤ 255 := by
  simp only [Lit.wf, IntKind.min, IntKind.max, IntKind.signed, IntKind.bits, Bool.and_eq_true] at h
  simp at h
  omega
theorem pure : Pure := by
  intro l b ⟨hl1, hl2, hq⟩ ⟨hb1, hb2, hw⟩
  have hn : l.length < 4398046511104 := by unfold reachBytes at hl1; omega
  have hbl : b.length ≤ 140737488351232 := by unfold reachBytes at hb1; omega
  have hB : ∀ x ∈ b, 0 ≤ x ∧ x ≤ 255 := fun x hx => wfB (hw x hx)
  have g1 := get_ev b hB (by omega)
  have g2 := refGet_ev b hB (by omega)
  have gl := getR_len false b hB
  rw [getR_two] at g1
  refine Ev.rounds (Ev.congr (f := fun k => (value_Put.f k l).bind fun c => (weighhouseref02_Put.f k l).bind fun d => (value_Get.f k b).bind fun y => (weighhouseref02_Get.f k b).bind fun z => (weighhouselaw02_Same.f k y.1 z.1).bind fun s => (weighhouselaw02_Same.f k l l).bind fun t => (weighhouselaw02_knows.f k).bind fun q => if c.1 = d.1 ∧ c.2 = d.2 ∧ s = true ∧ y.2 = z.2 ∧ t = true ∧ q = true ∧ b.length ≤ 140737488351232 then some true else none) (fun k => ?_) ?_)
  · unfold weighhouselaw02_ValueBytes.f
    rw [own_ok l hn, Option.bind_some]
  · refine Ev.bind (put_ev l (by omega)) (Ev.bind (refPut_ev l (by omega)) (Ev.bind g1 (Ev.bind g2 (Ev.bind (same_ev _ (by omega)) (Ev.bind (same_ev l (by omega)) (Ev.bind knows_ev ?_))))))
    exact Ev.congr (fun k => if_pos ⟨rfl, rfl, rfl, rfl, rfl, rfl, hbl⟩) (Ev.now _)
end Go.Proofs.YtblaibigjhlblaaGreatDoor.PuValueBytes
end
