/- texts of one claim, merged: each in a section of its own -/
import Derived.Test.YtbdmbkmokhaflaaMShapePairs3
section
-- written by hprint.py (a program of these sessions) out of the translation; Lean checks it
namespace Go.Proofs.Ytbdmbkmokhaflaa.Q
open Go.RowKit Go.Proofs.YtbdmbkmokhaflaaW.Hb Go.Proofs.YtbdmbkmokhaflaaW.PrintWords Go.Proofs.YtbdmbkmokhaflaaW.PrintLast Go.Proofs.YtbdmbkmokhaflaaW.PrintMore
attribute [local go_sem] max2_int min2_int max_two min_two max_three min_three max_four min_four   -- for this text's walks alone
set_option linter.unusedVariables false
set_option linter.unusedSimpArgs false

/-! ### weighhouselaw06_knows: function 9 -/
def weighhouselaw06_knows.f (k : Nat)  : Option (Bool) := (shape_Match.f (([(⟨48, 0⟩ : S31), (⟨49, 0⟩ : S31), (⟨50, 0⟩ : S31)] : List (S31)))).bind fun bt106 => ((shape_Match.f (([(⟨51, 1⟩ : S31), (⟨52, 0⟩ : S31), (⟨50, 0⟩ : S31)] : List (S31)))).bind fun bt113 => ((weighhouselaw06_num.f bt106.2).bind fun t117 => ((weighhouselaw06_num.f bt113.2).bind fun t118 => (if (wrap64 (t117 + t118)) = 0 then ((weighhouselaw03_Ints.f k bt106.1 (([1, 2, 0] : List Int))).bind fun t122 => (if t122 = true then ((weighhouselaw03_Ints.f k bt113.1 (([2, 2, 0] : List Int))).bind fun t126 => (some t126)) else (some false))) else (some false)))))
theorem weighhouselaw06_knows.mono : ∀ k, LeO (weighhouselaw06_knows.f k ) (weighhouselaw06_knows.f (k + 1) ) := by
  intro  k
  unfold weighhouselaw06_knows.f
  repeat' first
      | (with_reducible exact weighhouselaw03_Ints.mono _ _ _)
      | (with_reducible exact LeO.refl _)
      | (with_reducible exact LeO.none _)
      | (with_reducible refine LeO.ite ?_ ?_)
      | (with_reducible refine LeO.bind ?_ (fun _ => ?_))
      | exact weighhouselaw03_Ints.mono _ _ _
      | exact LeO.none _
      | refine LeO.ite ?_ ?_
      | refine LeO.bind ?_ (fun _ => ?_)
set_option maxHeartbeats 8000000 in
set_option maxRecDepth 100000 in
theorem weighhouselaw06_knows.calls (k : Nat)  (r : Bool) (w : World) (h : weighhouselaw06_knows.f k  = some r) :
    Calls Try.prog 9 #[] w fun e w' => e = .returned (.bool r) ∧ Below w.heap.size w w' := by
  have hu31 := Try.underlying31
  have HB := Aside0.mk (Below.refl w.heap.size w)
  have H : ((shape_Match.f (([(⟨48, 0⟩ : S31), (⟨49, 0⟩ : S31), (⟨50, 0⟩ : S31)] : List (S31)))).bind fun bt106 => ((shape_Match.f (([(⟨51, 1⟩ : S31), (⟨52, 0⟩ : S31), (⟨50, 0⟩ : S31)] : List (S31)))).bind fun bt113 => ((weighhouselaw06_num.f bt106.2).bind fun t117 => ((weighhouselaw06_num.f bt113.2).bind fun t118 => (if (wrap64 (t117 + t118)) = 0 then ((weighhouselaw03_Ints.f k bt106.1 (([1, 2, 0] : List Int))).bind fun t122 => (if t122 = true then ((weighhouselaw03_Ints.f k bt113.1 (([2, 2, 0] : List Int))).bind fun t126 => (some t126)) else (some false))) else (some false)))))) = some r := h
  clear h
  obtain ⟨y103, hy103⟩ : ∃ y_ : List (S31), y_ = (([(⟨48, 0⟩ : S31), (⟨49, 0⟩ : S31), (⟨50, 0⟩ : S31)] : List (S31))) := ⟨_, rfl⟩
  replace H : ((shape_Match.f y103).bind fun bt106 => ((shape_Match.f (([(⟨51, 1⟩ : S31), (⟨52, 0⟩ : S31), (⟨50, 0⟩ : S31)] : List (S31)))).bind fun bt113 => ((weighhouselaw06_num.f bt106.2).bind fun t117 => ((weighhouselaw06_num.f bt113.2).bind fun t118 => (if (wrap64 (t117 + t118)) = 0 then ((weighhouselaw03_Ints.f k bt106.1 (([1, 2, 0] : List Int))).bind fun t122 => (if t122 = true then ((weighhouselaw03_Ints.f k bt113.1 (([2, 2, 0] : List Int))).bind fun t126 => (some t126)) else (some false))) else (some false)))))) = some r := by first | (rw [hy103]; with_reducible exact H) | (have H2_ := (Option.bind_some _ _).symm.trans H; rw [hy103]; with_reducible exact H2_) | (have H2_ := (Option.bind_some _ _).symm.trans H; with_reducible exact H2_) | with_reducible exact H | (rw [hy103]; exact H) | exact H
  have Ny103 := Aside0.mk hy103
  clear hy103
  replace H := Option.bind_eq_some_iff.mp H
  obtain ⟨⟨t106, t107⟩, A10, H⟩ := H
  replace H : ((shape_Match.f (([(⟨51, 1⟩ : S31), (⟨52, 0⟩ : S31), (⟨50, 0⟩ : S31)] : List (S31)))).bind fun bt113 => ((weighhouselaw06_num.f t107).bind fun t117 => ((weighhouselaw06_num.f bt113.2).bind fun t118 => (if (wrap64 (t117 + t118)) = 0 then ((weighhouselaw03_Ints.f k t106 (([1, 2, 0] : List Int))).bind fun t122 => (if t122 = true then ((weighhouselaw03_Ints.f k bt113.1 (([2, 2, 0] : List Int))).bind fun t126 => (some t126)) else (some false))) else (some false))))) = some r := H
  have A1 := Aside0.mk A10
  clear A10
  obtain ⟨y110, hy110⟩ : ∃ y_ : List (S31), y_ = (([(⟨51, 1⟩ : S31), (⟨52, 0⟩ : S31), (⟨50, 0⟩ : S31)] : List (S31))) := ⟨_, rfl⟩
  replace H : ((shape_Match.f y110).bind fun bt113 => ((weighhouselaw06_num.f t107).bind fun t117 => ((weighhouselaw06_num.f bt113.2).bind fun t118 => (if (wrap64 (t117 + t118)) = 0 then ((weighhouselaw03_Ints.f k t106 (([1, 2, 0] : List Int))).bind fun t122 => (if t122 = true then ((weighhouselaw03_Ints.f k bt113.1 (([2, 2, 0] : List Int))).bind fun t126 => (some t126)) else (some false))) else (some false))))) = some r := by first | (rw [hy110]; with_reducible exact H) | (have H2_ := (Option.bind_some _ _).symm.trans H; rw [hy110]; with_reducible exact H2_) | (have H2_ := (Option.bind_some _ _).symm.trans H; with_reducible exact H2_) | with_reducible exact H | (rw [hy110]; exact H) | exact H
  have Ny110 := Aside0.mk hy110
  clear hy110
  replace H := Option.bind_eq_some_iff.mp H
  obtain ⟨⟨t113, t114⟩, A20, H⟩ := H
  replace H : ((weighhouselaw06_num.f t107).bind fun t117 => ((weighhouselaw06_num.f t114).bind fun t118 => (if (wrap64 (t117 + t118)) = 0 then ((weighhouselaw03_Ints.f k t106 (([1, 2, 0] : List Int))).bind fun t122 => (if t122 = true then ((weighhouselaw03_Ints.f k t113 (([2, 2, 0] : List Int))).bind fun t126 => (some t126)) else (some false))) else (some false)))) = some r := H
  have A2 := Aside0.mk A20
  clear A20
  replace H := Option.bind_eq_some_iff.mp H
  obtain ⟨t117, A30, H⟩ := H
  replace H : ((weighhouselaw06_num.f t114).bind fun t118 => (if (wrap64 (t117 + t118)) = 0 then ((weighhouselaw03_Ints.f k t106 (([1, 2, 0] : List Int))).bind fun t122 => (if t122 = true then ((weighhouselaw03_Ints.f k t113 (([2, 2, 0] : List Int))).bind fun t126 => (some t126)) else (some false))) else (some false))) = some r := H
  have A3 := Aside0.mk A30
  clear A30
  replace H := Option.bind_eq_some_iff.mp H
  obtain ⟨t118, A40, H⟩ := H
  replace H : (if (wrap64 (t117 + t118)) = 0 then ((weighhouselaw03_Ints.f k t106 (([1, 2, 0] : List Int))).bind fun t122 => (if t122 = true then ((weighhouselaw03_Ints.f k t113 (([2, 2, 0] : List Int))).bind fun t126 => (some t126)) else (some false))) else (some false)) = some r := H
  have A4 := Aside0.mk A40
  clear A40
  by_cases c5 : (wrap64 (t117 + t118)) = 0
  · rw [if_pos c5] at H
    have c5b0 : ((wrap64 (t117 + t118)) == 0) = true := beq_iff_eq.mpr c5
    have c5b1 : ((wrap64 (t117 + t118)) != 0) = false := bne_eq_false_iff_eq.mpr c5
    clear c5
    obtain ⟨y119, hy119⟩ : ∃ y_ : List Int, y_ = (([1, 2, 0] : List Int)) := ⟨_, rfl⟩
    replace H : ((weighhouselaw03_Ints.f k t106 y119).bind fun t122 => (if t122 = true then ((weighhouselaw03_Ints.f k t113 (([2, 2, 0] : List Int))).bind fun t126 => (some t126)) else (some false))) = some r := by first | (rw [hy119]; with_reducible exact H) | (have H2_ := (Option.bind_some _ _).symm.trans H; rw [hy119]; with_reducible exact H2_) | (have H2_ := (Option.bind_some _ _).symm.trans H; with_reducible exact H2_) | with_reducible exact H | (rw [hy119]; exact H) | exact H
    have Ny119 := Aside0.mk hy119
    clear hy119
    replace H := Option.bind_eq_some_iff.mp H
    obtain ⟨t122, A60, H⟩ := H
    replace H : (if t122 = true then ((weighhouselaw03_Ints.f k t113 (([2, 2, 0] : List Int))).bind fun t126 => (some t126)) else (some false)) = some r := H
    have A6 := Aside0.mk A60
    clear A60
    by_cases c7 : t122 = true
    · subst c7
      have H1 : ((weighhouselaw03_Ints.f k t113 (([2, 2, 0] : List Int))).bind fun t126 => (some t126)) = some r := by rw [if_pos rfl] at H; exact H
      clear H
      have H := H1
      clear H1
      obtain ⟨y123, hy123⟩ : ∃ y_ : List Int, y_ = (([2, 2, 0] : List Int)) := ⟨_, rfl⟩
      replace H : ((weighhouselaw03_Ints.f k t113 y123).bind fun t126 => (some t126)) = some r := by first | (rw [hy123]; with_reducible exact H) | (have H2_ := (Option.bind_some _ _).symm.trans H; rw [hy123]; with_reducible exact H2_) | (have H2_ := (Option.bind_some _ _).symm.trans H; with_reducible exact H2_) | with_reducible exact H | (rw [hy123]; exact H) | exact H
      have Ny123 := Aside0.mk hy123
      clear hy123
      replace H := Option.bind_eq_some_iff.mp H
      obtain ⟨t126, A80, H⟩ := H
      replace H : (some t126) = some r := H
      have A8 := Aside0.mk A80
      clear A80
      obtain rfl := Option.some.inj H
      go_enter Try.func9, Try.ntmps9
      go_wp2_with (first | ((with_reducible refine gate_dst (N := 9) rfl ?_); (try (refine gate_guard (by rfl) ?_; dsimp only)); refine Kd.R_lit k31 _ 31 ?hg (N := 9) ?hd (xs := ([(⟨48, 0⟩ : S31), (⟨49, 0⟩ : S31), (⟨50, 0⟩ : S31)] : List (S31))) (inner := [.int .i64 48, .int .i64 0, .int .i64 49, .int .i64 0, .int .i64 50, .int .i64 0]) (ok := fun _ => True) (okp := fun _ => True) ?hr ?hp (fun _ hk => hk) trivial (Below.refl _ _) (Nat.le_refl _) (by simp) ?_; (case hd => rfl); (case hg => rfl); (case hr => first | (go_simp; done) | (go_simp; rfl)); (case hp => exact (Reps.c2 (show Kd.M k31 _ _ _ (⟨48, 0⟩ : S31) [.int .i64 48, .int .i64 0] from (k31_mkM _ _ _ (⟨48, 0⟩ : S31) )) (Reps.c2 (show Kd.M k31 _ _ _ (⟨49, 0⟩ : S31) [.int .i64 49, .int .i64 0] from (k31_mkM _ _ _ (⟨49, 0⟩ : S31) )) (Reps.c2 (show Kd.M k31 _ _ _ (⟨50, 0⟩ : S31) [.int .i64 50, .int .i64 0] from (k31_mkM _ _ _ (⟨50, 0⟩ : S31) )) (Reps.none _ _))))); intro v104 w9 ho10 hb hg_ hnew_; clear hg_ hnew_; (first | rw [← Ny103.out] at ho10 | (simp only [Int.reduceToNat] at ho10; rw [← Ny103.out] at ho10)); have n0_ := Aside0.mk (Kd.R_lower ho10 (below_size (by repeat (first | (with_reducible first | exact HB.out | apply below_alloc | apply pw_below_drewN | apply below_drew1) | exact HB.out)))); have n1_ := Aside0.mk (below_step (by repeat (first | (with_reducible first | exact HB.out | apply below_alloc | apply pw_below_drewN | apply below_drew1) | exact HB.out)) hb); clear HB; have HO105 := n0_; have HB := n1_; clear n0_ n1_; clear hb ho10; obtain ⟨Ao11, co11, eo11⟩ := Kd.R_slice HO105.out; subst eo11) | ((with_reducible refine gate_callee (f := 10) rfl ?_); refine goesL_ (some 10) rfl rfl Try.func10 (by kernel_rfl) rfl #[.slice Ao11 y103.length co11] rfl (by (try simp only [List.map_toArray, List.map_cons, List.map_nil]); first | done | rfl | (simp only [List.length_drop, List.length_take]; rfl)) ?_; (with_reducible refine (shape_Match.calls _ _ y103 t106 t107 _ ?side1 ?side2 A1.out).mono ?_); (case side1 => repeat (first | exact (Kd.R_reads' HO105.out).2.2 | (with_reducible refine Kd.C_alloc ?_ _) | (with_reducible refine Kd.C_drewN ?_ _) | (with_reducible refine Kd.C_drew ?_))); (case side2 => exact (Kd.R_reads' HO105.out).2.1); rintro e w12 ⟨v108, rfl, ho0, hb⟩; refine ⟨_, rfl, ?_⟩; have n0_ := Aside0.mk (Kd.R_below (by (with_reducible repeat (first | apply Kd.R_alloc | apply Kd.R_drewN | apply Kd.R_drew)); exact HO105.out) hb); have n1_ := Aside0.mk (Kd.R_lower ho0 (below_size (by repeat (first | (with_reducible first | exact HB.out | apply below_alloc | apply pw_below_drewN | apply below_drew1) | exact HB.out)))); have n2_ := Aside0.mk (below_step (by repeat (first | (with_reducible first | exact HB.out | apply below_alloc | apply pw_below_drewN | apply below_drew1) | exact HB.out)) hb); clear HO105; clear HB; have HO105 := n0_; have HO109 := n1_; have HB := n2_; clear n0_ n1_ n2_; (try clear hb); (try clear hb2); (try clear hk); (try clear hi); (try clear ho0)) | ((with_reducible refine gate_dst (N := 17) rfl ?_); (try (refine gate_guard (by rfl) ?_; dsimp only)); refine Kd.R_lit k31 _ 31 ?hg (N := 17) ?hd (xs := ([(⟨51, 1⟩ : S31), (⟨52, 0⟩ : S31), (⟨50, 0⟩ : S31)] : List (S31))) (inner := [.int .i64 51, .int .i64 1, .int .i64 52, .int .i64 0, .int .i64 50, .int .i64 0]) (ok := fun _ => True) (okp := fun _ => True) ?hr ?hp (fun _ hk => hk) trivial (Below.refl _ _) (Nat.le_refl _) (by simp) ?_; (case hd => rfl); (case hg => rfl); (case hr => first | (go_simp; done) | (go_simp; rfl)); (case hp => exact (Reps.c2 (show Kd.M k31 _ _ _ (⟨51, 1⟩ : S31) [.int .i64 51, .int .i64 1] from (k31_mkM _ _ _ (⟨51, 1⟩ : S31) )) (Reps.c2 (show Kd.M k31 _ _ _ (⟨52, 0⟩ : S31) [.int .i64 52, .int .i64 0] from (k31_mkM _ _ _ (⟨52, 0⟩ : S31) )) (Reps.c2 (show Kd.M k31 _ _ _ (⟨50, 0⟩ : S31) [.int .i64 50, .int .i64 0] from (k31_mkM _ _ _ (⟨50, 0⟩ : S31) )) (Reps.none _ _))))); intro v111 w13 ho14 hb hg_ hnew_; clear hg_ hnew_; (first | rw [← Ny110.out] at ho14 | (simp only [Int.reduceToNat] at ho14; rw [← Ny110.out] at ho14)); have n0_ := Aside0.mk (Kd.R_elder' (by (with_reducible repeat (first | apply Kd.R_alloc | apply Kd.R_drewN | apply Kd.R_drew)); exact HO105.out) (Kd.R_base ho14) hb); have n1_ := Aside0.mk (Kd.R_below (by (with_reducible repeat (first | apply Kd.R_alloc | apply Kd.R_drewN | apply Kd.R_drew)); exact HO109.out) hb); have n2_ := Aside0.mk (Kd.R_lower (Kd.R_new' ho14 (Kd.R_lt (by (with_reducible repeat (first | apply Kd.R_alloc | apply Kd.R_drewN | apply Kd.R_drew)); exact HO105.out))) (below_size (by repeat (first | (with_reducible first | exact HB.out | apply below_alloc | apply pw_below_drewN | apply below_drew1) | exact HB.out)))); have n3_ := Aside0.mk (below_step (by repeat (first | (with_reducible first | exact HB.out | apply below_alloc | apply pw_below_drewN | apply below_drew1) | exact HB.out)) hb); clear HO105; clear HO109; clear HB; have HO105 := n0_; have HO109 := n1_; have HO112 := n2_; have HB := n3_; clear n0_ n1_ n2_ n3_; clear hb ho14; obtain ⟨Ao15, co15, eo15⟩ := Kd.R_slice HO112.out; subst eo15) | ((with_reducible refine gate_callee (f := 10) rfl ?_); refine goesL_ (some 18) rfl rfl Try.func10 (by kernel_rfl) rfl #[.slice Ao15 y110.length co15] rfl (by (try simp only [List.map_toArray, List.map_cons, List.map_nil]); first | done | rfl | (simp only [List.length_drop, List.length_take]; rfl)) ?_; (with_reducible refine (shape_Match.calls _ _ y110 t113 t114 _ ?side1 ?side2 A2.out).mono ?_); (case side1 => repeat (first | exact (Kd.R_reads' HO112.out).2.2 | (with_reducible refine Kd.C_alloc ?_ _) | (with_reducible refine Kd.C_drewN ?_ _) | (with_reducible refine Kd.C_drew ?_))); (case side2 => exact (Kd.R_reads' HO112.out).2.1); rintro e w16 ⟨v115, rfl, ho0, hb⟩; refine ⟨_, rfl, ?_⟩; have n0_ := Aside0.mk (Kd.R_below (by (with_reducible repeat (first | apply Kd.R_alloc | apply Kd.R_drewN | apply Kd.R_drew)); exact HO105.out) hb); have n1_ := Aside0.mk (Kd.R_elder' (by (with_reducible repeat (first | apply Kd.R_alloc | apply Kd.R_drewN | apply Kd.R_drew)); exact HO109.out) (Kd.R_base ho0) hb); have n2_ := Aside0.mk (Kd.R_below (by (with_reducible repeat (first | apply Kd.R_alloc | apply Kd.R_drewN | apply Kd.R_drew)); exact HO112.out) hb); have n3_ := Aside0.mk (Kd.R_lower (Kd.R_new' ho0 (Kd.R_lt (by (with_reducible repeat (first | apply Kd.R_alloc | apply Kd.R_drewN | apply Kd.R_drew)); exact HO109.out))) (below_size (by repeat (first | (with_reducible first | exact HB.out | apply below_alloc | apply pw_below_drewN | apply below_drew1) | exact HB.out)))); have n4_ := Aside0.mk (below_step (by repeat (first | (with_reducible first | exact HB.out | apply below_alloc | apply pw_below_drewN | apply below_drew1) | exact HB.out)) hb); clear HO105; clear HO109; clear HO112; clear HB; have HO105 := n0_; have HO109 := n1_; have HO112 := n2_; have HO116 := n3_; have HB := n4_; clear n0_ n1_ n2_ n3_ n4_; (try clear hb); (try clear hb2); (try clear hk); (try clear hi); (try clear ho0)) | ((with_reducible refine gate_callee (f := 12) rfl ?_); refine goesL_ (some 22) rfl rfl Try.func12 (by kernel_rfl) rfl #[.int .i64 t107] rfl (by (try simp only [List.map_toArray, List.map_cons, List.map_nil]); first | done | rfl | (simp only [List.length_drop, List.length_take]; rfl)) ?_; (with_reducible refine (weighhouselaw06_num.calls t107 t117 _ A3.out).mono ?_); rintro e w' ⟨rfl, ⟨nd, rfl⟩⟩; refine ⟨_, rfl, ?_⟩) | ((with_reducible refine gate_callee (f := 12) rfl ?_); refine goesL_ (some 24) rfl rfl Try.func12 (by kernel_rfl) rfl #[.int .i64 t114] rfl (by (try simp only [List.map_toArray, List.map_cons, List.map_nil]); first | done | rfl | (simp only [List.length_drop, List.length_take]; rfl)) ?_; (with_reducible refine (weighhouselaw06_num.calls t114 t118 _ A4.out).mono ?_); rintro e w' ⟨rfl, ⟨nd, rfl⟩⟩; refine ⟨_, rfl, ?_⟩) | ((with_reducible refine gate_dst (N := 29) rfl ?_); (try (refine gate_guard (by rfl) ?_; dsimp only)); refine Kd.R_lit (Kd.int .i64) _ 3 ?hg (N := 29) ?hd (xs := ([1, 2, 0] : List Int)) (inner := [.int .i64 1, .int .i64 2, .int .i64 0]) (ok := fun _ => True) (okp := fun _ => True) ?hr ?hp (fun _ hk => hk) trivial (Below.refl _ _) (Nat.le_refl _) (by simp) ?_; (case hd => rfl); (case hg => rfl); (case hr => first | (go_simp; done) | (go_simp; rfl)); (case hp => exact (Reps.one (show Kd.M (Kd.int .i64) _ _ _ 1 [.int .i64 1] from rfl) (Reps.one (show Kd.M (Kd.int .i64) _ _ _ 2 [.int .i64 2] from rfl) (Reps.one (show Kd.M (Kd.int .i64) _ _ _ 0 [.int .i64 0] from rfl) (Reps.none _ _))))); intro v120 w17 ho18 hb hg_ hnew_; clear hg_ hnew_; (first | rw [← Ny119.out] at ho18 | (simp only [Int.reduceToNat] at ho18; rw [← Ny119.out] at ho18)); have n0_ := Aside0.mk (Kd.R_below (by (with_reducible repeat (first | apply Kd.R_alloc | apply Kd.R_drewN | apply Kd.R_drew)); exact HO105.out) hb); have n1_ := Aside0.mk (Kd.R_elder' (by (with_reducible repeat (first | apply Kd.R_alloc | apply Kd.R_drewN | apply Kd.R_drew)); exact HO109.out) (Kd.R_base ho18) hb); have n2_ := Aside0.mk (Kd.R_below (by (with_reducible repeat (first | apply Kd.R_alloc | apply Kd.R_drewN | apply Kd.R_drew)); exact HO112.out) hb); have n3_ := Aside0.mk (Kd.R_elder' (by (with_reducible repeat (first | apply Kd.R_alloc | apply Kd.R_drewN | apply Kd.R_drew)); exact HO116.out) (Kd.R_base ho18) hb); have n4_ := Aside0.mk (Kd.R_lower (Kd.R_new' (Kd.R_new' ho18 (Kd.R_lt (by (with_reducible repeat (first | apply Kd.R_alloc | apply Kd.R_drewN | apply Kd.R_drew)); exact HO109.out))) (Kd.R_lt (by (with_reducible repeat (first | apply Kd.R_alloc | apply Kd.R_drewN | apply Kd.R_drew)); exact HO116.out))) (below_size (by repeat (first | (with_reducible first | exact HB.out | apply below_alloc | apply pw_below_drewN | apply below_drew1) | exact HB.out)))); have n5_ := Aside0.mk (below_step (by repeat (first | (with_reducible first | exact HB.out | apply below_alloc | apply pw_below_drewN | apply below_drew1) | exact HB.out)) hb); clear HO105; clear HO109; clear HO112; clear HO116; clear HB; have HO105 := n0_; have HO109 := n1_; have HO112 := n2_; have HO116 := n3_; have HO121 := n4_; have HB := n5_; clear n0_ n1_ n2_ n3_ n4_ n5_; clear hb ho18; obtain ⟨Ao19, co19, eo19⟩ := Kd.R_slice HO109.out; subst eo19; obtain ⟨Ao20, co20, eo20⟩ := Kd.R_slice HO121.out; subst eo20) | (go_at_call 18; (with_reducible refine (weighhouselaw03_Ints.calls k _ _ t106 _ _ y119 true _ ?side1 ?side2 ?side3 ?side4 A6.out).mono ?_); (case side1 => repeat (first | exact (Kd.R_reads' HO109.out).2.2 | (with_reducible refine Kd.C_alloc ?_ _) | (with_reducible refine Kd.C_drewN ?_ _) | (with_reducible refine Kd.C_drew ?_))); (case side2 => exact (Kd.R_reads' HO109.out).2.1); (case side3 => repeat (first | exact (Kd.R_reads' HO121.out).2.2 | (with_reducible refine Kd.C_alloc ?_ _) | (with_reducible refine Kd.C_drewN ?_ _) | (with_reducible refine Kd.C_drew ?_))); (case side4 => exact (Kd.R_reads' HO121.out).2.1); rintro e w' ⟨rfl, ⟨nd, rfl⟩⟩) | ((with_reducible refine gate_dst (N := 34) rfl ?_); (try (refine gate_guard (by rfl) ?_; dsimp only)); refine Kd.R_lit (Kd.int .i64) _ 3 ?hg (N := 34) ?hd (xs := ([2, 2, 0] : List Int)) (inner := [.int .i64 2, .int .i64 2, .int .i64 0]) (ok := fun _ => True) (okp := fun _ => True) ?hr ?hp (fun _ hk => hk) trivial (Below.refl _ _) (Nat.le_refl _) (by simp) ?_; (case hd => rfl); (case hg => rfl); (case hr => first | (go_simp; done) | (go_simp; rfl)); (case hp => exact (Reps.one (show Kd.M (Kd.int .i64) _ _ _ 2 [.int .i64 2] from rfl) (Reps.one (show Kd.M (Kd.int .i64) _ _ _ 2 [.int .i64 2] from rfl) (Reps.one (show Kd.M (Kd.int .i64) _ _ _ 0 [.int .i64 0] from rfl) (Reps.none _ _))))); intro v124 w21 ho22 hb hg_ hnew_; clear hg_ hnew_; (first | rw [← Ny123.out] at ho22 | (simp only [Int.reduceToNat] at ho22; rw [← Ny123.out] at ho22)); have n0_ := Aside0.mk (Kd.R_below (by (with_reducible repeat (first | apply Kd.R_alloc | apply Kd.R_drewN | apply Kd.R_drew)); exact HO105.out) hb); have n1_ := Aside0.mk (Kd.R_elder' (by (with_reducible repeat (first | apply Kd.R_alloc | apply Kd.R_drewN | apply Kd.R_drew)); exact HO109.out) (Kd.R_base ho22) hb); have n2_ := Aside0.mk (Kd.R_below (by (with_reducible repeat (first | apply Kd.R_alloc | apply Kd.R_drewN | apply Kd.R_drew)); exact HO112.out) hb); have n3_ := Aside0.mk (Kd.R_elder' (by (with_reducible repeat (first | apply Kd.R_alloc | apply Kd.R_drewN | apply Kd.R_drew)); exact HO116.out) (Kd.R_base ho22) hb); have n4_ := Aside0.mk (Kd.R_elder' (by (with_reducible repeat (first | apply Kd.R_alloc | apply Kd.R_drewN | apply Kd.R_drew)); exact HO121.out) (Kd.R_base ho22) hb); have n5_ := Aside0.mk (Kd.R_lower (Kd.R_new' (Kd.R_new' (Kd.R_new' ho22 (Kd.R_lt (by (with_reducible repeat (first | apply Kd.R_alloc | apply Kd.R_drewN | apply Kd.R_drew)); exact HO109.out))) (Kd.R_lt (by (with_reducible repeat (first | apply Kd.R_alloc | apply Kd.R_drewN | apply Kd.R_drew)); exact HO116.out))) (Kd.R_lt (by (with_reducible repeat (first | apply Kd.R_alloc | apply Kd.R_drewN | apply Kd.R_drew)); exact HO121.out))) (below_size (by repeat (first | (with_reducible first | exact HB.out | apply below_alloc | apply pw_below_drewN | apply below_drew1) | exact HB.out)))); have n6_ := Aside0.mk (below_step (by repeat (first | (with_reducible first | exact HB.out | apply below_alloc | apply pw_below_drewN | apply below_drew1) | exact HB.out)) hb); clear HO105; clear HO109; clear HO112; clear HO116; clear HO121; clear HB; have HO105 := n0_; have HO109 := n1_; have HO112 := n2_; have HO116 := n3_; have HO121 := n4_; have HO125 := n5_; have HB := n6_; clear n0_ n1_ n2_ n3_ n4_ n5_ n6_; clear hb ho22; obtain ⟨Ao23, co23, eo23⟩ := Kd.R_slice HO116.out; subst eo23; obtain ⟨Ao24, co24, eo24⟩ := Kd.R_slice HO125.out; subst eo24) | (go_at_call 18; (with_reducible refine (weighhouselaw03_Ints.calls k _ _ t113 _ _ y123 t126 _ ?side1 ?side2 ?side3 ?side4 A8.out).mono ?_); (case side1 => repeat (first | exact (Kd.R_reads' HO116.out).2.2 | (with_reducible refine Kd.C_alloc ?_ _) | (with_reducible refine Kd.C_drewN ?_ _) | (with_reducible refine Kd.C_drew ?_))); (case side2 => exact (Kd.R_reads' HO116.out).2.1); (case side3 => repeat (first | exact (Kd.R_reads' HO125.out).2.2 | (with_reducible refine Kd.C_alloc ?_ _) | (with_reducible refine Kd.C_drewN ?_ _) | (with_reducible refine Kd.C_drew ?_))); (case side4 => exact (Kd.R_reads' HO125.out).2.1); rintro e w' ⟨rfl, ⟨nd, rfl⟩⟩))
      go_ret
      exact ⟨by first | rfl | (simp [errW_none, errW_some] <;> rfl) | (simp [*, errW_none, errW_some] <;> rfl), by repeat (first | (with_reducible first | exact HB.out | apply below_alloc | apply pw_below_drewN | apply below_drew1) | exact HB.out)⟩
    · replace c7 := Bool.eq_false_iff.mpr c7
      subst c7
      have H1 : (some false) = some r := by rw [if_neg (show ¬ (false = true) by decide)] at H; exact H
      clear H
      have H := H1
      clear H1
      obtain rfl := Option.some.inj H
      go_enter Try.func9, Try.ntmps9
      go_wp2_with (first | ((with_reducible refine gate_dst (N := 9) rfl ?_); (try (refine gate_guard (by rfl) ?_; dsimp only)); refine Kd.R_lit k31 _ 31 ?hg (N := 9) ?hd (xs := ([(⟨48, 0⟩ : S31), (⟨49, 0⟩ : S31), (⟨50, 0⟩ : S31)] : List (S31))) (inner := [.int .i64 48, .int .i64 0, .int .i64 49, .int .i64 0, .int .i64 50, .int .i64 0]) (ok := fun _ => True) (okp := fun _ => True) ?hr ?hp (fun _ hk => hk) trivial (Below.refl _ _) (Nat.le_refl _) (by simp) ?_; (case hd => rfl); (case hg => rfl); (case hr => first | (go_simp; done) | (go_simp; rfl)); (case hp => exact (Reps.c2 (show Kd.M k31 _ _ _ (⟨48, 0⟩ : S31) [.int .i64 48, .int .i64 0] from (k31_mkM _ _ _ (⟨48, 0⟩ : S31) )) (Reps.c2 (show Kd.M k31 _ _ _ (⟨49, 0⟩ : S31) [.int .i64 49, .int .i64 0] from (k31_mkM _ _ _ (⟨49, 0⟩ : S31) )) (Reps.c2 (show Kd.M k31 _ _ _ (⟨50, 0⟩ : S31) [.int .i64 50, .int .i64 0] from (k31_mkM _ _ _ (⟨50, 0⟩ : S31) )) (Reps.none _ _))))); intro v104 w25 ho26 hb hg_ hnew_; clear hg_ hnew_; (first | rw [← Ny103.out] at ho26 | (simp only [Int.reduceToNat] at ho26; rw [← Ny103.out] at ho26)); have n0_ := Aside0.mk (Kd.R_lower ho26 (below_size (by repeat (first | (with_reducible first | exact HB.out | apply below_alloc | apply pw_below_drewN | apply below_drew1) | exact HB.out)))); have n1_ := Aside0.mk (below_step (by repeat (first | (with_reducible first | exact HB.out | apply below_alloc | apply pw_below_drewN | apply below_drew1) | exact HB.out)) hb); clear HB; have HO105 := n0_; have HB := n1_; clear n0_ n1_; clear hb ho26; obtain ⟨Ao27, co27, eo27⟩ := Kd.R_slice HO105.out; subst eo27) | ((with_reducible refine gate_callee (f := 10) rfl ?_); refine goesL_ (some 10) rfl rfl Try.func10 (by kernel_rfl) rfl #[.slice Ao27 y103.length co27] rfl (by (try simp only [List.map_toArray, List.map_cons, List.map_nil]); first | done | rfl | (simp only [List.length_drop, List.length_take]; rfl)) ?_; (with_reducible refine (shape_Match.calls _ _ y103 t106 t107 _ ?side1 ?side2 A1.out).mono ?_); (case side1 => repeat (first | exact (Kd.R_reads' HO105.out).2.2 | (with_reducible refine Kd.C_alloc ?_ _) | (with_reducible refine Kd.C_drewN ?_ _) | (with_reducible refine Kd.C_drew ?_))); (case side2 => exact (Kd.R_reads' HO105.out).2.1); rintro e w28 ⟨v108, rfl, ho0, hb⟩; refine ⟨_, rfl, ?_⟩; have n0_ := Aside0.mk (Kd.R_below (by (with_reducible repeat (first | apply Kd.R_alloc | apply Kd.R_drewN | apply Kd.R_drew)); exact HO105.out) hb); have n1_ := Aside0.mk (Kd.R_lower ho0 (below_size (by repeat (first | (with_reducible first | exact HB.out | apply below_alloc | apply pw_below_drewN | apply below_drew1) | exact HB.out)))); have n2_ := Aside0.mk (below_step (by repeat (first | (with_reducible first | exact HB.out | apply below_alloc | apply pw_below_drewN | apply below_drew1) | exact HB.out)) hb); clear HO105; clear HB; have HO105 := n0_; have HO109 := n1_; have HB := n2_; clear n0_ n1_ n2_; (try clear hb); (try clear hb2); (try clear hk); (try clear hi); (try clear ho0)) | ((with_reducible refine gate_dst (N := 17) rfl ?_); (try (refine gate_guard (by rfl) ?_; dsimp only)); refine Kd.R_lit k31 _ 31 ?hg (N := 17) ?hd (xs := ([(⟨51, 1⟩ : S31), (⟨52, 0⟩ : S31), (⟨50, 0⟩ : S31)] : List (S31))) (inner := [.int .i64 51, .int .i64 1, .int .i64 52, .int .i64 0, .int .i64 50, .int .i64 0]) (ok := fun _ => True) (okp := fun _ => True) ?hr ?hp (fun _ hk => hk) trivial (Below.refl _ _) (Nat.le_refl _) (by simp) ?_; (case hd => rfl); (case hg => rfl); (case hr => first | (go_simp; done) | (go_simp; rfl)); (case hp => exact (Reps.c2 (show Kd.M k31 _ _ _ (⟨51, 1⟩ : S31) [.int .i64 51, .int .i64 1] from (k31_mkM _ _ _ (⟨51, 1⟩ : S31) )) (Reps.c2 (show Kd.M k31 _ _ _ (⟨52, 0⟩ : S31) [.int .i64 52, .int .i64 0] from (k31_mkM _ _ _ (⟨52, 0⟩ : S31) )) (Reps.c2 (show Kd.M k31 _ _ _ (⟨50, 0⟩ : S31) [.int .i64 50, .int .i64 0] from (k31_mkM _ _ _ (⟨50, 0⟩ : S31) )) (Reps.none _ _))))); intro v111 w29 ho30 hb hg_ hnew_; clear hg_ hnew_; (first | rw [← Ny110.out] at ho30 | (simp only [Int.reduceToNat] at ho30; rw [← Ny110.out] at ho30)); have n0_ := Aside0.mk (Kd.R_elder' (by (with_reducible repeat (first | apply Kd.R_alloc | apply Kd.R_drewN | apply Kd.R_drew)); exact HO105.out) (Kd.R_base ho30) hb); have n1_ := Aside0.mk (Kd.R_below (by (with_reducible repeat (first | apply Kd.R_alloc | apply Kd.R_drewN | apply Kd.R_drew)); exact HO109.out) hb); have n2_ := Aside0.mk (Kd.R_lower (Kd.R_new' ho30 (Kd.R_lt (by (with_reducible repeat (first | apply Kd.R_alloc | apply Kd.R_drewN | apply Kd.R_drew)); exact HO105.out))) (below_size (by repeat (first | (with_reducible first | exact HB.out | apply below_alloc | apply pw_below_drewN | apply below_drew1) | exact HB.out)))); have n3_ := Aside0.mk (below_step (by repeat (first | (with_reducible first | exact HB.out | apply below_alloc | apply pw_below_drewN | apply below_drew1) | exact HB.out)) hb); clear HO105; clear HO109; clear HB; have HO105 := n0_; have HO109 := n1_; have HO112 := n2_; have HB := n3_; clear n0_ n1_ n2_ n3_; clear hb ho30; obtain ⟨Ao31, co31, eo31⟩ := Kd.R_slice HO112.out; subst eo31) | ((with_reducible refine gate_callee (f := 10) rfl ?_); refine goesL_ (some 18) rfl rfl Try.func10 (by kernel_rfl) rfl #[.slice Ao31 y110.length co31] rfl (by (try simp only [List.map_toArray, List.map_cons, List.map_nil]); first | done | rfl | (simp only [List.length_drop, List.length_take]; rfl)) ?_; (with_reducible refine (shape_Match.calls _ _ y110 t113 t114 _ ?side1 ?side2 A2.out).mono ?_); (case side1 => repeat (first | exact (Kd.R_reads' HO112.out).2.2 | (with_reducible refine Kd.C_alloc ?_ _) | (with_reducible refine Kd.C_drewN ?_ _) | (with_reducible refine Kd.C_drew ?_))); (case side2 => exact (Kd.R_reads' HO112.out).2.1); rintro e w32 ⟨v115, rfl, ho0, hb⟩; refine ⟨_, rfl, ?_⟩; have n0_ := Aside0.mk (Kd.R_below (by (with_reducible repeat (first | apply Kd.R_alloc | apply Kd.R_drewN | apply Kd.R_drew)); exact HO105.out) hb); have n1_ := Aside0.mk (Kd.R_elder' (by (with_reducible repeat (first | apply Kd.R_alloc | apply Kd.R_drewN | apply Kd.R_drew)); exact HO109.out) (Kd.R_base ho0) hb); have n2_ := Aside0.mk (Kd.R_below (by (with_reducible repeat (first | apply Kd.R_alloc | apply Kd.R_drewN | apply Kd.R_drew)); exact HO112.out) hb); have n3_ := Aside0.mk (Kd.R_lower (Kd.R_new' ho0 (Kd.R_lt (by (with_reducible repeat (first | apply Kd.R_alloc | apply Kd.R_drewN | apply Kd.R_drew)); exact HO109.out))) (below_size (by repeat (first | (with_reducible first | exact HB.out | apply below_alloc | apply pw_below_drewN | apply below_drew1) | exact HB.out)))); have n4_ := Aside0.mk (below_step (by repeat (first | (with_reducible first | exact HB.out | apply below_alloc | apply pw_below_drewN | apply below_drew1) | exact HB.out)) hb); clear HO105; clear HO109; clear HO112; clear HB; have HO105 := n0_; have HO109 := n1_; have HO112 := n2_; have HO116 := n3_; have HB := n4_; clear n0_ n1_ n2_ n3_ n4_; (try clear hb); (try clear hb2); (try clear hk); (try clear hi); (try clear ho0)) | ((with_reducible refine gate_callee (f := 12) rfl ?_); refine goesL_ (some 22) rfl rfl Try.func12 (by kernel_rfl) rfl #[.int .i64 t107] rfl (by (try simp only [List.map_toArray, List.map_cons, List.map_nil]); first | done | rfl | (simp only [List.length_drop, List.length_take]; rfl)) ?_; (with_reducible refine (weighhouselaw06_num.calls t107 t117 _ A3.out).mono ?_); rintro e w' ⟨rfl, ⟨nd, rfl⟩⟩; refine ⟨_, rfl, ?_⟩) | ((with_reducible refine gate_callee (f := 12) rfl ?_); refine goesL_ (some 24) rfl rfl Try.func12 (by kernel_rfl) rfl #[.int .i64 t114] rfl (by (try simp only [List.map_toArray, List.map_cons, List.map_nil]); first | done | rfl | (simp only [List.length_drop, List.length_take]; rfl)) ?_; (with_reducible refine (weighhouselaw06_num.calls t114 t118 _ A4.out).mono ?_); rintro e w' ⟨rfl, ⟨nd, rfl⟩⟩; refine ⟨_, rfl, ?_⟩) | ((with_reducible refine gate_dst (N := 29) rfl ?_); (try (refine gate_guard (by rfl) ?_; dsimp only)); refine Kd.R_lit (Kd.int .i64) _ 3 ?hg (N := 29) ?hd (xs := ([1, 2, 0] : List Int)) (inner := [.int .i64 1, .int .i64 2, .int .i64 0]) (ok := fun _ => True) (okp := fun _ => True) ?hr ?hp (fun _ hk => hk) trivial (Below.refl _ _) (Nat.le_refl _) (by simp) ?_; (case hd => rfl); (case hg => rfl); (case hr => first | (go_simp; done) | (go_simp; rfl)); (case hp => exact (Reps.one (show Kd.M (Kd.int .i64) _ _ _ 1 [.int .i64 1] from rfl) (Reps.one (show Kd.M (Kd.int .i64) _ _ _ 2 [.int .i64 2] from rfl) (Reps.one (show Kd.M (Kd.int .i64) _ _ _ 0 [.int .i64 0] from rfl) (Reps.none _ _))))); intro v120 w33 ho34 hb hg_ hnew_; clear hg_ hnew_; (first | rw [← Ny119.out] at ho34 | (simp only [Int.reduceToNat] at ho34; rw [← Ny119.out] at ho34)); have n0_ := Aside0.mk (Kd.R_below (by (with_reducible repeat (first | apply Kd.R_alloc | apply Kd.R_drewN | apply Kd.R_drew)); exact HO105.out) hb); have n1_ := Aside0.mk (Kd.R_elder' (by (with_reducible repeat (first | apply Kd.R_alloc | apply Kd.R_drewN | apply Kd.R_drew)); exact HO109.out) (Kd.R_base ho34) hb); have n2_ := Aside0.mk (Kd.R_below (by (with_reducible repeat (first | apply Kd.R_alloc | apply Kd.R_drewN | apply Kd.R_drew)); exact HO112.out) hb); have n3_ := Aside0.mk (Kd.R_elder' (by (with_reducible repeat (first | apply Kd.R_alloc | apply Kd.R_drewN | apply Kd.R_drew)); exact HO116.out) (Kd.R_base ho34) hb); have n4_ := Aside0.mk (Kd.R_lower (Kd.R_new' (Kd.R_new' ho34 (Kd.R_lt (by (with_reducible repeat (first | apply Kd.R_alloc | apply Kd.R_drewN | apply Kd.R_drew)); exact HO109.out))) (Kd.R_lt (by (with_reducible repeat (first | apply Kd.R_alloc | apply Kd.R_drewN | apply Kd.R_drew)); exact HO116.out))) (below_size (by repeat (first | (with_reducible first | exact HB.out | apply below_alloc | apply pw_below_drewN | apply below_drew1) | exact HB.out)))); have n5_ := Aside0.mk (below_step (by repeat (first | (with_reducible first | exact HB.out | apply below_alloc | apply pw_below_drewN | apply below_drew1) | exact HB.out)) hb); clear HO105; clear HO109; clear HO112; clear HO116; clear HB; have HO105 := n0_; have HO109 := n1_; have HO112 := n2_; have HO116 := n3_; have HO121 := n4_; have HB := n5_; clear n0_ n1_ n2_ n3_ n4_ n5_; clear hb ho34; obtain ⟨Ao35, co35, eo35⟩ := Kd.R_slice HO109.out; subst eo35; obtain ⟨Ao36, co36, eo36⟩ := Kd.R_slice HO121.out; subst eo36) | (go_at_call 18; (with_reducible refine (weighhouselaw03_Ints.calls k _ _ t106 _ _ y119 false _ ?side1 ?side2 ?side3 ?side4 A6.out).mono ?_); (case side1 => repeat (first | exact (Kd.R_reads' HO109.out).2.2 | (with_reducible refine Kd.C_alloc ?_ _) | (with_reducible refine Kd.C_drewN ?_ _) | (with_reducible refine Kd.C_drew ?_))); (case side2 => exact (Kd.R_reads' HO109.out).2.1); (case side3 => repeat (first | exact (Kd.R_reads' HO121.out).2.2 | (with_reducible refine Kd.C_alloc ?_ _) | (with_reducible refine Kd.C_drewN ?_ _) | (with_reducible refine Kd.C_drew ?_))); (case side4 => exact (Kd.R_reads' HO121.out).2.1); rintro e w' ⟨rfl, ⟨nd, rfl⟩⟩))
      go_ret
      exact ⟨by first | rfl | (simp [errW_none, errW_some] <;> rfl) | (simp [*, errW_none, errW_some] <;> rfl), by repeat (first | (with_reducible first | exact HB.out | apply below_alloc | apply pw_below_drewN | apply below_drew1) | exact HB.out)⟩
  · rw [if_neg c5] at H
    have c5b0 : ((wrap64 (t117 + t118)) == 0) = false := beq_eq_false_iff_ne.mpr c5
    have c5b1 : ((wrap64 (t117 + t118)) != 0) = true := bne_iff_ne.mpr c5
    obtain rfl := Option.some.inj H
    go_enter Try.func9, Try.ntmps9
    go_wp2_with (first | ((with_reducible refine gate_dst (N := 9) rfl ?_); (try (refine gate_guard (by rfl) ?_; dsimp only)); refine Kd.R_lit k31 _ 31 ?hg (N := 9) ?hd (xs := ([(⟨48, 0⟩ : S31), (⟨49, 0⟩ : S31), (⟨50, 0⟩ : S31)] : List (S31))) (inner := [.int .i64 48, .int .i64 0, .int .i64 49, .int .i64 0, .int .i64 50, .int .i64 0]) (ok := fun _ => True) (okp := fun _ => True) ?hr ?hp (fun _ hk => hk) trivial (Below.refl _ _) (Nat.le_refl _) (by simp) ?_; (case hd => rfl); (case hg => rfl); (case hr => first | (go_simp; done) | (go_simp; rfl)); (case hp => exact (Reps.c2 (show Kd.M k31 _ _ _ (⟨48, 0⟩ : S31) [.int .i64 48, .int .i64 0] from (k31_mkM _ _ _ (⟨48, 0⟩ : S31) )) (Reps.c2 (show Kd.M k31 _ _ _ (⟨49, 0⟩ : S31) [.int .i64 49, .int .i64 0] from (k31_mkM _ _ _ (⟨49, 0⟩ : S31) )) (Reps.c2 (show Kd.M k31 _ _ _ (⟨50, 0⟩ : S31) [.int .i64 50, .int .i64 0] from (k31_mkM _ _ _ (⟨50, 0⟩ : S31) )) (Reps.none _ _))))); intro v104 w37 ho38 hb hg_ hnew_; clear hg_ hnew_; (first | rw [← Ny103.out] at ho38 | (simp only [Int.reduceToNat] at ho38; rw [← Ny103.out] at ho38)); have n0_ := Aside0.mk (Kd.R_lower ho38 (below_size (by repeat (first | (with_reducible first | exact HB.out | apply below_alloc | apply pw_below_drewN | apply below_drew1) | exact HB.out)))); have n1_ := Aside0.mk (below_step (by repeat (first | (with_reducible first | exact HB.out | apply below_alloc | apply pw_below_drewN | apply below_drew1) | exact HB.out)) hb); clear HB; have HO105 := n0_; have HB := n1_; clear n0_ n1_; clear hb ho38; obtain ⟨Ao39, co39, eo39⟩ := Kd.R_slice HO105.out; subst eo39) | ((with_reducible refine gate_callee (f := 10) rfl ?_); refine goesL_ (some 10) rfl rfl Try.func10 (by kernel_rfl) rfl #[.slice Ao39 y103.length co39] rfl (by (try simp only [List.map_toArray, List.map_cons, List.map_nil]); first | done | rfl | (simp only [List.length_drop, List.length_take]; rfl)) ?_; (with_reducible refine (shape_Match.calls _ _ y103 t106 t107 _ ?side1 ?side2 A1.out).mono ?_); (case side1 => repeat (first | exact (Kd.R_reads' HO105.out).2.2 | (with_reducible refine Kd.C_alloc ?_ _) | (with_reducible refine Kd.C_drewN ?_ _) | (with_reducible refine Kd.C_drew ?_))); (case side2 => exact (Kd.R_reads' HO105.out).2.1); rintro e w40 ⟨v108, rfl, ho0, hb⟩; refine ⟨_, rfl, ?_⟩; have n0_ := Aside0.mk (Kd.R_below (by (with_reducible repeat (first | apply Kd.R_alloc | apply Kd.R_drewN | apply Kd.R_drew)); exact HO105.out) hb); have n1_ := Aside0.mk (Kd.R_lower ho0 (below_size (by repeat (first | (with_reducible first | exact HB.out | apply below_alloc | apply pw_below_drewN | apply below_drew1) | exact HB.out)))); have n2_ := Aside0.mk (below_step (by repeat (first | (with_reducible first | exact HB.out | apply below_alloc | apply pw_below_drewN | apply below_drew1) | exact HB.out)) hb); clear HO105; clear HB; have HO105 := n0_; have HO109 := n1_; have HB := n2_; clear n0_ n1_ n2_; (try clear hb); (try clear hb2); (try clear hk); (try clear hi); (try clear ho0)) | ((with_reducible refine gate_dst (N := 17) rfl ?_); (try (refine gate_guard (by rfl) ?_; dsimp only)); refine Kd.R_lit k31 _ 31 ?hg (N := 17) ?hd (xs := ([(⟨51, 1⟩ : S31), (⟨52, 0⟩ : S31), (⟨50, 0⟩ : S31)] : List (S31))) (inner := [.int .i64 51, .int .i64 1, .int .i64 52, .int .i64 0, .int .i64 50, .int .i64 0]) (ok := fun _ => True) (okp := fun _ => True) ?hr ?hp (fun _ hk => hk) trivial (Below.refl _ _) (Nat.le_refl _) (by simp) ?_; (case hd => rfl); (case hg => rfl); (case hr => first | (go_simp; done) | (go_simp; rfl)); (case hp => exact (Reps.c2 (show Kd.M k31 _ _ _ (⟨51, 1⟩ : S31) [.int .i64 51, .int .i64 1] from (k31_mkM _ _ _ (⟨51, 1⟩ : S31) )) (Reps.c2 (show Kd.M k31 _ _ _ (⟨52, 0⟩ : S31) [.int .i64 52, .int .i64 0] from (k31_mkM _ _ _ (⟨52, 0⟩ : S31) )) (Reps.c2 (show Kd.M k31 _ _ _ (⟨50, 0⟩ : S31) [.int .i64 50, .int .i64 0] from (k31_mkM _ _ _ (⟨50, 0⟩ : S31) )) (Reps.none _ _))))); intro v111 w41 ho42 hb hg_ hnew_; clear hg_ hnew_; (first | rw [← Ny110.out] at ho42 | (simp only [Int.reduceToNat] at ho42; rw [← Ny110.out] at ho42)); have n0_ := Aside0.mk (Kd.R_elder' (by (with_reducible repeat (first | apply Kd.R_alloc | apply Kd.R_drewN | apply Kd.R_drew)); exact HO105.out) (Kd.R_base ho42) hb); have n1_ := Aside0.mk (Kd.R_below (by (with_reducible repeat (first | apply Kd.R_alloc | apply Kd.R_drewN | apply Kd.R_drew)); exact HO109.out) hb); have n2_ := Aside0.mk (Kd.R_lower (Kd.R_new' ho42 (Kd.R_lt (by (with_reducible repeat (first | apply Kd.R_alloc | apply Kd.R_drewN | apply Kd.R_drew)); exact HO105.out))) (below_size (by repeat (first | (with_reducible first | exact HB.out | apply below_alloc | apply pw_below_drewN | apply below_drew1) | exact HB.out)))); have n3_ := Aside0.mk (below_step (by repeat (first | (with_reducible first | exact HB.out | apply below_alloc | apply pw_below_drewN | apply below_drew1) | exact HB.out)) hb); clear HO105; clear HO109; clear HB; have HO105 := n0_; have HO109 := n1_; have HO112 := n2_; have HB := n3_; clear n0_ n1_ n2_ n3_; clear hb ho42; obtain ⟨Ao43, co43, eo43⟩ := Kd.R_slice HO112.out; subst eo43) | ((with_reducible refine gate_callee (f := 10) rfl ?_); refine goesL_ (some 18) rfl rfl Try.func10 (by kernel_rfl) rfl #[.slice Ao43 y110.length co43] rfl (by (try simp only [List.map_toArray, List.map_cons, List.map_nil]); first | done | rfl | (simp only [List.length_drop, List.length_take]; rfl)) ?_; (with_reducible refine (shape_Match.calls _ _ y110 t113 t114 _ ?side1 ?side2 A2.out).mono ?_); (case side1 => repeat (first | exact (Kd.R_reads' HO112.out).2.2 | (with_reducible refine Kd.C_alloc ?_ _) | (with_reducible refine Kd.C_drewN ?_ _) | (with_reducible refine Kd.C_drew ?_))); (case side2 => exact (Kd.R_reads' HO112.out).2.1); rintro e w44 ⟨v115, rfl, ho0, hb⟩; refine ⟨_, rfl, ?_⟩; have n0_ := Aside0.mk (Kd.R_below (by (with_reducible repeat (first | apply Kd.R_alloc | apply Kd.R_drewN | apply Kd.R_drew)); exact HO105.out) hb); have n1_ := Aside0.mk (Kd.R_elder' (by (with_reducible repeat (first | apply Kd.R_alloc | apply Kd.R_drewN | apply Kd.R_drew)); exact HO109.out) (Kd.R_base ho0) hb); have n2_ := Aside0.mk (Kd.R_below (by (with_reducible repeat (first | apply Kd.R_alloc | apply Kd.R_drewN | apply Kd.R_drew)); exact HO112.out) hb); have n3_ := Aside0.mk (Kd.R_lower (Kd.R_new' ho0 (Kd.R_lt (by (with_reducible repeat (first | apply Kd.R_alloc | apply Kd.R_drewN | apply Kd.R_drew)); exact HO109.out))) (below_size (by repeat (first | (with_reducible first | exact HB.out | apply below_alloc | apply pw_below_drewN | apply below_drew1) | exact HB.out)))); have n4_ := Aside0.mk (below_step (by repeat (first | (with_reducible first | exact HB.out | apply below_alloc | apply pw_below_drewN | apply below_drew1) | exact HB.out)) hb); clear HO105; clear HO109; clear HO112; clear HB; have HO105 := n0_; have HO109 := n1_; have HO112 := n2_; have HO116 := n3_; have HB := n4_; clear n0_ n1_ n2_ n3_ n4_; (try clear hb); (try clear hb2); (try clear hk); (try clear hi); (try clear ho0)) | ((with_reducible refine gate_callee (f := 12) rfl ?_); refine goesL_ (some 22) rfl rfl Try.func12 (by kernel_rfl) rfl #[.int .i64 t107] rfl (by (try simp only [List.map_toArray, List.map_cons, List.map_nil]); first | done | rfl | (simp only [List.length_drop, List.length_take]; rfl)) ?_; (with_reducible refine (weighhouselaw06_num.calls t107 t117 _ A3.out).mono ?_); rintro e w' ⟨rfl, ⟨nd, rfl⟩⟩; refine ⟨_, rfl, ?_⟩) | ((with_reducible refine gate_callee (f := 12) rfl ?_); refine goesL_ (some 24) rfl rfl Try.func12 (by kernel_rfl) rfl #[.int .i64 t114] rfl (by (try simp only [List.map_toArray, List.map_cons, List.map_nil]); first | done | rfl | (simp only [List.length_drop, List.length_take]; rfl)) ?_; (with_reducible refine (weighhouselaw06_num.calls t114 t118 _ A4.out).mono ?_); rintro e w' ⟨rfl, ⟨nd, rfl⟩⟩; refine ⟨_, rfl, ?_⟩))
    go_ret
    exact ⟨by first | rfl | (simp [errW_none, errW_some] <;> rfl) | (simp [*, errW_none, errW_some] <;> rfl), by repeat (first | (with_reducible first | exact HB.out | apply below_alloc | apply pw_below_drewN | apply below_drew1) | exact HB.out)⟩

end Go.Proofs.Ytbdmbkmokhaflaa.Q
end

section
-- written by hprint.py (a program of these sessions) out of the translation; Lean checks it
namespace Go.Proofs.Ytbdmbkmokhaflaa.Q
open Go.RowKit Go.Proofs.YtbdmbkmokhaflaaW.Hb Go.Proofs.YtbdmbkmokhaflaaW.PrintWords Go.Proofs.YtbdmbkmokhaflaaW.PrintLast Go.Proofs.YtbdmbkmokhaflaaW.PrintMore
attribute [local go_sem] max2_int min2_int max_two min_two max_three min_three max_four min_four   -- for this text's walks alone
set_option linter.unusedVariables false
set_option linter.unusedSimpArgs false

/-! ### weighhouselaw06_Own: function 11 -/
def weighhouselaw06_Own.f (l0 : List (S31)) : Option ((List (S31))) := (some (([] : List (S31)) : List (S31))).bind fun y127 => (if y127.length + l0.length < 8796093022208 then (some (y127 ++ l0)) else (none))
set_option maxHeartbeats 8000000 in
set_option maxRecDepth 100000 in
theorem weighhouselaw06_Own.calls (A0 : Option Addr) (c0 : Nat) (l0 : List (S31)) (r : List (S31)) (w : World) (hr0 : Kd.C k31 w A0 l0.length l0) (hc0 : l0.length ≤ c0) (h : weighhouselaw06_Own.f l0 = some r) :
    Calls Try.prog 11 #[.slice A0 l0.length c0] w fun e w' => ∃ v0_ : Value, e = .returned (v0_) ∧ Kd.R k31 31 w' w.heap.size (fun _ => True) v0_ r ∧ Below w.heap.size w w' := by
  have HR0 := Aside0.mk hr0
  have HC0 := Aside0.mk hc0
  clear hr0 hc0
  have HB := Aside0.mk (Below.refl w.heap.size w)
  have H : ((some (([] : List (S31)) : List (S31))).bind fun y127 => (if y127.length + l0.length < 8796093022208 then (some (y127 ++ l0)) else (none))) = some r := h
  clear h
  obtain ⟨y127, hy127⟩ : ∃ y_ : List (S31), y_ = (([] : List (S31))) := ⟨_, rfl⟩
  replace H : (if y127.length + l0.length < 8796093022208 then (some (y127 ++ l0)) else (none)) = some r := by first | (rw [hy127]; with_reducible exact H) | (have H2_ := (Option.bind_some _ _).symm.trans H; rw [hy127]; with_reducible exact H2_) | (have H2_ := (Option.bind_some _ _).symm.trans H; with_reducible exact H2_) | with_reducible exact H | (rw [hy127]; exact H) | exact H
  have Ny127 := Aside0.mk hy127
  clear hy127
  by_cases c2 : y127.length + l0.length < 8796093022208
  · rw [if_pos c2] at H
    have LMc2 := Aside0.mk c2
    clear c2
    obtain ⟨y130, hy130⟩ : ∃ y_ : List (S31), y_ = (y127 ++ l0) := ⟨_, rfl⟩
    replace H : (some y130) = some r := by first | (rw [hy130]; with_reducible exact H) | (have H2_ := (Option.bind_some _ _).symm.trans H; rw [hy130]; with_reducible exact H2_) | (have H2_ := (Option.bind_some _ _).symm.trans H; with_reducible exact H2_) | with_reducible exact H | (rw [hy130]; exact H) | exact H
    have Ny130 := Aside0.mk hy130
    clear hy130
    obtain rfl := Option.some.inj H
    go_enter Try.func11, Try.ntmps11
    go_wp2_with (first | ((with_reducible refine gate_dst (N := 3) rfl ?_); refine Kd.R_lit k31 _ 31 ?hg (N := 3) ?hd (xs := ([] : List (S31))) (inner := []) (ok := fun _ => True) (okp := fun _ => True) ?hr ?hp (fun _ hk => hk) trivial (Below.refl _ _) (Nat.le_refl _) (by simp) ?_; (case hd => rfl); (case hg => rfl); (case hr => first | (go_simp; done) | (go_simp; rfl)); (case hp => exact (Reps.none _ _)); intro v128 w3 ho4 hb hg_ hnew_; clear hg_ hnew_; (first | rw [← Ny127.out] at ho4 | (simp only [Int.reduceToNat] at ho4; rw [← Ny127.out] at ho4)); have n0_ := Aside0.mk (Kd.R_lower ho4 (below_size (by repeat (first | (with_reducible first | exact HB.out | apply below_alloc | apply pw_below_drewN | apply below_drew1) | exact HB.out)))); have n1_ := Aside0.mk (below_step (by repeat (first | (with_reducible first | exact HB.out | apply below_alloc | apply pw_below_drewN | apply below_drew1) | exact HB.out)) hb); clear HB; have HO129 := n0_; have HB := n1_; clear n0_ n1_; clear hb ho4) | ((with_reducible refine gate_builtin (b := .append) (xs := #[.tmp 3, .tmp 4]) rfl ?_); at_builtin; refine Kd.R_append_rows k31 (w0 := w) w.heap.size rfl (.tmp 3) (.tmp 4) 22 31 (.agg #[(.int .i64 0), (.int .i64 0)]) 16 rfl Try.underlying22 info31 rfl (by decide) (by omega) v128 y127 l0 _ _ _ (fun _ => True) (fun _ => False) rfl rfl ?aO ?aR (fun _ _ h => h) (fun _ h => h.elim) ?aF ?aB ?aS ?aL ?_; (case aR => repeat (first | exact (Kd.C_below HR0.out HB.out) | (with_reducible refine Kd.C_alloc ?_ _) | (with_reducible refine Kd.C_drewN ?_ _) | (with_reducible refine Kd.C_drew ?_))); (case aB => exact (by repeat (first | (with_reducible first | exact HB.out | apply below_alloc | apply pw_below_drewN | apply below_drew1) | exact HB.out))); (case aF => exact (fun _ _ => trivial)); (case aO => exact (by (with_reducible repeat (first | apply Kd.R_alloc | apply Kd.R_drewN | apply Kd.R_drew)); exact HO129.out)); (case aS => exact (below_size (by repeat (first | (with_reducible first | exact HB.out | apply below_alloc | apply pw_below_drewN | apply below_drew1) | exact HB.out)))); (case aL => have := LMc2.out; omega); intro v131 w5 ho hb hg hat; rw [← Ny130.out] at ho; have n0_ := Aside0.mk (hb); have n1_ := Aside0.mk (ho); clear HB; clear HO129; have HB := n0_; have HO132 := n1_; clear n0_ n1_; clear ho hb hg hat))
    go_ret
    exact ⟨_, by first | rfl | (simp [errW_none, errW_some] <;> rfl) | (simp [*, errW_none, errW_some] <;> rfl), by (with_reducible repeat (first | apply Kd.R_alloc | apply Kd.R_drewN | apply Kd.R_drew)); exact HO132.out, by repeat (first | (with_reducible first | exact HB.out | apply below_alloc | apply pw_below_drewN | apply below_drew1) | exact HB.out)⟩
  · rw [if_neg c2] at H
    exact absurd H (by simp)

end Go.Proofs.Ytbdmbkmokhaflaa.Q
end

section
-- written by hprint.py (a program of these sessions) out of the translation; Lean checks it
namespace Go.Proofs.Ytbdmbkmokhaflaa.Q
open Go.RowKit Go.Proofs.YtbdmbkmokhaflaaW.Hb Go.Proofs.YtbdmbkmokhaflaaW.PrintWords Go.Proofs.YtbdmbkmokhaflaaW.PrintLast Go.Proofs.YtbdmbkmokhaflaaW.PrintMore
attribute [local go_sem] max2_int min2_int max_two min_two max_three min_three max_four min_four   -- for this text's walks alone
set_option linter.unusedVariables false
set_option linter.unusedSimpArgs false

/-! ### weighhouselaw06_ShapePairs: function 3, by hand -/
def segL (cs : List Ins) (f k : Nat) : List Ins := ((cs.take k).drop f).filter (fun x => decide (x.f0 ≠ 52))
theorem segL_start (cs : List Ins) (f : Nat) : segL cs f f = [] := by
  unfold segL
  rw [List.drop_eq_nil_of_le (by rw [List.length_take]; omega)]
  rfl
theorem segL_succ {cs : List Ins} {f k : Nat} (hf : f ≤ k) (hk : k < cs.length) : segL cs f (k + 1) = segL cs f k ++ (if cs[k].f0 = 52 then [] else [cs[k]]) := by
  unfold segL
  rw [List.take_succ_eq_append_getElem hk, List.drop_append_of_le_length (by rw [List.length_take]; omega), List.filter_append]
  congr 1
  by_cases h : cs[k].f0 = 52
  · rw [if_pos h]
    simp [h]
  · rw [if_neg h]
    simp [h]
theorem segL_len (cs : List Ins) (f k : Nat) : (segL cs f k).length ≤ cs.length := by
  unfold segL
  refine Nat.le_trans (List.length_filter_le _ _) ?_
  rw [List.length_drop, List.length_take]
  omega
/-- What a round finds when all is well. -/
def RoundOk (cs : List Ins) (m : List Int) (i : Nat) : Prop :=
  ∃ v : Int, m[i]? = some v ∧ -1 ≤ v ∧ v < cs.length ∧ (opAt cs i = 52 → ∃ e : Nat, v = e ∧ i < e ∧ e < cs.length ∧ opAt cs e = 50) ∧
    (opAt cs i = 50 → ∃ a f : Nat, v = a ∧ a < i ∧ a < f ∧ f ≤ i ∧ ((m[a]? = some (i : Int) ∧ f = a + 1 ∧ (opAt cs a = 48 ∨ opAt cs a = 51)) ∨ ∃ x : Nat, opAt cs a = 48 ∧ m[a]? = some (x : Int) ∧ a < x ∧ x < i ∧ opAt cs x = 49 ∧ m[x]? = some (i : Int) ∧ f = x + 1) ∧ ∃ m', scanAll (segL cs f i) = some m')
open Classical in
noncomputable def weighhouselaw06_ShapePairs.f (k : Nat) (l0 : List Ins) : Option Bool :=
  if 200 < l0.length ∨ (∀ m, scanAll l0 = some m → m.length = l0.length ∧ ∀ i, i < l0.length → RoundOk l0 m i) then weighhouselaw06_knows.f k else none
theorem C_at {w : World} {A : Option Addr} {n : Nat} {xs : List Int} (h : (Kd.int .i64).C w A n xs) {i : Nat} {v : Int} (hv : xs[i]? = some v) : ∃ ad, A = some ad ∧ w.cell? (ad.add i) = some (.int .i64 v) := by
  have hi : i < xs.length := by
    rcases Nat.lt_or_ge i xs.length with hl | hl
    · exact hl
    · rw [List.getElem?_eq_none hl] at hv
      cases hv
  obtain ⟨ad, e, hc⟩ := at_intN h i hi
  rw [List.getElem?_eq_getElem hi] at hv
  exact ⟨ad, e, by rw [hc, Option.some.inj hv]⟩
theorem I_at {w : World} {A : Option Addr} {n : Nat} {xs : List Ins} (h : Kd.C k31 w A n xs) {i : Nat} (hi : i < xs.length) : ∃ ad, A = some ad ∧ w.cell? (ad.add (i * 2)) = some (.int .i64 (opAt xs i)) := by
  obtain ⟨ad, e, h0, _⟩ := at_Ins h i hi
  exact ⟨ad, e, by rw [h0, opAt_lt hi]⟩
set_option maxRecDepth 100000 in
set_option maxHeartbeats 8000000 in
theorem weighhouselaw06_ShapePairs.calls (k : Nat) (A0 : Option Addr) (c0 : Nat) (l0 : List (S31)) (r : Bool) (w : World) (hr0 : Kd.C k31 w A0 l0.length l0) (hc0 : l0.length ≤ c0) (h : weighhouselaw06_ShapePairs.f k l0 = some r) :
    Calls Try.prog 3 #[.slice A0 l0.length c0] w fun e w' => e = .returned (.bool r) ∧ Below w.heap.size w w' := by
  unfold weighhouselaw06_ShapePairs.f at h
  split at h
  rotate_left
  · cases h
  rename_i hcond
  have HKN := Aside0.mk (fun w' => weighhouselaw06_knows.calls k r w' h)
  have HR := Aside0.mk hr0
  have HC0 := Aside0.mk hc0
  have HB := Aside0.mk (Below.refl w.heap.size w)
  clear hr0 hc0 h
  by_cases hbig : 200 < l0.length
  · have q1 : (l0.length : Int) > 200 := by omega
    clear hcond
    go_enter Try.func3, Try.ntmps3
    go_wp2_with (go_at_call 9; (with_reducible refine (HKN.out _).mono ?_); rintro e w' ⟨rfl, hb⟩; have HB2 := Aside0.mk hb; clear hb)
    go_ret
    exact ⟨rfl, HB2.out⟩
  · have hok := hcond.resolve_left hbig
    have hlen : l0.length ≤ 200 := by omega
    have q1 : ¬ (l0.length : Int) > 200 := by omega
    clear hcond
    have HOWN := Aside0.mk (weighhouselaw06_Own.calls A0 c0 l0 l0 w HR.out HC0.out (by
      unfold weighhouselaw06_Own.f
      rw [Option.bind_some, if_pos (by simp; omega)]
      rfl))
    have HMF := Aside0.mk (show shape_Match.f l0 = some (match scanAll l0 with | none => ([], 31) | some m => (m, 0)) from if_pos (by omega))
    cases hs : scanAll l0 with
    | none =>
      rw [hs] at HMF
      clear hok hs
      go_enter Try.func3, Try.ntmps3
      go_wp2_with (first | (go_at_call 11; (with_reducible refine HOWN.out.mono ?_); rintro e w1 ⟨v1, rfl, hR1, hb1⟩; obtain ⟨A1, c1, rfl, hc1, hC1⟩ := Kd.R_reads hR1; have HR1 := Aside0.mk hC1; have HB1 := Aside0.mk hb1; clear hR1 hb1 hC1) | (go_at_call 10; (with_reducible refine (shape_Match.calls _ _ l0 [] 31 _ HR1.out hc1 HMF.out).mono ?_); rintro e w2 ⟨v2, rfl, hR2, hb2⟩; obtain ⟨A2, c2, rfl, hc2, hC2⟩ := Kd.R_reads hR2; have HB2 := Aside0.mk (HB1.out.trans (hb2.mono HB1.out.size)); clear hR2 hb2 hC2) | (go_at_call 12; (with_reducible refine (weighhouselaw06_num.calls 31 31 _ rfl).mono ?_); rintro e w3 ⟨rfl, ⟨nd, rfl⟩⟩) | (go_at_call 9; (with_reducible refine (HKN.out _).mono ?_); rintro e w4 ⟨rfl, hb⟩; have HB4 := Aside0.mk hb; clear hb))
      go_ret
      exact ⟨rfl, (pw_below_drewN HB2.out nd).trans (HB4.out.mono (by have := HB2.out.size; show w.heap.size ≤ w2.heap.size; omega))⟩
    | some m =>
      obtain ⟨hml, hrd⟩ := hok m hs
      rw [hs] at HMF
      have HRD := Aside0.mk hrd
      have HML := Aside0.mk hml
      clear hok hs hrd
      have hmlb : ((m.length : Int) != (l0.length : Int)) = false := by rw [hml]; simp
      go_enter Try.func3, Try.ntmps3
      go_wp2_with (first | (go_at_call 11; (with_reducible refine HOWN.out.mono ?_); rintro e w1 ⟨v1, rfl, hR1, hb1⟩; obtain ⟨A1, c1, rfl, hc1, hC1⟩ := Kd.R_reads hR1; have HR1 := Aside0.mk hC1; have HB1 := Aside0.mk hb1; clear hR1 hb1 hC1) | (go_at_call 10; (with_reducible refine (shape_Match.calls _ _ l0 m 0 _ HR1.out hc1 HMF.out).mono ?_); rintro e w2 ⟨v2, rfl, hR2, hb2⟩; obtain ⟨A2, c2, rfl, hc2, hC2⟩ := Kd.R_reads hR2; have HM2 := Aside0.mk hC2; have HB2 := Aside0.mk (HB1.out.trans (hb2.mono HB1.out.size)); clear hR2 hb2 hC2) | (go_at_call 12; (with_reducible refine (weighhouselaw06_num.calls 0 0 _ rfl).mono ?_); rintro e w3 ⟨rfl, ⟨nd, rfl⟩⟩; have HM3 := Aside0.mk (Kd.C_drewN HM2.out nd); have HB3 := Aside0.mk (pw_below_drewN HB2.out nd)))
      generalize w2.drewN nd = W2 at HM3 HB3 ⊢
      clear HM2 HB2 HR1 HB1 hmlb
      go_loopw [5] (fun v wr => ∃ i : Nat, i ≤ l0.length ∧ v = .int .i64 i ∧ Aside0 (Below W2.heap.size W2 wr)) (fun v _ => l0.length - (intOf v).toNat)
      case atStart => exact ⟨0, Nat.zero_le _, rfl, ⟨Below.refl _ _⟩⟩
      case round =>
        obtain ⟨i, hi, rfl, HBr⟩ := hrel
        by_cases hil : i < l0.length
        · obtain ⟨v, hv, v1, v2, hleave, hend⟩ := HRD.out i hil
          have HW := Aside0.mk (HB3.out.trans (HBr.out.mono HB3.out.size))
          have HI := Aside0.mk (Kd.C_below HR.out HW.out)
          have HMr := Aside0.mk (Kd.C_below HM3.out HBr.out)
          obtain ⟨ad, eA, ki⟩ := I_at HI.out hil
          cases eA
          obtain ⟨am, eM, km⟩ := C_at HMr.out hv
          cases eM
          have q1 : (i : Int) < (l0.length : Int) := by omega
          have q2 : (i : Int) < (m.length : Int) := by omega
          have q3 : ¬ v < -1 := by omega
          have q4 : ¬ v ≥ (l0.length : Int) := by omega
          have hwi : wrap64 ((i : Int) + 1) = (i : Int) + 1 := by unfold wrap64; omega
          go_upto_region 11 with (fail)
          go_cut [83] (fun v83 wc => v83 = .bool false ∧ wr = wc)
          case first =>
            by_cases h52 : opAt l0 i = 52
            · obtain ⟨e, rfl, e1, e2, e3⟩ := hleave h52
              obtain ⟨ad', eA', ke⟩ := I_at HI.out e2
              cases eA'
              rw [h52] at ki
              rw [e3] at ke
              have q5 : ¬ (e : Int) ≤ (i : Int) := by omega
              have q6 : (e : Int) < (l0.length : Int) := by omega
              clear hend h52 hv hleave e3
              go_wp2
              go_meet
              case rel => exact ⟨rfl, rfl⟩
            · obtain ⟨o, ho⟩ : ∃ o, opAt l0 i = o := ⟨_, rfl⟩
              rw [ho] at ki h52
              have d52 : (o == 52) = false := by simp; exact h52
              clear hend hleave hv ho h52
              go_wp2
              go_meet
              case rel => exact ⟨rfl, rfl⟩
          case rest => as_aux_lemma =>
            obtain ⟨rfl, rfl⟩ := hcut
            clear hleave q3 q4
            by_cases h50 : opAt l0 i = 50
            · obtain ⟨a, f, rfl, a1, a3, a4, hown, m9, hm9⟩ := hend h50
              rw [h50] at ki
              clear h50 hend hv
              have hal : a < l0.length := by omega
              obtain ⟨ad', eA', ka⟩ := I_at HI.out hal
              cases eA'
              have y1 : (a : Int) < (l0.length : Int) := by omega
              have y2 : (a : Int) < (m.length : Int) := by omega
              have y3 : ¬ (a : Int) < 0 := by omega
              have y4 : ¬ (a : Int) ≥ (i : Int) := by omega
              have HOW := Aside0.mk hown
              have hop2 : opAt l0 a = 48 ∨ opAt l0 a = 51 := by
                rcases hown with ⟨_, _, h⟩ | ⟨_, h, _⟩
                · exact h
                · exact .inl h
              clear hown
              go_upto_region 15 with (fail)
              go_cut [116] (fun v116 wc => v116 = .bool false ∧ wr = wc)
              case first =>
                rcases hop2 with h48 | h51
                · rw [h48] at ka
                  clear h48
                  go_wp2
                  go_meet
                  case rel => exact ⟨rfl, rfl⟩
                · rw [h51] at ka
                  clear h51
                  go_wp2
                  go_meet
                  case rel => exact ⟨rfl, rfl⟩
              case rest =>
                obtain ⟨rfl, rfl⟩ := hcut
                clear ka hop2
                go_upto_region 17 with (fail)
                go_cut [7] (fun v7 wc => v7 = .bool true ∧ wr = wc)
                case first =>
                  rcases HOW.out with ⟨hma, _, _⟩ | ⟨x, _, hma, b1, b2, h49, hmx, _⟩
                  · obtain ⟨am', eM', kma⟩ := C_at HMr.out hma
                    cases eM'
                    clear hma
                    go_wp2
                    go_meet
                    case rel => exact ⟨rfl, rfl⟩
                  · obtain ⟨am', eM', kma⟩ := C_at HMr.out hma
                    cases eM'
                    obtain ⟨am', eM', kmx⟩ := C_at HMr.out hmx
                    cases eM'
                    obtain ⟨ad2, eA2, kx⟩ := I_at HI.out (by omega : x < l0.length)
                    cases eA2
                    rw [h49] at kx
                    have x3 : (x : Int) < (l0.length : Int) := by omega
                    have x4 : (x : Int) < (m.length : Int) := by omega
                    have x5 : ((x : Int) == (i : Int)) = false := by simp; omega
                    have x6 : (x : Int) > (a : Int) := by omega
                    have x7 : (x : Int) < (i : Int) := by omega
                    clear hma hmx h49
                    go_wp2
                    go_meet
                    case rel => exact ⟨rfl, rfl⟩
                case rest =>
                  obtain ⟨rfl, rfl⟩ := hcut
                  have hwa2 : wrap64 ((a : Int) + 1) = (a : Int) + 1 := by unfold wrap64; omega
                  go_upto_region 21 with (fail)
                  go_cut [170] (fun v wc => ∃ b : Bool, v = .bool b ∧ wr = wc ∧ Aside0 ((b = false ∧ f = a + 1) ∨ (b = true ∧ ∃ x : Nat, m[a]? = some (x : Int) ∧ f = x + 1 ∧ x < i)))
                  case first =>
                    rcases HOW.out with ⟨hma, hf, _⟩ | ⟨x, _, hma, b1, b2, h49, hmx, hf⟩
                    · obtain ⟨am', eM', kma⟩ := C_at HMr.out hma
                      cases eM'
                      have HX := Aside0.mk hf
                      clear hma hf
                      go_wp2
                      go_meet
                      case rel => exact ⟨_, rfl, rfl, ⟨.inl ⟨rfl, HX.out⟩⟩⟩
                    · obtain ⟨am', eM', kma⟩ := C_at HMr.out hma
                      cases eM'
                      have x8 : ((x : Int) != (i : Int)) = true := by simp; omega
                      have HX := Aside0.mk (show ∃ x : Nat, m[a]? = some (x : Int) ∧ f = x + 1 ∧ x < i from ⟨x, hma, hf, b2⟩)
                      clear hma hmx h49 hf
                      go_wp2
                      go_meet
                      case rel => exact ⟨_, rfl, rfl, ⟨.inr ⟨rfl, HX.out⟩⟩⟩
                  case rest =>
                    obtain ⟨b, rfl, rfl, HOB⟩ := hcut
                    clear HOW
                    go_upto_if 170 with (fail)
                    go_cut [8] (fun v8 wc => v8 = .int .i64 f ∧ wr = wc)
                    case first =>
                      rcases HOB.out with ⟨rfl, hf⟩ | ⟨rfl, x, hma, hf, hx⟩
                      · have HFA := Aside0.mk (show (f : Int) = (a : Int) + 1 by omega)
                        clear hf HOB
                        go_wp2
                        go_meet
                        case rel => exact ⟨by rw [HFA.out], rfl⟩
                      · obtain ⟨am', eM', kma⟩ := C_at HMr.out hma
                        cases eM'
                        have HFA := Aside0.mk (show (f : Int) = (x : Int) + 1 by omega)
                        have hwa : wrap64 ((x : Int) + 1) = (x : Int) + 1 := by unfold wrap64; omega
                        clear hma hf HOB
                        go_wp2
                        go_meet
                        case rel => exact ⟨by rw [HFA.out], rfl⟩
                    case rest => as_aux_lemma =>
                      obtain ⟨rfl, rfl⟩ := hcut
                      clear HOB y1 y2 y3 y4 hwa2
                      go_wp2
                      clear ki km
                      have HWR := Aside0.mk (Below.refl wr.heap.size wr)
                      obtain ⟨W5, hW5⟩ : ∃ W5, wr = W5 := ⟨_, rfl⟩
                      rw [hW5] at HBr HW HWR ⊢
                      clear hW5 HI HMr
                      go_loopw [9, 10] (fun v9 v10 wl => ∃ q : Nat, f ≤ q ∧ q ≤ i ∧ v10 = .int .i64 q ∧ Aside0 (Kd.R k31 31 wl W5.heap.size (fun _ => True) v9 (segL l0 f q)) ∧ Aside0 (Below W5.heap.size W5 wl)) (fun _ v10 _ => i - (intOf v10).toNat)
                      case atStart => exact ⟨f, Nat.le_refl _, a4, by first | rfl | rw [HFA.out], ⟨by rw [segL_start]; exact Kd.R_nil _ _ _ _ _⟩, HWR⟩
                      case round =>
                        obtain ⟨q, hq1, hq2, rfl, HQ, HBq⟩ := hrel
                        by_cases hqi : q < i
                        · have HIq := Aside0.mk (Kd.C_below HR.out (HW.out.trans (HBq.out.mono HW.out.size)))
                          have hql : q < l0.length := by omega
                          obtain ⟨ad2, e2, kq0, kq1⟩ := at_Ins HIq.out q hql
                          cases e2
                          have p1 : (q : Int) < (i : Int) := by omega
                          have p2 : (q : Int) < (l0.length : Int) := by omega
                          have HSC := Aside0.mk (segL_succ (cs := l0) hq1 hql)
                          have HSL := Aside0.mk (segL_len l0 f q)
                          obtain ⟨s, hs⟩ : ∃ s, l0[q] = s := ⟨_, rfl⟩
                          rw [hs] at kq0 kq1 HSC
                          by_cases hq52 : s.f0 = 52
                          · rw [hq52] at kq0
                            rw [if_pos hq52, List.append_nil] at HSC
                            clear hq52 hs
                            go_wp2
                            go_roundw
                            case rel => exact ⟨q + 1, by omega, by omega, by go_num, ⟨by rw [HSC.out]; exact HQ.out⟩, HBq⟩
                            case measure => simp [intOf]; omega
                          · rw [if_neg hq52] at HSC
                            have dq : (s.f0 == 52) = false := by simp; exact hq52
                            have dq2 : (s.f0 != 52) = true := by simp; exact hq52
                            obtain ⟨L, hL⟩ : ∃ L, segL l0 f q = L := ⟨_, rfl⟩
                            rw [hL] at HQ HSC HSL
                            clear hq52 hs hL
                            go_wp2_with ((with_reducible refine gate_builtin (b := .append) (xs := #[.tmp 188, .tmp 193]) rfl ?_); at_builtin; refine Kd.R_append k31 (w0 := W5) W5.heap.size rfl (.tmp 188) (.tmp 193) 22 31 (.agg #[(.int .i64 0), (.int .i64 0)]) 16 rfl Try.underlying22 info31 rfl (by decide) (by omega) _ L s [.int .i64 s.f0, .int .i64 s.f1] (fun _ => True) (fun _ => False) rfl rfl ?aP (fun _ hk => hk.elim) ?aF ?aO ?aB ?aS ?aL ?_; (case aP => exact k31_mkM _ _ _ s); (case aB => exact HBq.out); (case aF => exact (fun _ _ => trivial)); (case aO => exact HQ.out); (case aS => exact HBq.out.size); (case aL => have := HSL.out; omega); intro v9' w9 ho hb hg hat; have HQ9 := Aside0.mk ho; have HB9 := Aside0.mk hb; clear ho hb hg hat)
                            go_roundw
                            case rel => exact ⟨q + 1, by omega, by omega, by go_num, ⟨by rw [HSC.out]; exact HQ9.out⟩, HB9⟩
                            case measure => simp [intOf]; omega
                        · have eq_ : q = i := by omega
                          subst eq_
                          have p1 : ¬ (q : Int) < (q : Int) := by omega
                          obtain ⟨A9, c9, e9, hc9, hC9⟩ := Kd.R_reads HQ.out
                          subst e9
                          have HC9 := Aside0.mk hC9
                          have HSG := Aside0.mk (show shape_Match.f (segL l0 f q) = some (m9, 0) from by
                            unfold shape_Match.f
                            rw [if_pos (by have := segL_len l0 f q; omega), hm9])
                          clear hC9 hm9
                          go_wp2_with (first | (go_at_call 10; (with_reducible refine (shape_Match.calls _ _ (segL l0 f q) m9 0 _ HC9.out hc9 HSG.out).mono ?_); rintro e w6 ⟨v6, rfl, hR6, hb6⟩; have HB6 := Aside0.mk (HBq.out.trans (hb6.mono HBq.out.size)); clear hR6 hb6) | (go_at_call 12; (with_reducible refine (weighhouselaw06_num.calls 0 0 _ rfl).mono ?_); rintro e w7 ⟨rfl, ⟨nd7, rfl⟩⟩; have HB7 := Aside0.mk (pw_below_drewN HB6.out nd7)))
                          go_roundw
                          case rel => first | exact ⟨q + 1, by omega, by go_num, ⟨HBr.out.trans (HB7.out.mono HBr.out.size)⟩⟩ | ((repeat apply Exists.intro); exact ⟨⟨q + 1, by omega, by go_num, ⟨HBr.out.trans (HB7.out.mono HBr.out.size)⟩⟩, rfl⟩)
                          case measure => simp [intOf]; omega
            · obtain ⟨o, ho⟩ : ∃ o, opAt l0 i = o := ⟨_, rfl⟩
              rw [ho] at ki h50
              have d50 : (o == 50) = false := by simp; exact h50
              clear hend hv ho h50
              go_wp2
              go_roundw
              case rel => first | exact ⟨i + 1, by omega, by go_num, HBr⟩ | ((repeat apply Exists.intro); exact ⟨⟨i + 1, by omega, by go_num, HBr⟩, rfl⟩)
              case measure => simp [intOf]; omega
        · have q1 : ¬ (i : Int) < (l0.length : Int) := by omega
          go_wp2_with (go_at_call 9; (with_reducible refine (HKN.out _).mono ?_); rintro e w' ⟨rfl, hb⟩; have HB5 := Aside0.mk hb; clear hb)
          go_ret
          exact ⟨rfl, (HB3.out.trans (HBr.out.mono HB3.out.size)).trans (HB5.out.mono (by have := HBr.out.size; have := HB3.out.size; omega))⟩


end Go.Proofs.Ytbdmbkmokhaflaa.Q
end

section
/- what the readings of the parameters of ShapePairs give -/
set_option linter.unusedVariables false
set_option linter.unusedSimpArgs false
namespace Go.Proofs.Ytbdmbkmokhaflaa.OpShapePairs
open Go.RowKit Go.Proofs.YtbdmbkmokhaflaaW.PrintWords Go.Proofs.YtbdmbkmokhaflaaW.Hb Go.Proofs.YtbdmbkmokhaflaaW.Ho Go.Proofs.Ytbdmbkmokhaflaa.Q

theorem opens_slice' {P : Program} {t : TypeId} {α : Type} {d : Kd α} {e B : Nat} {Q : α → Prop} (ht : P.underlying t = some (.slice e)) (hs : P.cellsOf e = d.sz) (hB : P.bytesOf e = B) (hp : Opens P d e Q) :
    Opens P (Kd.slice e d) t (fun xs => xs.length * B ≤ reachBytes ∧ xs.length ≤ maxLen ∧ ∀ x ∈ xs, Q x) := by
  subst hB
  exact opens_slice ht hs hp
def QS31 (x : S31) : Prop := ((Lit.int .i64 (x.f0)).wf = true) ∧ ((Lit.int .i64 (x.f1)).wf = true)
theorem open_S31 : Opens Try.prog k31 31 QS31 := by
  intro H enc w base spare held fuel cs x h hw
  obtain ⟨xs, n, _, hx, hl, hxl, hf⟩ := DataW.trod_struct Try.underlying31 h
  rw [show Try.prog.cellsOf 31 = 2 from by kernel_rfl] at hl
  obtain ⟨c0, c1, rfl⟩ : ∃ c0 c1, cs = [c0, c1] := by
    clear hf hx h
    match cs, hl with
    | [c0, c1], _ => exact ⟨c0, c1, rfl⟩
  obtain ⟨y0, y1, rfl⟩ : ∃ y0 y1, xs = [y0, y1] := by
    have hxl2 : xs.length = 2 := hxl
    clear hxl hf hx
    match xs, hxl2 with
    | [y0, y1], _ => exact ⟨y0, y1, rfl⟩
  subst hx
  have g0 : DataW.trod enc Try.prog w base spare held n 3 (([c0, c1].drop 0).take (Try.prog.cellsOf 3)) = some y0 := hf 0 _ rfl
  rw [show Try.prog.cellsOf 3 = 1 from by kernel_rfl] at g0
  replace g0 : DataW.trod enc Try.prog w base spare held n 3 [c0] = some y0 := g0
  obtain ⟨v0, K0, q0⟩ := (opens_int Try.underlying3) enc w base spare held n _ _ g0 (fun m hm => hw m (weights_field (j := 0) (tj := 3) Try.underlying31 rfl rfl m hm))
  have g1 : DataW.trod enc Try.prog w base spare held n 3 (([c0, c1].drop 1).take (Try.prog.cellsOf 3)) = some y1 := hf 1 _ rfl
  rw [show Try.prog.cellsOf 3 = 1 from by kernel_rfl] at g1
  replace g1 : DataW.trod enc Try.prog w base spare held n 3 [c1] = some y1 := g1
  obtain ⟨v1, K1, q1⟩ := (opens_int Try.underlying3) enc w base spare held n _ _ g1 (fun m hm => hw m (weights_field (j := 1) (tj := 3) Try.underlying31 rfl rfl m hm))
  exact ⟨⟨v0, v1⟩, ⟨[c0], [c1], rfl, K0, K1⟩, ⟨q0, q1⟩⟩
end Go.Proofs.Ytbdmbkmokhaflaa.OpShapePairs
end

section
/- the pure statement of ShapePairs -/
namespace Go.Proofs.Ytbdmbkmokhaflaa.PuShapePairs
open Go.RowKit Go.Proofs.YtbdmbkmokhaflaaW.PrintWords Go.Proofs.YtbdmbkmokhaflaaW.Hb Go.Proofs.YtbdmbkmokhaflaaW.Ho Go.Proofs.Ytbdmbkmokhaflaa.Q Go.Proofs.Ytbdmbkmokhaflaa.OpShapePairs
def Pure : Prop := ∀ (x0 : List (S31)), ((x0).length * 16 ≤ reachBytes ∧ (x0).length ≤ maxLen ∧ ∀ y ∈ (x0), QS31 (y)) → ∃ k, weighhouselaw06_ShapePairs.f k x0 = some true
end Go.Proofs.Ytbdmbkmokhaflaa.PuShapePairs
end

section
/- layer 6, plain: what closes a block, read from its opener on; the scan with a stack -/
set_option linter.unusedVariables false
set_option linter.unusedSimpArgs false
namespace Go.Shape6

/-- Looking for the end of the block that a opens: running (how deep, its else), or over (its else, its end). -/
inductive CS where
  | run (d : Nat) (x : Int)
  | fin (x e : Int)
  deriving DecidableEq
def isOp (v : Int) : Bool := decide (v = 48) || decide (v = 51)
def clS (o : Nat → Int) (a i : Nat) : CS → CS
  | .fin x e => .fin x e
  | .run d x =>
    if isOp (o i) then .run (d + 1) x
    else if o i = 49 then (if d = 0 then (if 0 ≤ x ∨ o a ≠ 48 then .fin (-1) (-1) else .run 0 i) else .run d x)
    else if o i = 50 then (if d = 0 then .fin x i else .run (d - 1) x)
    else .run d x
/-- Ahead of instruction i. -/
def cl (o : Nat → Int) (a : Nat) : Nat → CS
  | 0 => .run 0 (-1)
  | i + 1 => if i ≤ a then .run 0 (-1) else clS o a i (cl o a i)
theorem cl_start (o : Nat → Int) (a : Nat) : cl o a (a + 1) = .run 0 (-1) := by simp [cl]
theorem cl_succ (o : Nat → Int) (a i : Nat) (h : a < i) : cl o a (i + 1) = clS o a i (cl o a i) := by
  rw [cl, if_neg (by omega)]
theorem cl_fin_mono {o : Nat → Int} {a i j : Nat} {x e : Int} (h : cl o a i = .fin x e) (ha : a < i) (hij : i ≤ j) : cl o a j = .fin x e := by
  induction j with
  | zero => omega
  | succ j ih =>
    rcases Nat.lt_or_ge i (j + 1) with hlt | hge
    · rw [cl_succ o a j (by omega), ih (by omega)]
      rfl
    · obtain rfl : i = j + 1 := by omega
      exact h
/-- What holds while it runs, and when it is over. -/
def clOk (o : Nat → Int) (a i : Nat) : CS → Prop
  | .run d x => x = -1 ∨ ((a : Int) < x ∧ x < i ∧ o x.toNat = 49 ∧ o a = 48)
  | .fin x e => (x = -1 ∧ e = -1) ∨ ((a : Int) < e ∧ e < i ∧ o e.toNat = 50 ∧ (x = -1 ∨ ((a : Int) < x ∧ x < e ∧ o x.toNat = 49 ∧ o a = 48)))
theorem cl_ok (o : Nat → Int) (a i : Nat) (h : a < i) : clOk o a i (cl o a i) := by
  induction i with
  | zero => omega
  | succ i ih =>
    by_cases hai : a < i
    · rw [cl_succ o a i hai]
      have h := ih hai
      cases hc : cl o a i with
      | fin x e =>
        rw [hc] at h
        simp only [clS, clOk] at h ⊢
        rcases h with h | ⟨h1, h2, h3, h4⟩
        · exact .inl h
        · exact .inr ⟨h1, by omega, h3, h4⟩
      | run d x =>
        rw [hc] at h
        simp only [clOk] at h
        have hx : x = -1 ∨ ((a : Int) < x ∧ x < (i + 1 : Nat) ∧ o x.toNat = 49 ∧ o a = 48) := by
          rcases h with h | ⟨h1, h2, h3⟩
          · exact .inl h
          · exact .inr ⟨h1, by omega, h3⟩
        unfold clS
        dsimp only
        split
        · exact hx
        · split
          · split
            · split
              · exact .inl ⟨rfl, rfl⟩
              · rename_i h49 _ hn
                refine .inr ⟨by omega, by omega, by simpa using h49, ?_⟩
                have : ¬ o a ≠ 48 := fun hh => hn (.inr hh)
                omega
            · exact hx
          · split
            · split
              · rename_i h50 _
                refine .inr ⟨by omega, by omega, by simpa using h50, ?_⟩
                rcases h with h | ⟨h1, h2, h3⟩
                · exact .inl h
                · exact .inr ⟨h1, h2, h3⟩
              · exact hx
            · exact hx
    · obtain rfl : i = a := by omega
      rw [cl_start]
      exact .inl rfl
/-- Of two that run, the inner one runs less deep. -/
theorem cl_nest {o : Nat → Int} {a b i : Nat} {d d' : Nat} {x x' : Int} (hab : a < b) (hbi : b < i) (hb : isOp (o b) = true)
    (h : cl o a i = .run d x) (h' : cl o b i = .run d' x') : d' < d := by
  induction i generalizing d d' x x' with
  | zero => omega
  | succ i ih =>
    rw [cl_succ o a i (by omega)] at h
    by_cases hbi' : b < i
    · rw [cl_succ o b i hbi'] at h'
      cases hc : cl o a i with
      | fin _ _ => rw [hc] at h; cases h
      | run e y =>
        cases hc' : cl o b i with
        | fin _ _ => rw [hc'] at h'; cases h'
        | run e' y' =>
          have hi := ih hbi' hc hc'
          rw [hc] at h
          rw [hc'] at h'
          unfold clS at h h'
          dsimp only at h h'
          split at h
          · rename_i ho
            rw [if_pos ho] at h'
            cases h; cases h'
            omega
          · rename_i ho
            rw [if_neg ho] at h'
            split at h
            · rename_i h9
              rw [if_pos h9] at h'
              rw [if_neg (by omega)] at h
              cases h
              split at h'
              · split at h'
                · cases h'
                · cases h'
                  omega
              · cases h'
                omega
            · rename_i h9
              rw [if_neg h9] at h'
              split at h
              · rename_i h0
                rw [if_pos h0] at h'
                rw [if_neg (by omega)] at h
                cases h
                split at h'
                · cases h'
                · cases h'
                  omega
              · rename_i h0
                rw [if_neg h0] at h'
                cases h; cases h'
                omega
    · obtain rfl : b = i := by omega
      rw [cl_start] at h'
      cases h'
      cases hc : cl o a b with
      | fin _ _ => rw [hc] at h; cases h
      | run e y =>
        rw [hc] at h
        unfold clS at h
        dsimp only at h
        rw [if_pos hb] at h
        cases h
        omega
/-- An outer block is not over while an inner one runs: if a is over (with a true end) ahead of i and b > a runs at i, then b was opened behind a's end. -/
theorem cl_over {o : Nat → Int} {a b i : Nat} {d' : Nat} {x e x' : Int} (hab : a < b) (hbi : b < i) (hb : isOp (o b) = true)
    (h : cl o a i = .fin x e) (h' : cl o b i = .run d' x') : cl o a (b + 1) = .fin x e := by
  induction i generalizing d' x' with
  | zero => omega
  | succ i ih =>
    by_cases hbi' : b < i
    · rw [cl_succ o b i hbi'] at h'
      cases hc' : cl o b i with
      | fin _ _ => rw [hc'] at h'; cases h'
      | run e' y' =>
        rw [cl_succ o a i (by omega)] at h
        cases hc : cl o a i with
        | fin _ _ =>
          rw [hc] at h
          cases h
          exact ih hbi' hc hc'
        | run d y =>
          have hn := cl_nest hab hbi' hb hc hc'
          rw [hc] at h
          unfold clS at h
          dsimp only at h
          split at h
          · cases h
          · split at h
            · rw [if_neg (by omega)] at h
              cases h
            · split at h
              · rw [if_neg (by omega)] at h
                cases h
              · cases h
    · obtain rfl : b = i := by omega
      exact h
end Go.Shape6
end

section
/- layer 6: what the stack of the scan says of the closing of blocks -/
set_option linter.unusedVariables false
set_option linter.unusedSimpArgs false
namespace Go.Proofs.Ytbdmbkmokhaflaa.Th
open Go.Shape6 Go.Proofs.Ytbdmbkmokhaflaa.Q

structure L1 (o : Nat → Int) (i : Nat) (g : List (Nat × Int)) : Prop where
  fr : ∀ (j a : Nat) (x : Int), g[j]? = some (a, x) → a < i ∧ isOp (o a) = true ∧ cl o a i = .run (g.length - 1 - j) x
  up : ∀ (j j' a : Nat) (x : Int) (a' : Nat) (x' : Int), j < j' → g[j]? = some (a, x) → g[j']? = some (a', x') → a < a'
  cl_ : ∀ a, a < i → isOp (o a) = true → (∀ (j : Nat) (x : Int), g[j]? ≠ some (a, x)) → ∃ x e, cl o a i = .fin x e ∧ 0 ≤ e
  el : ∀ k : Nat, k < i → o k = 49 → ∃ a, a < k ∧ isOp (o a) = true ∧ ((∃ d, cl o a i = .run d k) ∨ ∃ e, cl o a i = .fin k e ∧ 0 ≤ e)
  en : ∀ k : Nat, k < i → o k = 50 → ∃ a, a < k ∧ isOp (o a) = true ∧ ∃ x, cl o a i = .fin x k
theorem isOp_iff {v : Int} : isOp v = true ↔ v = 48 ∨ v = 51 := by simp [isOp]
theorem isOp_not {v : Int} (h : ¬ (v = 48 ∨ v = 51)) : isOp v = false := by
  cases he : isOp v
  · rfl
  · exact absurd (isOp_iff.1 he) h
variable {o : Nat → Int} {i : Nat} {g : List (Nat × Int)}
theorem lt_of_get {α : Type} {l : List α} {j : Nat} {v : α} (h : l[j]? = some v) : j < l.length := by
  rcases Nat.lt_or_ge j l.length with hl | hl
  · exact hl
  · rw [List.getElem?_eq_none hl] at h
    cases h
/-- An opener that runs is on the stack. -/
theorem L1.run_ (h : L1 o i g) {a d : Nat} {x : Int} (ha : a < i) (ho : isOp (o a) = true) (hc : cl o a i = .run d x) : ∃ j, g[j]? = some (a, x) ∧ d = g.length - 1 - j := by
  by_cases hn : ∃ (j : Nat) (y : Int), g[j]? = some (a, y)
  · obtain ⟨j, y, hj⟩ := hn
    have h1 := (h.fr j a y hj).2.2
    rw [hc] at h1
    injection h1 with h2 h3
    exact ⟨j, by rw [hj, h3], h2⟩
  · obtain ⟨y, e, h1, _⟩ := h.cl_ a ha ho (fun j y hj => hn ⟨j, y, hj⟩)
    rw [hc] at h1
    cases h1
theorem L1.fin_ {a : Nat} {x e : Int} (ha : a < i) (hc : cl o a i = .fin x e) : cl o a (i + 1) = .fin x e := cl_fin_mono hc ha (Nat.le_succ i)
theorem L1.start (o : Nat → Int) : L1 o 0 [] := ⟨fun j a x h => by simp at h, fun j j' a x a' x' _ h => by simp at h, fun a h => absurd h (Nat.not_lt_zero a), fun k h => absurd h (Nat.not_lt_zero k), fun k h => absurd h (Nat.not_lt_zero k)⟩
theorem L1.push (h : L1 o i g) (ho : isOp (o i) = true) : L1 o (i + 1) (g ++ [(i, -1)]) := by
  have hs : ∀ {a d : Nat} {x : Int}, a < i → cl o a i = .run d x → cl o a (i + 1) = .run (d + 1) x := by
    intro a d x ha hc
    rw [cl_succ o a i ha, hc]
    unfold clS
    dsimp only
    rw [if_pos ho]
  have hb := isOp_iff.1 ho
  refine ⟨fun j a x hj => ?_, fun j j' a x a' x' hjj hj hj' => ?_, fun a ha hoa hn => ?_, fun k hk hk9 => ?_, fun k hk hk0 => ?_⟩
  · rw [List.getElem?_append] at hj
    split at hj
    · rename_i hl
      obtain ⟨h1, h2, h3⟩ := h.fr j a x hj
      refine ⟨by omega, h2, ?_⟩
      rw [hs h1 h3]
      congr 1
      simp
      omega
    · rename_i hl
      have h0 := lt_of_get hj
      simp at h0
      have e0 : j - g.length = 0 := by omega
      rw [e0] at hj
      simp at hj
      obtain ⟨rfl, rfl⟩ := hj
      refine ⟨by omega, ho, ?_⟩
      rw [cl_start]
      congr 1
      simp
      omega
  · rw [List.getElem?_append] at hj hj'
    split at hj'
    · rename_i hl
      rw [if_pos (by omega)] at hj
      exact h.up j j' a x a' x' hjj hj hj'
    · rename_i hl
      have h0 := lt_of_get hj'
      simp at h0
      rw [if_pos (by omega)] at hj
      have e0 : j' - g.length = 0 := by omega
      rw [e0] at hj'
      simp at hj'
      obtain ⟨rfl, rfl⟩ := hj'
      exact (h.fr j a x hj).1
  · by_cases hai : a = i
    · subst hai
      exact absurd (by simp) (hn g.length (-1))
    · obtain ⟨x, e, h1, h2⟩ := h.cl_ a (by omega) hoa (fun j x hj => hn j x (by rw [List.getElem?_append_left (lt_of_get hj)]; exact hj))
      exact ⟨x, e, L1.fin_ (by omega) h1, h2⟩
  · by_cases hki : k = i
    · subst hki
      omega
    · obtain ⟨a, h1, h2, h3⟩ := h.el k (by omega) hk9
      refine ⟨a, h1, h2, ?_⟩
      rcases h3 with ⟨d, h3⟩ | ⟨e, h3, h4⟩
      · exact .inl ⟨_, hs (by omega) h3⟩
      · exact .inr ⟨e, L1.fin_ (by omega) h3, h4⟩
  · by_cases hki : k = i
    · subst hki
      omega
    · obtain ⟨a, h1, h2, x, h3⟩ := h.en k (by omega) hk0
      exact ⟨a, h1, h2, x, L1.fin_ (by omega) h3⟩
theorem L1.skip (h : L1 o i g) (h1 : isOp (o i) = false) (h2 : o i ≠ 49) (h3 : o i ≠ 50) : L1 o (i + 1) g := by
  have hs : ∀ {a : Nat} {c : CS}, a < i → cl o a i = c → cl o a (i + 1) = c := by
    intro a c ha hc
    rw [cl_succ o a i ha, hc]
    unfold clS
    cases c
    · dsimp only
      rw [h1, if_neg (by decide), if_neg h2, if_neg h3]
    · rfl
  refine ⟨fun j a x hj => ?_, h.up, fun a ha hoa hn => ?_, fun k hk hk9 => ?_, fun k hk hk0 => ?_⟩
  · obtain ⟨a1, a2, a3⟩ := h.fr j a x hj
    exact ⟨by omega, a2, hs a1 a3⟩
  · by_cases hai : a = i
    · subst hai
      rw [h1] at hoa
      cases hoa
    · obtain ⟨x, e, b1, b2⟩ := h.cl_ a (by omega) hoa hn
      exact ⟨x, e, hs (by omega) b1, b2⟩
  · by_cases hki : k = i
    · subst hki
      exact absurd hk9 h2
    · obtain ⟨a, b1, b2, b3⟩ := h.el k (by omega) hk9
      refine ⟨a, b1, b2, ?_⟩
      rcases b3 with ⟨d, b3⟩ | ⟨e, b3, b4⟩
      · exact .inl ⟨_, hs (by omega) b3⟩
      · exact .inr ⟨e, hs (by omega) b3, b4⟩
  · by_cases hki : k = i
    · subst hki
      exact absurd hk0 h3
    · obtain ⟨a, b1, b2, x, b3⟩ := h.en k (by omega) hk0
      exact ⟨a, b1, b2, x, hs (by omega) b3⟩
theorem L1.else_ (h : L1 o i g) (h9 : o i = 49) {k0 a0 : Nat} {x0 : Int} (hk : g.length = k0 + 1) (hg : g[k0]? = some (a0, x0)) (hx : ¬ 0 ≤ x0) (ho : o a0 = 48) : L1 o (i + 1) (g.set k0 (a0, (i : Int))) := by
  have hni : isOp (o i) = false := isOp_not (by omega)
  have hdeep : ∀ {a d : Nat} {x : Int}, a < i → cl o a i = .run (d + 1) x → cl o a (i + 1) = .run (d + 1) x := by
    intro a d x ha hc
    rw [cl_succ o a i ha, hc]
    unfold clS
    dsimp only
    rw [hni, if_neg (by decide), if_pos h9, if_neg (by omega)]
  obtain ⟨t1, t2, t3⟩ := h.fr k0 a0 x0 hg
  have htop : cl o a0 (i + 1) = .run 0 i := by
    rw [cl_succ o a0 i t1, t3, hk, show k0 + 1 - 1 - k0 = 0 by omega]
    unfold clS
    dsimp only
    rw [hni, if_neg (by decide), if_pos h9, if_pos rfl, if_neg (by omega)]
  have hlow : ∀ {j a : Nat} {x : Int}, j ≠ k0 → g[j]? = some (a, x) → a < i ∧ cl o a (i + 1) = .run (g.length - 1 - j) x := by
    intro j a x hj hgj
    have hl := lt_of_get hgj
    obtain ⟨b1, b2, b3⟩ := h.fr j a x hgj
    obtain ⟨d, hd⟩ : ∃ d, g.length - 1 - j = d + 1 := ⟨g.length - 2 - j, by omega⟩
    rw [hd] at b3 ⊢
    exact ⟨b1, hdeep b1 b3⟩
  refine ⟨fun j a x hj => ?_, fun j j' a x a' x' hjj hj hj' => ?_, fun a ha hoa hn => ?_, fun k hk' hk9 => ?_, fun k hk' hk0 => ?_⟩
  · rw [List.length_set]
    by_cases hjk : j = k0
    · subst hjk
      rw [List.getElem?_set_self (by omega)] at hj
      cases hj
      refine ⟨by omega, t2, ?_⟩
      rw [htop, hk, show j + 1 - 1 - j = 0 by omega]
    · rw [List.getElem?_set_ne (fun e => hjk e.symm)] at hj
      obtain ⟨b1, b2⟩ := hlow hjk hj
      exact ⟨by omega, (h.fr j a x hj).2.1, b2⟩
  · have hx1 : ∃ y, g[j]? = some (a, y) := by
      by_cases hjk : j = k0
      · subst hjk
        rw [List.getElem?_set_self (by omega)] at hj
        cases hj
        exact ⟨_, hg⟩
      · rw [List.getElem?_set_ne (fun e => hjk e.symm)] at hj
        exact ⟨_, hj⟩
    have hx2 : ∃ y, g[j']? = some (a', y) := by
      by_cases hjk : j' = k0
      · subst hjk
        rw [List.getElem?_set_self (by omega)] at hj'
        cases hj'
        exact ⟨_, hg⟩
      · rw [List.getElem?_set_ne (fun e => hjk e.symm)] at hj'
        exact ⟨_, hj'⟩
    obtain ⟨y, hy⟩ := hx1
    obtain ⟨y', hy'⟩ := hx2
    exact h.up j j' a y a' y' hjj hy hy'
  · by_cases hai : a = i
    · subst hai
      rw [hni] at hoa
      cases hoa
    · obtain ⟨x, e, b1, b2⟩ := h.cl_ a (by omega) hoa (fun j x hj => by
        by_cases hjk : j = k0
        · subst hjk
          rw [hg] at hj
          cases hj
          exact hn j i (by rw [List.getElem?_set_self (by omega)])
        · exact hn j x (by rw [List.getElem?_set_ne (fun e => hjk e.symm)]; exact hj))
      exact ⟨x, e, L1.fin_ (by omega) b1, b2⟩
  · by_cases hki : k = i
    · subst hki
      exact ⟨a0, t1, t2, .inl ⟨0, htop⟩⟩
    · obtain ⟨a, b1, b2, b3⟩ := h.el k (by omega) hk9
      refine ⟨a, b1, b2, ?_⟩
      rcases b3 with ⟨d, b3⟩ | ⟨e, b3, b4⟩
      · obtain ⟨j, hj, hd⟩ := h.run_ (by omega) b2 b3
        by_cases hjk : j = k0
        · subst hjk
          rw [hg] at hj
          cases hj
          omega
        · exact .inl ⟨_, (hlow hjk hj).2⟩
      · exact .inr ⟨e, L1.fin_ (by omega) b3, b4⟩
  · by_cases hki : k = i
    · subst hki
      omega
    · obtain ⟨a, b1, b2, x, b3⟩ := h.en k (by omega) hk0
      exact ⟨a, b1, b2, x, L1.fin_ (by omega) b3⟩
theorem L1.end_ (h : L1 o i g) (h0 : o i = 50) {k0 a0 : Nat} {x0 : Int} (hk : g.length = k0 + 1) (hg : g[k0]? = some (a0, x0)) : L1 o (i + 1) (g.take k0) ∧ cl o a0 (i + 1) = .fin x0 i := by
  have hni : isOp (o i) = false := isOp_not (by omega)
  have hdeep : ∀ {a d : Nat} {x : Int}, a < i → cl o a i = .run (d + 1) x → cl o a (i + 1) = .run d x := by
    intro a d x ha hc
    rw [cl_succ o a i ha, hc]
    unfold clS
    dsimp only
    rw [hni, if_neg (by decide), if_neg (by omega), if_pos h0, if_neg (by omega)]
    rfl
  obtain ⟨t1, t2, t3⟩ := h.fr k0 a0 x0 hg
  have htop : cl o a0 (i + 1) = .fin x0 i := by
    rw [cl_succ o a0 i t1, t3, hk, show k0 + 1 - 1 - k0 = 0 by omega]
    unfold clS
    dsimp only
    rw [hni, if_neg (by decide), if_neg (by omega), if_pos h0, if_pos rfl]
  have htk : ∀ {j : Nat} {v : Nat × Int}, (g.take k0)[j]? = some v ↔ j < k0 ∧ g[j]? = some v := by
    intro j v
    rw [List.getElem?_take]
    split
    · rename_i hl
      exact ⟨fun h => ⟨hl, h⟩, fun h => h.2⟩
    · rename_i hl
      exact ⟨fun h => (by cases h), fun h => absurd h.1 hl⟩
  have hlen : (g.take k0).length = k0 := by rw [List.length_take]; omega
  refine ⟨⟨fun j a x hj => ?_, fun j j' a x a' x' hjj hj hj' => h.up j j' a x a' x' hjj (htk.1 hj).2 (htk.1 hj').2, fun a ha hoa hn => ?_, fun k hk' hk9 => ?_, fun k hk' hk0 => ?_⟩, htop⟩
  · obtain ⟨hjl, hj⟩ := htk.1 hj
    obtain ⟨b1, b2, b3⟩ := h.fr j a x hj
    rw [hlen]
    refine ⟨by omega, b2, ?_⟩
    rw [show g.length - 1 - j = (k0 - 1 - j) + 1 by omega] at b3
    exact hdeep b1 b3
  · by_cases hai : a = i
    · subst hai
      rw [hni] at hoa
      cases hoa
    · by_cases ha0 : a = a0
      · subst ha0
        exact ⟨x0, i, htop, by omega⟩
      · obtain ⟨x, e, b1, b2⟩ := h.cl_ a (by omega) hoa (fun j x hj => by
          have hl := lt_of_get hj
          by_cases hjk : j = k0
          · subst hjk
            rw [hg] at hj
            cases hj
            exact ha0 rfl
          · exact hn j x (htk.2 ⟨by omega, hj⟩))
        exact ⟨x, e, L1.fin_ (by omega) b1, b2⟩
  · by_cases hki : k = i
    · subst hki
      omega
    · obtain ⟨a, b1, b2, b3⟩ := h.el k (by omega) hk9
      refine ⟨a, b1, b2, ?_⟩
      rcases b3 with ⟨d, b3⟩ | ⟨e, b3, b4⟩
      · cases d with
        | zero =>
          obtain ⟨j, hj, hd⟩ := h.run_ (by omega) b2 b3
          have hl := lt_of_get hj
          have hjk : j = k0 := by omega
          subst hjk
          rw [hg] at hj
          cases hj
          exact .inr ⟨i, htop, by omega⟩
        | succ d => exact .inl ⟨d, hdeep (by omega) b3⟩
      · exact .inr ⟨e, L1.fin_ (by omega) b3, b4⟩
  · by_cases hki : k = i
    · subst hki
      exact ⟨a0, t1, t2, x0, htop⟩
    · obtain ⟨a, b1, b2, x, b3⟩ := h.en k (by omega) hk0
      exact ⟨a, b1, b2, x, L1.fin_ (by omega) b3⟩
end Go.Proofs.Ytbdmbkmokhaflaa.Th
end

section
/- layer 6: the scan, read: the stack, and where instructions lead -/
set_option linter.unusedVariables false
set_option linter.unusedSimpArgs false
namespace Go.Proofs.Ytbdmbkmokhaflaa.Th
open Go.Shape6 Go.Proofs.Ytbdmbkmokhaflaa.Q

def pr (b : Fr) : Nat × Int := (b.a, b.o)
abbrev opc (cs : List Ins) : Nat → Int := Q.opAt cs
/-- The loop that a Leave at k leaves. -/
def Tgt (cs : List Ins) (k a : Nat) : Prop := ∃ m0 fs0 j b, scanTo cs k = some (m0, fs0) ∧ topLoop cs (fs0.map Fr.a) = some j ∧ fs0[j]? = some b ∧ b.a = a
theorem Tgt.det {cs : List Ins} {k a a' : Nat} (h : Tgt cs k a) (h' : Tgt cs k a') : a = a' := by
  obtain ⟨m, fs, j, b, h1, h2, h3, h4⟩ := h
  obtain ⟨m', fs', j', b', h1', h2', h3', h4'⟩ := h'
  rw [h1] at h1'
  cases h1'
  rw [h2] at h2'
  cases h2'
  rw [h3] at h3'
  cases h3'
  rw [← h4, ← h4']
theorem last_get {α : Type} {l : List α} {b : α} (h : l.getLast? = some b) : ∃ k, l.length = k + 1 ∧ l[k]? = some b := by
  rw [List.getLast?_eq_getElem?] at h
  have := lt_of_get h
  exact ⟨l.length - 1, by omega, h⟩
theorem map_set_same {fs : List Fr} {j : Nat} {b b' : Fr} (h : fs[j]? = some b) (he : pr b' = pr b) : (fs.set j b').map pr = fs.map pr := by
  apply List.ext_getElem?
  intro q
  rw [List.getElem?_map, List.getElem?_map, List.getElem?_set]
  split
  · rename_i e
    subst e
    rw [if_pos (lt_of_get h), h]
    simp [he]
  · rfl
theorem setAll_get (m l : List Int) (x : Int) (k : Nat) (h0 : ∀ q ∈ l, 0 ≤ q) : (setAll m l x)[k]? = if (k : Int) ∈ l ∧ k < m.length then some x else m[k]? := by
  unfold setAll
  induction l generalizing m with
  | nil => simp
  | cons q l ih =>
    rw [List.foldl_cons, ih _ (fun y hy => h0 y (List.mem_cons_of_mem _ hy)), List.length_set, List.getElem?_set]
    have hq := h0 q (List.mem_cons_self ..)
    by_cases h1 : (k : Int) ∈ l ∧ k < m.length
    · rw [if_pos h1, if_pos ⟨List.mem_cons_of_mem _ h1.1, h1.2⟩]
    · rw [if_neg h1]
      by_cases h2 : q.toNat = k
      · rw [if_pos h2]
        by_cases h3 : k < m.length
        · rw [if_pos (by omega), if_pos ⟨by rw [List.mem_cons]; exact .inl (by omega), h3⟩]
        · rw [if_neg (by omega), if_neg (fun h => h3 h.2), List.getElem?_eq_none (by omega)]
      · rw [if_neg h2, if_neg]
        rintro ⟨h3, h4⟩
        rcases List.mem_cons.1 h3 with h3 | h3
        · omega
        · exact h1 ⟨h3, h4⟩
/-- Where the else of a block was read, it was read at depth 0. -/
theorem cl_else {o : Nat → Int} {a i : Nat} (ha : a < i) : (∀ d (x : Nat), cl o a i = .run d x → a < x ∧ x < i ∧ cl o a x = .run 0 (-1)) ∧ (∀ (x : Nat) (e : Int), 0 ≤ e → cl o a i = .fin x e → a < x ∧ x < i ∧ cl o a x = .run 0 (-1)) := by
  induction i with
  | zero => omega
  | succ i ih =>
    by_cases hai : a < i
    · obtain ⟨ih1, ih2⟩ := ih hai
      have hok := cl_ok o a i hai
      rw [cl_succ o a i hai]
      cases hc : cl o a i with
      | fin x e =>
        refine ⟨fun d x' h => (by cases h), fun x' e' he' h => ?_⟩
        cases h
        obtain ⟨h1, h2, h3⟩ := ih2 _ _ he' hc
        exact ⟨h1, by omega, h3⟩
      | run d x =>
        rw [hc] at hok
        have ih1' : ∀ x' : Nat, x = x' → a < x' ∧ x' < i + 1 ∧ cl o a x' = .run 0 (-1) := by
          intro x' hx
          subst hx
          obtain ⟨h1, h2, h3⟩ := ih1 d x' hc
          exact ⟨h1, by omega, h3⟩
        unfold clS
        dsimp only
        constructor
        · intro d' x' h
          split at h
          · cases h
            exact ih1' x' rfl
          · split at h
            · split at h
              · split at h
                · cases h
                · rename_i hd hx
                  have hxm : x = -1 := by
                    rcases hok with h5 | h5
                    · exact h5
                    · omega
                  cases h
                  exact ⟨hai, by omega, by rw [hc, hd, hxm]⟩
              · cases h
                exact ih1' x' rfl
            · split at h
              · split at h
                · cases h
                · cases h
                  exact ih1' x' rfl
              · cases h
                exact ih1' x' rfl
        · intro x' e' he' h
          split at h
          · cases h
          · split at h
            · split at h
              · split at h
                · cases h
                · cases h
              · cases h
            · split at h
              · split at h
                · cases h
                  exact ih1' x' rfl
                · cases h
              · cases h
    · obtain rfl : a = i := by omega
      rw [cl_start]
      exact ⟨fun d x h => (by injection h with h1 h2; omega), fun x e _ h => (by cases h)⟩
/-- Ahead of its end a block ran at depth 0. -/
theorem cl_end {o : Nat → Int} {a i : Nat} (ha : a < i) (x : Int) (e : Nat) (h : cl o a i = .fin x e) : a < e ∧ e < i ∧ cl o a e = .run 0 x := by
  induction i with
  | zero => omega
  | succ i ih =>
    by_cases hai : a < i
    · rw [cl_succ o a i hai] at h
      cases hc : cl o a i with
      | fin y z =>
        rw [hc] at h
        cases h
        obtain ⟨h1, h2, h3⟩ := ih hai hc
        exact ⟨h1, by omega, h3⟩
      | run d y =>
        rw [hc] at h
        unfold clS at h
        dsimp only at h
        split at h
        · cases h
        · split at h
          · split at h
            · split at h
              · injection h with h1 h2
                omega
              · cases h
            · cases h
          · split at h
            · split at h
              · rename_i hd
                injection h with h1 h2
                have : i = e := by omega
                subst this
                exact ⟨hai, by omega, by rw [hc, hd, h1]⟩
              · cases h
            · cases h
    · obtain rfl : a = i := by omega
      rw [cl_start] at h
      cases h
theorem run0_inj {o : Nat → Int} {a b k : Nat} {x y : Int} (hoa : isOp (o a) = true) (hob : isOp (o b) = true) (ha : a < k) (hb : b < k) (h1 : cl o a k = .run 0 x) (h2 : cl o b k = .run 0 y) : a = b := by
  rcases Nat.lt_trichotomy a b with h | h | h
  · have := cl_nest h hb hob h1 h2
    omega
  · exact h
  · have := cl_nest h ha hoa h2 h1
    omega
theorem scan_L1 {cs : List Ins} {i : Nat} {m : List Int} {fs : List Fr} (h : scanTo cs i = some (m, fs)) : L1 (opc cs) i (fs.map pr) := by
  induction i generalizing m fs with
  | zero =>
    cases h
    exact L1.start _
  | succ i ih =>
    obtain ⟨⟨m1, fs1⟩, h1, h2⟩ := Option.bind_eq_some_iff.1 h
    have hL := ih h1
    have h2 : scanStep cs i m1 fs1 = some (m, fs) := h2
    unfold scanStep at h2
    split at h2
    · rename_i ho
      split at h2
      · cases h2
        have := hL.push (isOp_iff.2 ho)
        rw [List.map_append]
        exact this
      · cases h2
    · rename_i ho
      split at h2
      · rename_i h9
        split at h2
        · cases h2
        · rename_i b hb
          split at h2
          · cases h2
          · rename_i hx
            cases h2
            obtain ⟨k0, hk, hg⟩ := last_get hb
            have e1 : fs1.length - 1 = k0 := by omega
            have hx1 : ¬ 0 ≤ b.o := fun hh => hx (.inl hh)
            have hx2 : opc cs b.a = 48 := Classical.byContradiction (fun hh => hx (.inr hh))
            have := hL.else_ h9 (k0 := k0) (a0 := b.a) (x0 := b.o) (by rw [List.length_map]; exact hk) (by rw [List.getElem?_map, hg]; rfl) hx1 hx2
            rw [e1, List.map_set]
            exact this
      · rename_i h9
        split at h2
        · rename_i h0
          split at h2
          · cases h2
          · rename_i b hb
            cases h2
            obtain ⟨k0, hk, hg⟩ := last_get hb
            have e1 : fs1.length - 1 = k0 := by omega
            have := (hL.end_ h0 (k0 := k0) (a0 := b.a) (x0 := b.o) (by rw [List.length_map]; exact hk) (by rw [List.getElem?_map, hg]; rfl)).1
            rw [e1, List.map_take]
            exact this
        · rename_i h0
          split at h2
          · split at h2
            · cases h2
            · rename_i j hj
              cases h2
              have hl := topLoop_lt hj
              rw [List.length_map] at hl
              rw [map_set_same (List.getElem?_eq_getElem hl) (by rw [List.getElem?_eq_getElem hl]; rfl)]
              exact hL.skip (isOp_not ho) h9 h0
          · cases h2
            exact hL.skip (isOp_not ho) h9 h0
end Go.Proofs.Ytbdmbkmokhaflaa.Th
end

section
/- layer 6: the scan, read: where instructions lead -/
set_option linter.unusedVariables false
set_option linter.unusedSimpArgs false
namespace Go.Proofs.Ytbdmbkmokhaflaa.Th
open Go.Shape6 Go.Proofs.Ytbdmbkmokhaflaa.Q

def val : CS → Int
  | .run _ x => x
  | .fin x e => if 0 ≤ x then x else e
def special (v : Int) : Prop := v = 48 ∨ v = 49 ∨ v = 50 ∨ v = 51 ∨ v = 52
theorem cl_keep {o : Nat → Int} {a i : Nat} (ha : a < i) (h : ∀ x, cl o a i = .run 0 x → o i ≠ 49 ∧ o i ≠ 50) :
    val (cl o a (i + 1)) = val (cl o a i) ∧ ∀ x e, cl o a (i + 1) = .fin x e → cl o a i = .fin x e := by
  rw [cl_succ o a i ha]
  cases hc : cl o a i with
  | fin x e => exact ⟨rfl, fun _ _ h => h⟩
  | run d x =>
    have h0 : d = 0 → o i ≠ 49 ∧ o i ≠ 50 := fun hd => h x (by rw [hc, hd])
    unfold clS
    dsimp only
    split
    · exact ⟨rfl, fun _ _ h => (by cases h)⟩
    · split
      · split
        · rename_i h9 hd
          exact absurd h9 (h0 hd).1
        · exact ⟨rfl, fun _ _ h => (by cases h)⟩
      · split
        · split
          · rename_i h5 hd
            exact absurd h5 (h0 hd).2
          · exact ⟨rfl, fun _ _ h => (by cases h)⟩
        · exact ⟨rfl, fun _ _ h => (by cases h)⟩
structure L2 (cs : List Ins) (i : Nat) (m : List Int) (fs : List Fr) : Prop where
  m1 : ∀ a, a < i → isOp (opc cs a) = true → m[a]? = some (val (cl (opc cs) a i))
  m2 : ∀ (a : Nat) (x : Int) (e : Nat), a < i → isOp (opc cs a) = true → cl (opc cs) a i = .fin x e → m[e]? = some (a : Int) ∧ (0 ≤ x → m[x.toNat]? = some (e : Int))
  m4 : ∀ k : Nat, k < i → opc cs k = 52 → ∃ a, Tgt cs k a ∧ ((∃ b ∈ fs, b.a = a ∧ (k : Int) ∈ b.l) ∨ ∃ (x : Int) (e : Nat), cl (opc cs) a i = .fin x e ∧ m[k]? = some (e : Int))
  m5 : ∀ k, k < cs.length → ¬ special (opc cs k) → m[k]? = some (-1)
  m6 : ∀ k, i ≤ k → k < cs.length → m[k]? = some (-1)
  lv : ∀ b ∈ fs, ∀ q ∈ b.l, ∃ k : Nat, q = (k : Int) ∧ k < i ∧ opc cs k = 52 ∧ Tgt cs k b.a
theorem Tgt.ok {cs : List Ins} {k a : Nat} (h : Tgt cs k a) : a < k ∧ opc cs a = 51 ∧ ∃ d x, cl (opc cs) a k = .run d x := by
  obtain ⟨m, fs, j, b, h1, h2, h3, h4⟩ := h
  have hL := scan_L1 h1
  have hf := hL.fr j b.a b.o (by rw [List.getElem?_map, h3]; rfl)
  have hl : loopAt cs (fs.map Fr.a) j = true := by
    have h2' := List.find?_some h2
    exact h2'
  have ho : opc cs b.a = 51 := by
    have := of_decide_eq_true hl
    rw [List.getElem?_map, h3] at this
    exact this
  rw [← h4]
  exact ⟨hf.1, ho, _, _, hf.2.2⟩
theorem fin_facts {cs : List Ins} {a i : Nat} {x : Int} {e : Nat} (ha : a < i) (h : cl (opc cs) a i = .fin x e) : a < e ∧ e < i ∧ opc cs e = 50 ∧ (x = -1 ∨ ((a : Int) < x ∧ x < e ∧ opc cs x.toNat = 49 ∧ opc cs a = 48)) := by
  have := cl_ok (opc cs) a i ha
  rw [h] at this
  rcases this with ⟨h1, h2⟩ | ⟨h1, h2, h3, h4⟩
  · omega
  · rw [Int.toNat_natCast] at h3
    exact ⟨by omega, by omega, h3, h4⟩
theorem run_facts {cs : List Ins} {a i d : Nat} {x : Int} (ha : a < i) (h : cl (opc cs) a i = .run d x) : x = -1 ∨ ((a : Int) < x ∧ x < i ∧ opc cs x.toNat = 49 ∧ opc cs a = 48) := by
  have := cl_ok (opc cs) a i ha
  rw [h] at this
  exact this
theorem L2.same {cs : List Ins} {i : Nat} {m : List Int} {fs fs' : List Fr} (h : L2 cs i m fs) (hi : i < cs.length) (hk : ∀ a, a < i → ∀ x, cl (opc cs) a i = .run 0 x → opc cs i ≠ 49 ∧ opc cs i ≠ 50) (hfs : ∀ b ∈ fs, ∃ b' ∈ fs', b'.a = b.a ∧ ∀ q ∈ b.l, q ∈ b'.l)
    (h4 : opc cs i = 52 → ∃ a, Tgt cs i a ∧ ∃ b ∈ fs', b.a = a ∧ (i : Int) ∈ b.l) (hlv : ∀ b ∈ fs', ∀ q ∈ b.l, ∃ k : Nat, q = (k : Int) ∧ k < i + 1 ∧ opc cs k = 52 ∧ Tgt cs k b.a) : L2 cs (i + 1) m fs' := by
  refine ⟨fun a ha ho => ?_, fun a x e ha ho hc => ?_, fun k hk' hk2 => ?_, h.m5, fun k hk1 hk2 => h.m6 k (by omega) hk2, hlv⟩
  · by_cases hai : a = i
    · subst hai
      rw [cl_start]
      exact h.m6 a (Nat.le_refl _) hi
    · rw [h.m1 a (by omega) ho, (cl_keep (by omega) (hk a (by omega))).1]
  · by_cases hai : a = i
    · subst hai
      rw [cl_start] at hc
      cases hc
    · exact h.m2 a x e (by omega) ho ((cl_keep (by omega) (hk a (by omega))).2 x e hc)
  · by_cases hki : k = i
    · subst hki
      obtain ⟨a, h1, h2⟩ := h4 hk2
      exact ⟨a, h1, .inl h2⟩
    · obtain ⟨a, h1, h2⟩ := h.m4 k (by omega) hk2
      refine ⟨a, h1, ?_⟩
      rcases h2 with ⟨b, hb, hb2, hb3⟩ | ⟨x, e, hc, hm⟩
      · obtain ⟨b', hb', e1, e2⟩ := hfs b hb
        exact .inl ⟨b', hb', e1.trans hb2, e2 _ hb3⟩
      · exact .inr ⟨x, e, cl_fin_mono hc (by have := h1.ok.1; omega) (Nat.le_succ i), hm⟩
theorem scan_L2 {cs : List Ins} {i : Nat} {m : List Int} {fs : List Fr} (hn : i ≤ cs.length) (h : scanTo cs i = some (m, fs)) : L2 cs i m fs := by
  induction i generalizing m fs with
  | zero =>
    cases h
    have hr : ∀ k, k < cs.length → (List.replicate cs.length (-1 : Int))[k]? = some (-1) := fun k hk => by rw [List.getElem?_replicate, if_pos hk]
    exact ⟨fun a ha => absurd ha (Nat.not_lt_zero a), fun a x e ha => absurd ha (Nat.not_lt_zero a), fun k hk => absurd hk (Nat.not_lt_zero k), fun k hk _ => hr k hk, fun k _ hk => hr k hk, fun b hb => (by cases hb)⟩
  | succ i ih =>
    obtain ⟨⟨m1, fs1⟩, h1, h2⟩ := Option.bind_eq_some_iff.1 h
    have hL := scan_L1 h1
    have hI := ih (by omega) h1
    have hok := scanTo_ok h1
    have h2 : scanStep cs i m1 fs1 = some (m, fs) := h2
    have hlv' : ∀ b ∈ fs1, ∀ q ∈ b.l, ∃ k : Nat, q = (k : Int) ∧ k < i + 1 ∧ opc cs k = 52 ∧ Tgt cs k b.a := fun b hb q hq => by
      obtain ⟨k, e1, e2, e3⟩ := hI.lv b hb q hq
      exact ⟨k, e1, by omega, e3⟩
    unfold scanStep at h2
    split at h2
    · rename_i ho
      have ho : opc cs i = 48 ∨ opc cs i = 51 := ho
      split at h2
      · cases h2
        refine hI.same (by omega) (fun a _ x _ => by omega) (fun b hb => ⟨b, List.mem_append_left _ hb, rfl, fun _ h => h⟩) (fun h => by omega) (fun b hb q hq => ?_)
        rcases List.mem_append.1 hb with hb | hb
        · exact hlv' b hb q hq
        · rw [List.mem_singleton.1 hb] at hq
          cases hq
      · cases h2
    · rename_i ho
      have ho : ¬ (opc cs i = 48 ∨ opc cs i = 51) := ho
      split at h2
      · rename_i h9
        have h9 : opc cs i = 49 := h9
        split at h2
        · cases h2
        · rename_i b hb
          split at h2
          · cases h2
          · rename_i hx
            cases h2
            obtain ⟨k0, hk, hg⟩ := last_get hb
            have e1 : fs1.length - 1 = k0 := by omega
            have hgm : (fs1.map pr)[k0]? = some (b.a, b.o) := by rw [List.getElem?_map, hg]; rfl
            have hlm : (fs1.map pr).length = k0 + 1 := by rw [List.length_map]; exact hk
            have hx1 : ¬ 0 ≤ b.o := fun hh => hx (.inl hh)
            have hx2 : opc cs b.a = 48 := Classical.byContradiction (fun hh => hx (.inr hh))
            obtain ⟨t1, t2, t3⟩ := hL.fr k0 b.a b.o hgm
            rw [hlm, show k0 + 1 - 1 - k0 = 0 by omega] at t3
            have htop : cl (opc cs) b.a (i + 1) = .run 0 i := by
              have h3 := (hL.else_ h9 hlm hgm hx1 hx2).fr k0 b.a i (by rw [List.getElem?_set_self (by omega)])
              rw [List.length_set, hlm, show k0 + 1 - 1 - k0 = 0 by omega] at h3
              exact h3.2.2
            have hkeep : ∀ a, a < i → isOp (opc cs a) = true → a ≠ b.a → val (cl (opc cs) a (i + 1)) = val (cl (opc cs) a i) ∧ ∀ x e, cl (opc cs) a (i + 1) = .fin x e → cl (opc cs) a i = .fin x e := fun a ha hoa hne => cl_keep ha (fun x hx => absurd (run0_inj hoa t2 ha t1 hx t3) hne)
            have hmem : b ∈ fs1 := getLast_mem' hb
            have hset : ∀ k, k ≠ b.a → (m1.set b.a (i : Int))[k]? = m1[k]? := fun k hk => List.getElem?_set_ne (fun e => hk e.symm)
            have hset0 : (m1.set b.a (i : Int))[b.a]? = some (i : Int) := List.getElem?_set_self (by rw [hok.1]; omega)
            rw [e1]
            refine ⟨fun a ha hoa => ?_, fun a x e ha hoa hc => ?_, fun k hk' hk2 => ?_, fun k hk1 hk2 => ?_, fun k hk1 hk2 => ?_, fun b' hb' q hq => ?_⟩
            · by_cases hab : a = b.a
              · subst hab
                rw [hset0, htop]
                rfl
              · by_cases hai : a = i
                · subst hai
                  exact absurd (isOp_iff.1 hoa) ho
                · rw [hset a hab, hI.m1 a (by omega) hoa, (hkeep a (by omega) hoa hab).1]
            · by_cases hab : a = b.a
              · subst hab
                rw [htop] at hc
                cases hc
              · by_cases hai : a = i
                · subst hai
                  exact absurd (isOp_iff.1 hoa) ho
                · have hc' := (hkeep a (by omega) hoa hab).2 x e hc
                  obtain ⟨f1, f2, f3, f4⟩ := fin_facts (by omega) hc'
                  obtain ⟨g1, g2⟩ := hI.m2 a x e (by omega) hoa hc'
                  refine ⟨by rw [hset e (fun hh => by rw [hh] at f3; omega)]; exact g1, fun h0 => ?_⟩
                  rw [hset x.toNat (fun hh => by
                    rcases f4 with f4 | f4
                    · omega
                    · rw [hh] at f4
                      omega)]
                  exact g2 h0
            · by_cases hki : k = i
              · subst hki
                omega
              · obtain ⟨a, h3, h4⟩ := hI.m4 k (by omega) hk2
                refine ⟨a, h3, ?_⟩
                rcases h4 with ⟨b', hb', hb2, hb3⟩ | ⟨x, e, hc, hm⟩
                · obtain ⟨q, hq, hqe⟩ := List.getElem_of_mem hb'
                  by_cases hqk : q = k0
                  · subst hqk
                    rw [List.getElem?_eq_getElem hq] at hg
                    have hbb : b' = b := by rw [← hqe]; exact Option.some.inj hg
                    exact .inl ⟨⟨b.a, i, b.l⟩, List.mem_set hq _, by rw [← hb2, hbb], by rw [← hbb]; exact hb3⟩
                  · exact .inl ⟨b', List.mem_iff_getElem?.2 ⟨q, by rw [List.getElem?_set_ne (fun e => hqk e.symm), List.getElem?_eq_getElem hq, hqe]⟩, hb2, hb3⟩
                · refine .inr ⟨x, e, cl_fin_mono hc (by have := h3.ok.1; omega) (Nat.le_succ i), ?_⟩
                  rw [hset k (fun hh => by rw [hh] at hk2; omega)]
                  exact hm
            · rw [hset k (fun hh => hk2 (by rw [hh]; exact .inl hx2))]
              exact hI.m5 k hk1 hk2
            · rw [hset k (by omega)]
              exact hI.m6 k (by omega) hk2
            · rcases List.mem_or_eq_of_mem_set hb' with hb' | hb'
              · exact hlv' b' hb' q hq
              · rw [hb'] at hq ⊢
                exact hlv' b hmem q hq
      · rename_i h9
        have h9 : opc cs i ≠ 49 := h9
        split at h2
        · rename_i h0
          have h0 : opc cs i = 50 := h0
          split at h2
          · cases h2
          · rename_i b hb
            cases h2
            obtain ⟨k0, hk, hg⟩ := last_get hb
            have e1 : fs1.length - 1 = k0 := by omega
            have hgm : (fs1.map pr)[k0]? = some (b.a, b.o) := by rw [List.getElem?_map, hg]; rfl
            have hlm : (fs1.map pr).length = k0 + 1 := by rw [List.length_map]; exact hk
            obtain ⟨t1, t2, t3⟩ := hL.fr k0 b.a b.o hgm
            rw [hlm, show k0 + 1 - 1 - k0 = 0 by omega] at t3
            have htop := (hL.end_ h0 hlm hgm).2
            have hkeep : ∀ a, a < i → isOp (opc cs a) = true → a ≠ b.a → val (cl (opc cs) a (i + 1)) = val (cl (opc cs) a i) ∧ ∀ x e, cl (opc cs) a (i + 1) = .fin x e → cl (opc cs) a i = .fin x e := fun a ha hoa hne => cl_keep ha (fun x hx => absurd (run0_inj hoa t2 ha t1 hx t3) hne)
            have hmem : b ∈ fs1 := getLast_mem' hb
            have hrf := run_facts t1 t3
            have hix : ∃ ix : Nat, (if 0 ≤ b.o then b.o.toNat else b.a) = ix ∧ ix < i ∧ (0 ≤ b.o → (ix : Int) = b.o ∧ opc cs ix = 49) ∧ (¬ 0 ≤ b.o → ix = b.a) := by
              by_cases hbo : 0 ≤ b.o
              · rw [if_pos hbo]
                rcases hrf with h3 | ⟨h3, h4, h5, h6⟩
                · omega
                · exact ⟨_, rfl, by omega, fun _ => ⟨by omega, h5⟩, fun h => absurd hbo h⟩
              · rw [if_neg hbo]
                exact ⟨_, rfl, t1, fun h => absurd h hbo, fun _ => rfl⟩
            obtain ⟨ix, hixe, hix1, hix2, hix3⟩ := hix
            rw [hixe, e1]
            have hml := hok.1
            have hl0 : ∀ q ∈ b.l, 0 ≤ q := fun q hq => ((hok.2.2 b hmem).2.2.2 q hq).1
            have hnl : ∀ k : Nat, opc cs k ≠ 52 → (k : Int) ∉ b.l := fun k hk2 hkl => by
              obtain ⟨k', f1, f2, f3, f4⟩ := hI.lv b hmem _ hkl
              have : k = k' := by omega
              rw [this] at hk2
              exact hk2 f3
            have hget : ∀ k : Nat, (k : Int) ∉ b.l → k ≠ i → k ≠ ix → (setAll ((m1.set i (b.a : Int)).set ix (i : Int)) b.l (i : Int))[k]? = m1[k]? := fun k g1 g2 g3 => by
              rw [setAll_get _ _ _ _ hl0, if_neg (fun hh => g1 hh.1), List.getElem?_set_ne (fun e => g3 e.symm), List.getElem?_set_ne (fun e => g2 e.symm)]
            have hgeti : (setAll ((m1.set i (b.a : Int)).set ix (i : Int)) b.l (i : Int))[i]? = some (b.a : Int) := by
              rw [setAll_get _ _ _ _ hl0, if_neg (fun hh => hnl i (by omega) hh.1), List.getElem?_set_ne (by omega), List.getElem?_set_self (by omega)]
            have hgetx : opc cs ix ≠ 52 → (setAll ((m1.set i (b.a : Int)).set ix (i : Int)) b.l (i : Int))[ix]? = some (i : Int) := fun hne => by
              rw [setAll_get _ _ _ _ hl0, if_neg (fun hh => hnl ix hne hh.1), List.getElem?_set_self (by rw [List.length_set]; omega)]
            have hgetl : ∀ k : Nat, (k : Int) ∈ b.l → (setAll ((m1.set i (b.a : Int)).set ix (i : Int)) b.l (i : Int))[k]? = some (i : Int) := fun k hkl => by
              rw [setAll_get _ _ _ _ hl0, if_pos ⟨hkl, by rw [List.length_set, List.length_set]; have := (hok.2.2 b hmem).2.2.2 _ hkl; omega⟩]
            have hba2 : opc cs b.a = 48 ∨ opc cs b.a = 51 := isOp_iff.1 t2
            refine ⟨fun a ha hoa => ?_, fun a x e ha hoa hc => ?_, fun k hk' hk2 => ?_, fun k hk1 hk2 => ?_, fun k hk1 hk2 => ?_, fun b' hb' q hq => hlv' b' (List.mem_of_mem_take hb') q hq⟩
            · have hoa2 := isOp_iff.1 hoa
              by_cases hai : a = i
              · subst hai
                exact absurd hoa2 ho
              · by_cases hab : a = b.a
                · rw [hab, htop]
                  show _ = some (if 0 ≤ b.o then b.o else (i : Int))
                  by_cases hbo : 0 ≤ b.o
                  · rw [if_pos hbo, hget b.a (hnl b.a (by omega)) (by omega) (fun hh => by have := (hix2 hbo).2; rw [← hh] at this; omega), hI.m1 b.a t1 t2, t3]
                    rfl
                  · have h7 := hgetx (by rw [hix3 hbo]; omega)
                    have e7 := hix3 hbo
                    rw [if_neg hbo]
                    rw [e7] at h7 ⊢
                    exact h7
                · rw [hget a (hnl a (by omega)) hai (fun hh => by
                    by_cases hbo : 0 ≤ b.o
                    · have := (hix2 hbo).2
                      rw [← hh] at this
                      omega
                    · exact hab (hh.trans (hix3 hbo))), hI.m1 a (by omega) hoa, (hkeep a (by omega) hoa hab).1]
            · have hoa2 := isOp_iff.1 hoa
              by_cases hai : a = i
              · subst hai
                exact absurd hoa2 ho
              · by_cases hab : a = b.a
                · subst hab
                  rw [htop] at hc
                  injection hc with hc1 hc2
                  have : e = i := by omega
                  subst this
                  refine ⟨hgeti, fun hx0 => ?_⟩
                  rw [← hc1] at hx0 ⊢
                  have h3 := hix2 hx0
                  rw [show b.o.toNat = ix by omega]
                  exact hgetx (by omega)
                · have hc' := (hkeep a (by omega) hoa hab).2 x e hc
                  obtain ⟨f1, f2, f3, f4⟩ := fin_facts (by omega) hc'
                  obtain ⟨g1, g2⟩ := hI.m2 a x e (by omega) hoa hc'
                  have hixe2 : opc cs ix ≠ 50 := by
                    by_cases hbo : 0 ≤ b.o
                    · have := (hix2 hbo).2
                      omega
                    · rw [hix3 hbo]
                      omega
                  refine ⟨by rw [hget e (hnl e (by omega)) (by omega) (fun hh => hixe2 (by rw [← hh]; exact f3))]; exact g1, fun hx0 => ?_⟩
                  rcases f4 with f4 | ⟨f4, f5, f6, f7⟩
                  · omega
                  · rw [hget x.toNat (hnl _ (by omega)) (by omega) (fun hh => by
                      by_cases hbo : 0 ≤ b.o
                      · obtain ⟨h3, h4⟩ := hix2 hbo
                        have p1 := (cl_else (o := opc cs) t1).1 0 ix (by rw [h3]; exact t3)
                        have p2 := (cl_else (o := opc cs) (by omega : a < i)).2 ix e (by omega) (by rw [← hh, show ((x.toNat : Nat) : Int) = x by omega]; exact hc')
                        exact hab (run0_inj hoa t2 p2.1 p1.1 p2.2.2 p1.2.2)
                      · rw [hh, hix3 hbo] at f6
                        omega)]
                    exact g2 hx0
            · by_cases hki : k = i
              · subst hki
                omega
              · obtain ⟨a, h3, h4⟩ := hI.m4 k (by omega) hk2
                refine ⟨a, h3, ?_⟩
                rcases h4 with ⟨b', hb', hb2, hb3⟩ | ⟨x, e, hc, hm⟩
                · obtain ⟨q, hq, hqe⟩ := List.getElem_of_mem hb'
                  by_cases hqk : q = k0
                  · subst hqk
                    rw [List.getElem?_eq_getElem hq] at hg
                    have hbb : b' = b := by rw [← hqe]; exact Option.some.inj hg
                    exact .inr ⟨b.o, i, by rw [← hb2, hbb]; exact htop, hgetl k (by rw [← hbb]; exact hb3)⟩
                  · exact .inl ⟨b', List.mem_iff_getElem?.2 ⟨q, by rw [List.getElem?_take, if_pos (by omega), List.getElem?_eq_getElem hq, hqe]⟩, hb2, hb3⟩
                · refine .inr ⟨x, e, cl_fin_mono hc (by have := h3.ok.1; omega) (Nat.le_succ i), ?_⟩
                  rw [hget k (fun hkl => by
                    obtain ⟨k', f1, f2, f3, f4⟩ := hI.lv b hmem _ hkl
                    have hkk : k = k' := by omega
                    subst hkk
                    have := Tgt.det f4 h3
                    rw [← this, t3] at hc
                    cases hc) hki (fun hh => by
                      by_cases hbo : 0 ≤ b.o
                      · have := (hix2 hbo).2
                        rw [← hh] at this
                        omega
                      · rw [hh, hix3 hbo] at hk2
                        omega)]
                  exact hm
            · have hsp : ∀ v, v = 48 ∨ v = 51 ∨ v = 49 ∨ v = 50 ∨ v = 52 → special v := fun v hv => by unfold special; omega
              rw [hget k (hnl k (fun hh => hk2 (hsp _ (by omega)))) (fun hh => hk2 (hsp _ (by rw [hh]; omega))) (fun hh => hk2 (hsp _ (by
                rw [hh]
                by_cases hbo : 0 ≤ b.o
                · have := (hix2 hbo).2
                  omega
                · rw [hix3 hbo]
                  omega)))]
              exact hI.m5 k hk1 hk2
            · rw [hget k (fun hkl => by have := (hok.2.2 b hmem).2.2.2 _ hkl; omega) (by omega) (by omega)]
              exact hI.m6 k (by omega) hk2
        · rename_i h0
          have h0 : opc cs i ≠ 50 := h0
          split at h2
          · rename_i h52
            split at h2
            · cases h2
            · rename_i j hj
              cases h2
              have hl := topLoop_lt hj
              rw [List.length_map] at hl
              have hgj := List.getElem?_eq_getElem hl
              rw [hgj, Option.getD_some]
              have htg : Tgt cs i fs1[j].a := ⟨m, fs1, j, fs1[j], h1, hj, hgj, rfl⟩
              refine hI.same (by omega) (fun a _ x _ => ⟨h9, h0⟩) (fun b hb => ?_) (fun _ => ⟨_, htg, ⟨fs1[j].a, fs1[j].o, fs1[j].l ++ [(i : Int)]⟩, List.mem_set hl _, rfl, by simp⟩) (fun b hb q hq => ?_)
              · obtain ⟨p, hp, hpe⟩ := List.getElem_of_mem hb
                by_cases hpj : p = j
                · subst hpj
                  refine ⟨_, List.mem_set hl _, by rw [← hpe], fun q hq => ?_⟩
                  rw [← hpe] at hq
                  exact List.mem_append_left _ hq
                · exact ⟨b, List.mem_iff_getElem?.2 ⟨p, by rw [List.getElem?_set_ne (fun e => hpj e.symm), List.getElem?_eq_getElem hp, hpe]⟩, rfl, fun _ h => h⟩
              · rcases List.mem_or_eq_of_mem_set hb with hb | hb
                · exact hlv' b hb q hq
                · rw [hb] at hq ⊢
                  rcases List.mem_append.1 hq with hq | hq
                  · exact hlv' fs1[j] (List.getElem_mem hl) q hq
                  · rw [List.mem_singleton.1 hq]
                    exact ⟨i, rfl, by omega, h52, htg⟩
          · rename_i h52
            cases h2
            exact hI.same (by omega) (fun a _ x _ => ⟨h9, h0⟩) (fun b hb => ⟨b, hb, rfl, fun _ h => h⟩) (fun h => absurd h h52) hlv'
end Go.Proofs.Ytbdmbkmokhaflaa.Th
end

section
/- layer 6: what the laws' small functions come to: rows of numbers compared, own instructions, what must come -/
set_option linter.unusedVariables false
set_option linter.unusedSimpArgs false
namespace Go.Proofs.Ytbdmbkmokhaflaa.Th
open Go.RowKit Go.Proofs.YtbdmbkmokhaflaaW.PrintWords Go.Proofs.YtbdmbkmokhaflaaW.Hb Go.Proofs.Ytbdmbkmokhaflaa.Q

theorem w64 {x : Int} (h0 : -9223372036854775808 ≤ x) (h1 : x ≤ 9223372036854775807) : wrap64 x = x := by unfold wrap64; omega
theorem rdN (l : List Int) (i : Nat) (hi : i < l.length) : rd l (i : Int) = l[i] := by simp [rd, List.getD_eq_getElem?_getD, hi]
theorem ints_l0 (a b : List Int) (hl : a.length = b.length) (hm : a.length ≤ 4611686018427387904) (d : Nat) : ∀ i : Nat, a.length - i = d → i ≤ a.length → Ev (fun k => weighhouselaw03_Ints.l0 k a b (i : Int)) (decide (a.drop i = b.drop i)) := by
  induction d with
  | zero =>
    intro i hd hi
    have e1 : a.drop i = b.drop i := by rw [List.drop_eq_nil_of_le (by omega), List.drop_eq_nil_of_le (by omega)]
    rw [decide_eq_true e1]
    refine Ev.step (f := fun _ => some true) (fun k => ?_) (Ev.now _)
    simp only [weighhouselaw03_Ints.l0]
    rw [if_neg (by omega)]
  | succ d ih =>
    intro i hd hi
    have ha : i < a.length := by omega
    have hb : i < b.length := by omega
    by_cases he : a[i] = b[i]
    · have e1 : decide (a.drop i = b.drop i) = decide (a.drop (i + 1) = b.drop (i + 1)) := by
        rw [List.drop_eq_getElem_cons ha, List.drop_eq_getElem_cons hb, he]
        exact decide_eq_decide.2 ⟨fun h => (List.cons.inj h).2, fun h => by rw [h]⟩
      rw [e1]
      refine Ev.step (f := fun k => weighhouselaw03_Ints.l0 k a b ((i + 1 : Nat) : Int)) (fun k => ?_) (ih (i + 1) (by omega) (by omega))
      simp only [weighhouselaw03_Ints.l0]
      rw [if_pos (by omega), if_pos (by omega), if_pos (by omega), rdN a i ha, rdN b i hb, if_pos he, w64 (by omega) (by omega)]
      rfl
    · have e1 : decide (a.drop i = b.drop i) = false := by
        rw [List.drop_eq_getElem_cons ha, List.drop_eq_getElem_cons hb]
        exact decide_eq_false (fun h => he (List.cons.inj h).1)
      rw [e1]
      refine Ev.step (f := fun _ => some false) (fun k => ?_) (Ev.now _)
      simp only [weighhouselaw03_Ints.l0]
      rw [if_pos (by omega), if_pos (by omega), if_pos (by omega), rdN a i ha, rdN b i hb, if_neg he]
theorem ints_ev (a b : List Int) (hm : a.length ≤ 4611686018427387904) : Ev (fun k => weighhouselaw03_Ints.f k a b) (decide (a = b)) := by
  by_cases hl : a.length = b.length
  · refine Ev.congr (f := fun k => weighhouselaw03_Ints.l0 k a b ((0 : Nat) : Int)) (fun k => ?_) ?_
    · unfold weighhouselaw03_Ints.f
      rw [if_pos (by omega)]
      rfl
    · have h := ints_l0 a b hl hm a.length 0 (by omega) (by omega)
      simpa using h
  · have e : decide (a = b) = false := decide_eq_false (fun e => hl (by rw [e]))
    rw [e]
    refine Ev.congr (f := fun _ => some false) (fun k => ?_) (Ev.now _)
    unfold weighhouselaw03_Ints.f
    rw [if_neg (by omega)]
theorem own_f (l : List Ins) (h : l.length ≤ 1048576) : weighhouselaw06_Own.f l = some l := by
  unfold weighhouselaw06_Own.f
  rw [Option.bind_some, if_pos (by simp; omega)]
  rfl
theorem match_none {l : List Ins} (hl : l.length ≤ 1048576) (h : scanAll l = none) : shape_Match.f l = some ([], 31) := by
  unfold shape_Match.f
  rw [if_pos hl, h]
theorem match_some {l : List Ins} {m : List Int} (hl : l.length ≤ 1048576) (h : scanAll l = some m) : shape_Match.f l = some (m, 0) := by
  unfold shape_Match.f
  rw [if_pos hl, h]
theorem knows_ev : Ev (fun k => weighhouselaw06_knows.f k) true := by
  have h1 : shape_Match.f (([(⟨48, 0⟩ : Ins), (⟨49, 0⟩ : Ins), (⟨50, 0⟩ : Ins)] : List Ins)) = some ([1, 2, 0], 0) := match_some (by decide) (by decide +kernel)
  have h2 : shape_Match.f (([(⟨51, 1⟩ : Ins), (⟨52, 0⟩ : Ins), (⟨50, 0⟩ : Ins)] : List Ins)) = some ([2, 2, 0], 0) := match_some (by decide) (by decide +kernel)
  refine Ev.congr (f := fun k => (weighhouselaw03_Ints.f k [1, 2, 0] [1, 2, 0]).bind fun t122 => (if t122 = true then ((weighhouselaw03_Ints.f k [2, 2, 0] [2, 2, 0]).bind fun t126 => (some t126)) else (some false))) (fun k => ?_) ?_
  · unfold weighhouselaw06_knows.f
    rw [h1, Option.bind_some, h2, Option.bind_some]
    show ((weighhouselaw06_num.f 0).bind fun t117 => (weighhouselaw06_num.f 0).bind fun t118 => _) = _
    rw [show weighhouselaw06_num.f 0 = some 0 from rfl, Option.bind_some, Option.bind_some, if_pos (by rw [w64 (by omega) (by omega)]; rfl)]
  · refine Ev.bind (a := true) (ints_ev [1, 2, 0] [1, 2, 0] (by decide)) ?_
    refine Ev.congr (f := fun k => (weighhouselaw03_Ints.f k [2, 2, 0] [2, 2, 0]).bind fun t126 => (some t126)) (fun k => if_pos rfl) ?_
    exact Ev.bind (a := true) (ints_ev [2, 2, 0] [2, 2, 0] (by decide)) (Ev.now _)
end Go.Proofs.Ytbdmbkmokhaflaa.Th
end

section
-- written by hprint.py (a program of these sessions) out of the translation; Lean checks it
namespace Go.Proofs.Ytbdmbkmokhaflaa.Q
open Go.RowKit Go.Proofs.YtbdmbkmokhaflaaW.Hb Go.Proofs.YtbdmbkmokhaflaaW.PrintWords Go.Proofs.YtbdmbkmokhaflaaW.PrintLast Go.Proofs.YtbdmbkmokhaflaaW.PrintMore
attribute [local go_sem] max2_int min2_int max_two min_two max_three min_three max_four min_four   -- for this text's walks alone
set_option linter.unusedVariables false
set_option linter.unusedSimpArgs false

/-! ### shape_Depth_lit1_25: function 25, by hand -/
def opens (o : Int) : Bool := decide (o = 48) || decide (o = 51)
def deeper (m : Int) (n : Nat) (o : Int) : Int := max m ((n : Int) + if opens o then 1 else 0)
set_option maxRecDepth 100000 in
set_option maxHeartbeats 1000000 in
theorem shape_Depth_lit1_25.calls (w : World) (bc bm i n co cc : Nat) (A Ao : Option Addr) (cs : List Ins) (m : Int) (h0 : w.cell? ⟨bc, 0, none⟩ = some (.slice A cs.length cc)) (hr : Kd.C k31 w A cs.length cs) (hb : Blk w bm 3 #[.int .i64 m]) (hi : i < cs.length) (hn : n ≤ 1048576) :
    Calls Try.prog 25 #[.int .i64 i, .slice Ao n co, .pointer (some ⟨bc, 0, none⟩), .pointer (some ⟨bm, 0, none⟩)] w fun e w' => e = .returned (.tuple #[]) ∧ Blk w' bm 3 #[.int .i64 (deeper m n cs[i].f0)] ∧ Chg w w' (fun k => k = bm) := by
  obtain ⟨ad, e, hc, _⟩ := at_Ins hr i hi
  cases e
  have hm : cs.length ≤ 9223372036854775807 := hr.2.1
  obtain ⟨v, hv⟩ : ∃ v, cs[i].f0 = v := ⟨_, rfl⟩
  rw [hv] at hc ⊢
  have q1 : (i : Int) < (cs.length : Int) := by omega
  have hbm : w.cell? ⟨bm, 0, none⟩ = some (.int .i64 m) := hb.cell 0
  have hfm : w.frozen? ⟨bm, 0, none⟩ = false := hb.frozen 0
  have HB := Aside0.mk hb
  have hw : wrap64 ((n : Int) + 1) = (n : Int) + 1 := by unfold wrap64; omega
  clear hr hb
  have fin : ∀ (x : Int), deeper m n v = max m x → ∀ (w1 : World) (y : Int), w1 = w.setCell ⟨bm, 0, none⟩ (.int .i64 y) → y = max m x → Blk w1 bm 3 #[.int .i64 (deeper m n v)] ∧ Chg w w1 (fun k => k = bm) := by
    intro x hx w1 y hw1 hy
    subst hw1 hy
    rw [hx]
    exact ⟨by simpa using HB.out.set_ 0 (.int .i64 (max m x)), Chg.set_ w ⟨bm, 0, none⟩ _⟩
  by_cases h48 : v = 48
  · subst h48
    have HX := Aside0.mk (fin ((n : Int) + 1) (by simp [deeper, opens]))
    clear fin
    go_enter Try.func25, Try.ntmps25
    go_wp2
    all_goals refine bodyPost_end (results_none rfl _ _ _) rfl ?_
    all_goals exact ⟨rfl, HX.out _ _ rfl (by omega)⟩
  · by_cases h51 : v = 51
    · subst h51
      have HX := Aside0.mk (fin ((n : Int) + 1) (by simp [deeper, opens]))
      clear fin
      go_enter Try.func25, Try.ntmps25
      go_wp2
      all_goals refine bodyPost_end (results_none rfl _ _ _) rfl ?_
      all_goals exact ⟨rfl, HX.out _ _ rfl (by omega)⟩
    · have d1 : (v == 48) = false := by simp [h48]
      have d2 : (v == 51) = false := by simp [h51]
      have HX := Aside0.mk (fin (n : Int) (by simp [deeper, opens, h48, h51]))
      clear fin h48 h51
      go_enter Try.func25, Try.ntmps25
      go_wp2
      all_goals refine bodyPost_end (results_none rfl _ _ _) rfl ?_
      all_goals exact ⟨rfl, HX.out _ _ rfl (by omega)⟩


end Go.Proofs.Ytbdmbkmokhaflaa.Q
end

section
-- written by hprint.py (a program of these sessions) out of the translation; Lean checks it
namespace Go.Proofs.Ytbdmbkmokhaflaa.Q
open Go.RowKit Go.Proofs.YtbdmbkmokhaflaaW.Hb Go.Proofs.YtbdmbkmokhaflaaW.PrintWords Go.Proofs.YtbdmbkmokhaflaaW.PrintLast Go.Proofs.YtbdmbkmokhaflaaW.PrintMore
attribute [local go_sem] max2_int min2_int max_two min_two max_three min_three max_four min_four   -- for this text's walks alone
set_option linter.unusedVariables false
set_option linter.unusedSimpArgs false

/-! ### shape_Depth: function 16, by hand -/
def openAt (cs : List Ins) (i : Nat) : Nat := ((scanTo cs i).map (fun s => s.2.length)).getD 0
def depthTo (cs : List Ins) : Nat → Int
  | 0 => 0
  | i + 1 => deeper (depthTo cs i) (openAt cs i) (opAt cs i)
def shape_Depth.f (l0 : List Ins) : Option (Int × Int) := if l0.length ≤ 1048576 then some (match scanAll l0 with | none => (0, 31) | some _ => (depthTo l0 l0.length, 0)) else none
theorem cf_depth (args : Array Value) (W : World) : (callFunc 25 args).run Try.prog W = .ok (.enter 25 args) W := by go_simp
theorem sees_depth (cs : List Ins) (w : World) (bc bm cc : Nat) (A : Option Addr) (h0 : w.cell? ⟨bc, 0, none⟩ = some (.slice A cs.length cc)) (hr : Kd.C k31 w A cs.length cs) (hbc : bc ≠ bm) (hA : 0 < cs.length → ∀ ad, A = some ad → ad.block ≠ bm) : Sees cs w (fun k => k = bm) 25 #[.pointer (some ⟨bc, 0, none⟩), .pointer (some ⟨bm, 0, none⟩)] (fun i W T => T = (fun k => k = bm) ∧ Blk W bm 3 #[.int .i64 (depthTo cs i)]) := by
  refine ⟨fun i W W' T S hi hc hS => ⟨hi.1, blk_kept hi.2 hc.2 (fun hs => (hS bm hs).1 (by rw [hi.1]))⟩, fun i W T Ao c ps ats hi hI hc _ _ hats hlen h8 _ => ?_⟩
  obtain ⟨rfl, hb⟩ := hI
  have hrW : Kd.C k31 W A cs.length cs := Kd.C_foot_neS (fun h => h) hr (fun ad e hn => hA hn ad e) W hc.2
  refine (shape_Depth_lit1_25.calls W bc bm i ps.length c cc A Ao cs (depthTo cs i) (cellS h0 hc.2 hbc) hrW hb hi (by omega)).mono ?_
  rintro e W' ⟨rfl, hb', hc'⟩
  have ho : openAt cs i = ps.length := by
    unfold openAt
    cases hs : scanTo cs i with
    | none => rw [hs] at hats; cases hats
    | some s =>
      rw [hs] at hats
      have : s.2.map Fr.a = ats := Option.some.inj hats
      rw [← hlen, ← this]
      simp
  refine ⟨rfl, hc', fun k => k = bm, ⟨rfl, ?_⟩, fun k hk => ⟨.inl hk, hk ▸ hb'.lt⟩⟩
  show Blk W' bm 3 #[.int .i64 (deeper (depthTo cs i) (openAt cs i) (opAt cs i))]
  rw [ho, opAt_lt hi]
  exact hb'
set_option maxRecDepth 100000 in
set_option maxHeartbeats 4000000 in
theorem shape_Depth.calls (A0 : Option Addr) (c0 : Nat) (l0 : List (S31)) (r1 : Int) (r2 : Int) (w : World) (hr0 : Kd.C k31 w A0 l0.length l0) (hc0 : l0.length ≤ c0) (h : shape_Depth.f l0 = some (r1, r2)) :
    Calls Try.prog 16 #[.slice A0 l0.length c0] w fun e w' => e = .returned (.tuple #[.int .i64 r1, .int .i64 r2]) ∧ Below w.heap.size w w' := by
  unfold shape_Depth.f at h
  split at h
  · rename_i hl
    have hB1 : Below w.heap.size w ((w.alloc (.cells #[.slice A0 l0.length c0] 22)).alloc (.cells #[.int .i64 0] 3)) := ((Below.refl _ w).alloc (Nat.le_refl _) _).alloc (by rw [World.size_alloc]; omega) _
    have b0 := (Blk.new w 22 #[.slice A0 l0.length c0]).alloc (.cells #[.int .i64 0] 3)
    have b1 := Blk.new (w.alloc (.cells #[.slice A0 l0.length c0] 22)) 3 #[.int .i64 0]
    rw [World.size_alloc] at b1
    have hrC := Kd.C_below hr0 hB1
    have hA1 : 0 < l0.length → ∀ ad, A0 = some ad → ad.block ≠ w.heap.size + 1 := fun hn ad e => by
      subst e
      have := Kd.C_lt hr0 hn (by decide)
      omega
    have HS := Aside0.mk (shape_scan.calls _ A0 c0 25 l0 (fun k => k = w.heap.size + 1) #[.pointer (some ⟨w.heap.size, 0, none⟩), .pointer (some ⟨w.heap.size + 1, 0, none⟩)] (fun i W T => T = (fun k => k = w.heap.size + 1) ∧ Blk W (w.heap.size + 1) 3 #[.int .i64 (depthTo l0 i)]) hrC (fun k hk => by rw [World.size_alloc, World.size_alloc]; omega) hA1 ⟨rfl, b1⟩ (sees_depth l0 _ w.heap.size (w.heap.size + 1) c0 A0 (b0.cell 0) hrC (by omega) hA1) cf_depth hl)
    have q0 : ((w.alloc (.cells #[.slice A0 l0.length c0] 22)).alloc (.cells #[.int .i64 0] 3)).cell? ⟨w.heap.size, 0, none⟩ = some (.slice A0 l0.length c0) := b0.cell 0
    have HB1 := Aside0.mk hB1
    have HBE := Aside0.mk (fun (w' : World) (hc : Chg ((w.alloc (.cells #[.slice A0 l0.length c0] 22)).alloc (.cells #[.int .i64 0] 3)) w' (fun k => k = w.heap.size + 1)) => hB1.trans (hc.below (B := w.heap.size) (by rw [World.size_alloc, World.size_alloc]; omega) (fun k hk => by omega)))
    clear hr0 hl hB1 b0 b1 hrC hA1
    cases hs : scanAll l0 with
    | none =>
      rw [hs] at h
      obtain ⟨rfl, rfl⟩ := Prod.mk.inj (Option.some.inj h)
      have HX := Aside0.mk hs
      clear h hs
      go_enter Try.func16, Try.ntmps16
      go_wp2_with (go_at_call 21; (with_reducible refine HS.out.mono ?_); rintro e w' ⟨hc, hm⟩; rw [HX.out] at hm; obtain rfl := hm; have HC := Aside0.mk hc; clear hc)
      go_ret2
      exact ⟨rfl, HBE.out w' HC.out⟩
    | some m =>
      rw [hs] at h
      obtain ⟨rfl, rfl⟩ := Prod.mk.inj (Option.some.inj h)
      have HX := Aside0.mk hs
      clear h hs
      go_enter Try.func16, Try.ntmps16
      go_wp2_with (go_at_call 21; (with_reducible refine HS.out.mono ?_); rintro e w' ⟨hc, hm⟩; rw [HX.out] at hm; obtain ⟨v, T, rfl, hR, ⟨_, hb⟩, _⟩ := hm; have hq : w'.cell? ⟨w.heap.size + 1, 0, none⟩ = some (.int .i64 (depthTo l0 l0.length)) := hb.cell 0; have HC := Aside0.mk hc; clear hc hR hb)
      go_ret2
      exact ⟨rfl, HBE.out w' HC.out⟩
  · cases h


end Go.Proofs.Ytbdmbkmokhaflaa.Q
end

section
-- written by hprint.py (a program of these sessions) out of the translation; Lean checks it
namespace Go.Proofs.Ytbdmbkmokhaflaa.Q
open Go.RowKit Go.Proofs.YtbdmbkmokhaflaaW.Hb Go.Proofs.YtbdmbkmokhaflaaW.PrintWords Go.Proofs.YtbdmbkmokhaflaaW.PrintLast Go.Proofs.YtbdmbkmokhaflaaW.PrintMore
attribute [local go_sem] max2_int min2_int max_two min_two max_three min_three max_four min_four   -- for this text's walks alone
set_option linter.unusedVariables false
set_option linter.unusedSimpArgs false

/-! ### shape_Around_lit1_26: function 26, by hand -/
/-- A store and what it leaves. -/
theorem own_setCell {w : World} {g : Nat} {t : TypeId} {v v' : Value} {base e : Nat} {ok : Nat → Prop} {xs : List Int} (hb : Blk w g t #[v]) (hr : (Kd.int .i64).R e w base ok v' xs) (hg : ¬ ok g) : Blk (w.setCell ⟨g, 0, none⟩ v') g t #[v'] ∧ (Kd.int .i64).R e (w.setCell ⟨g, 0, none⟩ v') base ok v' xs :=
  ⟨by simpa using hb.set_ 0 v', Kd.R_far hr (p := ⟨g, 0, none⟩) (fun k hk he => hg (by have he : k = g := he; rw [← he]; exact hk)) _⟩
set_option maxRecDepth 100000 in
set_option maxHeartbeats 2000000 in
theorem shape_Around_lit1_26.calls (w : World) (i at_ : Int) (Ao : Option Addr) (co : Nat) (ps : List Nat) (ats : List Int) (bat bout base : Nat) (vo : Value) (out : List Int) (ok : Nat → Prop) (hat : w.cell? ⟨bat, 0, none⟩ = some (.int .i64 at_)) (hbat : ¬ ok bat ∧ bat ≠ bout) (hps : kP.C w Ao ps.length ps) (hpo : ∀ ad, Ao = some ad → ¬ ok ad.block ∧ ad.block ≠ bout) (hlen : ats.length = ps.length) (hcl : ∀ j (hj : j < ps.length) (hj2 : j < ats.length), w.cell? ⟨ps[j], 0, none⟩ = some (.int .i64 ats[j]) ∧ ¬ ok ps[j] ∧ ps[j] ≠ bout) (hb : Blk w bout 24 #[vo]) (hr : (Kd.int .i64).R 3 w base ok vo out) (hg : ¬ ok bout) (hbase : base ≤ w.heap.size) (hl : out.length + ps.length ≤ 1048576) :
    Calls Try.prog 26 #[.int .i64 i, .slice Ao ps.length co, .pointer (some ⟨bat, 0, none⟩), .pointer (some ⟨bout, 0, none⟩)] w fun e w' => e = .returned (.tuple #[]) ∧ ∃ v', Blk w' bout 24 #[v'] ∧ (Kd.int .i64).R 3 w' base (fun k => ok k ∨ w.heap.size ≤ k) v' (if i = at_ then out ++ ats else out) ∧ Chg w w' (fun k => k = bout ∨ ok k) := by
  have HAT := Aside0.mk hat
  have HPS := Aside0.mk hps
  have HPO := Aside0.mk hpo
  have HCL := Aside0.mk hcl
  have HB := Aside0.mk hb
  have HR := Aside0.mk (Kd.R_mono (ok' := fun k => ok k ∨ w.heap.size ≤ k) hr (fun k hk => .inl hk))
  have HRO := Aside0.mk hr
  have HG := Aside0.mk hg
  have HBAT := Aside0.mk hbat
  have hgl := hb.lt
  have hm : ps.length ≤ 9223372036854775807 := hps.2.1
  clear hat hps hpo hcl hb hr hg hbat
  by_cases hi : i = at_
  rotate_left
  · have HE := Aside0.mk (show (if i = at_ then out ++ ats else out) = out from if_neg hi)
    have hd : (i == at_) = false := by simp [hi]
    rw [HE.out]
    clear hi HE
    go_enter Try.func26, Try.ntmps26
    go_wp2
    go_loopw [10] (fun k wr => ∃ j : Nat, j ≤ ps.length ∧ k = .int .i64 j ∧ wr = w) (fun k _ => ps.length - (intOf k).toNat)
    case atStart => exact ⟨0, Nat.zero_le _, rfl, rfl⟩
    case round =>
      obtain ⟨j, hj, rfl, rfl⟩ := hrel
      by_cases hlt : j < ps.length
      · obtain ⟨ad, e, hcell⟩ := at_P HPS.out j hlt
        cases e
        have hcell2 : wr.cell? (ad.add j) = some (.pointer (some ⟨ps[j], 0, none⟩)) := hcell
        have hat := HAT.out
        have q1 : (j : Int) < (ps.length : Int) := by omega
        clear hcell
        go_wp2
        go_roundw
        case rel => exact ⟨j + 1, by omega, by go_num, by first | rfl | trivial⟩
        case measure => simp [intOf]; omega
      · have q1 : ¬ (j : Int) < (ps.length : Int) := by omega
        go_wp2
        refine bodyPost_end (results_none rfl _ _ _) rfl ?_
        exact ⟨rfl, vo, HB.out, HR.out, Chg.refl _ _⟩
  · have HE := Aside0.mk (show (if i = at_ then out ++ ats else out) = out ++ ats from if_pos hi)
    have hd : (i == at_) = true := by simp [hi]
    rw [HE.out]
    clear HE
    go_enter Try.func26, Try.ntmps26
    go_wp2
    go_loopw [10] (fun k wr => ∃ (j : Nat) (v : Value), j ≤ ps.length ∧ k = .int .i64 j ∧ Aside0 (Blk wr bout 24 #[v]) ∧ Aside0 ((Kd.int .i64).R 3 wr base (fun k => ok k ∨ w.heap.size ≤ k) v (out ++ ats.take j)) ∧ Aside0 (Chg w wr (fun k => k = bout ∨ ok k))) (fun k _ => ps.length - (intOf k).toNat)
    case atStart => exact ⟨0, vo, Nat.zero_le _, rfl, HB, ⟨by simpa using HR.out⟩, ⟨Chg.refl _ _⟩⟩
    case round =>
      clear HB HR
      obtain ⟨j, v, hj, rfl, HB, HR, HK⟩ := hrel
      by_cases hlt : j < ps.length
      · obtain ⟨ad, e, hcell⟩ := at_P HPS.out j hlt
        cases e
        obtain ⟨hat2, hnp, hpb⟩ := HCL.out j hlt (by omega)
        have hpo := HPO.out ad rfl
        have hrd : wr.cell? (ad.add j) = some (.pointer (some ⟨ps[j], 0, none⟩)) := cellS hcell HK.out.2 (by
          rw [add_block]
          intro h
          rcases h with h | h
          · exact hpo.2 h
          · exact hpo.1 h)
        have hata : wr.cell? ⟨bat, 0, none⟩ = some (.int .i64 at_) := cellS HAT.out HK.out.2 (fun h => by
          rcases h with h | h
          · exact HBAT.out.2 h
          · exact HBAT.out.1 h)
        have hpc : wr.cell? ⟨ps[j], 0, none⟩ = some (.int .i64 ats[j]) := cellS hat2 HK.out.2 (fun h => by
          rcases h with h | h
          · exact hpb h
          · exact hnp h)
        have HT := Aside0.mk (show out ++ ats.take (j + 1) = (out ++ ats.take j) ++ [ats[j]] by rw [List.take_succ_eq_append_getElem (by omega), List.append_assoc])
        have HLN := Aside0.mk (show ((out ++ ats.take j).length + ([ats[j]] : List Int).length) * 8 ≤ 140737488355328 by rw [List.length_append, List.length_take, List.length_singleton]; omega)
        obtain ⟨p, hp⟩ : ∃ p, ps[j] = p := ⟨_, rfl⟩
        obtain ⟨a, ha⟩ : ∃ a, ats[j] = a := ⟨_, rfl⟩
        rw [ha] at HT HLN hpc
        rw [hp] at hrd hpc
        obtain ⟨L, hL⟩ : ∃ L, out ++ ats.take j = L := ⟨_, rfl⟩
        rw [hL] at HR HT HLN
        obtain ⟨q, hq⟩ : ∃ q, L ++ [a] = q := ⟨_, rfl⟩
        rw [hq] at HT
        have HQ := Aside0.mk hq
        obtain ⟨Av, cv, rfl, hcv, _⟩ := Kd.R_reads HR.out
        have q1 : (j : Int) < (ps.length : Int) := by omega
        have k0 : wr.drew.cell? ⟨bout, 0, none⟩ = some (.slice Av L.length cv) := HB.out.cell 0
        have k1 : wr.drew.cell? ⟨p, 0, none⟩ = some (.int .i64 a) := hpc
        have HBd := Aside0.mk HB.out.drew
        have HRd := Aside0.mk (Kd.R_drew HR.out)
        have HKd := Aside0.mk (show Chg w wr.drew (fun k => k = bout ∨ ok k) from ⟨HK.out.1.drew, HK.out.2.drew⟩)
        clear hcell hp ha hL hq hat2 hnp hpb hpo
        go_wp2
        refine start_ (n := 8) (S := fun w' => w'.cell? ⟨bout, 0, none⟩ = some (.slice Av L.length cv) ∧ w'.cell? ⟨p, 0, none⟩ = some (.int .i64 a)) (ds := [6, 7]) #[false, false, false, false, false, false, false, false] (by kernel_rfl) rfl rfl ⟨k0, k1⟩ (fun hHeld => ?_)
        generalize wr.drew = wd at k0 k1 HBd HRd HKd hHeld ⊢
        refine pure_ (i := 1) (N := some 18) (v := ?_) (a' := ?_) #[false, true, false, false, false, false, false, false] rfl rfl (by kernel_rfl) (fun _ _ _ h => h) (Or.inl ⟨by rfl, ?_⟩) ?_ ?_
        rotate_left
        · intro w'
          go_simp
          with_reducible rfl
        rotate_left
        · simp only [Act.put, List.setIfInBounds_toArray, List.set_cons_zero, List.set_cons_succ, i64_w, i32_w]
          rfl
        refine pure_ (i := 2) (N := some 19) (v := ?_) (a' := ?_) #[false, true, true, false, false, false, false, false] rfl rfl (by kernel_rfl) (fun _ _ _ h => h) (Or.inl ⟨by rfl, ?_⟩) ?_ ?_
        rotate_left
        · intro w'
          go_simp
          with_reducible rfl
        rotate_left
        · simp only [Act.put, List.setIfInBounds_toArray, List.set_cons_zero, List.set_cons_succ, i64_w, i32_w]
          rfl
        refine pure_ (i := 3) (N := some 20) (v := ?_) (a' := ?_) #[false, true, true, true, false, false, false, false] rfl rfl (by kernel_rfl) (fun _ _ _ h => h) (Or.inl ⟨by rfl, ?_⟩) ?_ ?_
        rotate_left
        · intro w'
          go_simp
          with_reducible rfl
        rotate_left
        · simp only [Act.put, List.setIfInBounds_toArray, List.set_cons_zero, List.set_cons_succ, i64_w, i32_w]
          rfl
        refine take_ (i := 0) (N := some 17) (v := ?_) (a' := ?_) #[true, true, true, true, false, false, false, false] rfl rfl (by kernel_rfl) (fun _ _ _ h => h) (Or.inl ⟨by rfl, ?_⟩) hHeld ?_ ?_
        rotate_left
        · rintro w' ⟨s0, s1⟩
          go_simp
          with_reducible rfl
        rotate_left
        · simp only [Act.put, List.setIfInBounds_toArray, List.set_cons_zero, List.set_cons_succ, i64_w, i32_w]
          rfl
        refine take_ (i := 4) (N := some 21) (v := ?_) (a' := ?_) #[true, true, true, true, true, false, false, false] rfl rfl (by kernel_rfl) (fun _ _ _ h => h) (Or.inl ⟨by rfl, ?_⟩) hHeld ?_ ?_
        rotate_left
        · rintro w' ⟨s0, s1⟩
          go_simp
          with_reducible rfl
        rotate_left
        · simp only [Act.put, List.setIfInBounds_toArray, List.set_cons_zero, List.set_cons_succ, i64_w, i32_w]
          rfl
        refine one_ (i := 5) (N := some 22) #[true, true, true, true, true, true, false, false] rfl rfl (by kernel_rfl) (by decide) (fun K hK => ?_)
        refine value_ (w1 := ?_) (v := ?_) (by rfl) rfl ?_ ?_
        rotate_left 2
        · go_simp
          constructor
          · rfl
          · rfl
        have HC2 := Aside0.mk (C_lit_int wd wd.heap.size rfl .i64 [a] #[.int .i64 a] rfl 3 (by simp))
        have HR2 := Aside0.mk (Kd.R_alloc HRd.out (.cells #[.int .i64 a] 3))
        have HB2 := Aside0.mk (HBd.out.alloc (.cells #[.int .i64 a] 3))
        have HK2 := Aside0.mk (show Chg w (wd.alloc (.cells #[.int .i64 a] 3)) (fun k => k = bout ∨ ok k) from HKd.out.then_ (Chg.of_below ((Below.refl _ _).alloc (Nat.le_refl _) _) (fun _ => False)) (fun _ h => h.elim))
        refine hK.out _ _ ⟨(cell_allocd k0 (.cells #[.int .i64 a] 3)), (cell_allocd k1 (.cells #[.int .i64 a] 3))⟩ (fun hHeld => ?_)
        clear hK K
        refine norm_ (a' := ?_) ?_ ?_
        rotate_left
        · show Act.put _ (some 22) _ = _
          simp only [Act.put, List.setIfInBounds_toArray, List.set_cons_zero, List.set_cons_succ, i64_w, i32_w]
          rfl
        refine last_ (i := 6) (N := some 23) #[true, true, true, true, true, true, true, false] rfl rfl (by kernel_rfl) (by decide) (fun K hK => ?_)
        refine Kd.R_append_rows_step (Kd.int .i64) (w0 := wd.alloc (.cells #[.int .i64 a] 3)) (Rr := (Kd.int .i64).K (wd.alloc (.cells #[.int .i64 a] 3))) base (by rfl) (.tmp 17) (.tmp 22) 24 3 (.int .i64 0) 8 rfl Try.underlying24 info3 rfl (by decide) (by omega) (.slice Av L.length cv) L [a] (some ⟨wd.heap.size, 0, none⟩) 1 1 (fun k => ok k ∨ w.heap.size ≤ k) (fun _ => False) rfl rfl HR2.out HC2.out (fun x cs hK => hK) (fun _ hk => hk.elim) (fun k hk => .inr (Nat.le_trans HK2.out.size hk)) (Below.refl _ _) (Nat.le_trans hbase HK2.out.size) HLN.out ?_
        intro v3 w3 hR3 hB3 hG3 _
        rw [HQ.out] at hR3
        obtain ⟨A3, c3, rfl⟩ := Kd.R_slice hR3
        have HR3 := Aside0.mk hR3
        have HN := Aside0.mk (show ∀ k, (Value.slice Av L.length cv).ownBlock = some k → ok k ∨ w.heap.size ≤ k from fun k hk => HR2.out.1 k hk)
        have hb3 : Blk w3 bout 24 #[.slice Av L.length cv] := HB2.out.grown hG3 (fun he => by
          rcases HN.out bout he.symm with h | h
          · exact HG.out h
          · omega)
        have HB3 := Aside0.mk hb3
        have q3 : w3.cell? ⟨bout, 0, none⟩ = some (.slice Av L.length cv) := hb3.cell 0
        have f3 : w3.frozen? ⟨bout, 0, none⟩ = false := hb3.frozen 0
        have HK3 := Aside0.mk (show Chg w w3 (fun k => k = bout ∨ ok k) from ⟨⟨hG3.os.trans HK2.out.1.os, hG3.tape.trans HK2.out.1.tape, hG3.output.trans HK2.out.1.output, Nat.le_trans HK2.out.1.size hG3.size, fun k hk => absurd hk (Nat.not_lt_zero k)⟩, Kept.of_grown hG3 HK2.out.2 (fun k hk => by
          rcases HN.out k hk with h | h
          · exact .inl (.inr h)
          · exact .inr h)⟩)
        clear hR3 hB3 hG3 hb3
        refine hK.out _ _ ?_
        clear hK K
        refine norm_ (a' := ?_) ?_ ?_
        rotate_left
        · show Act.put _ (some 23) _ = _
          simp only [Act.put, List.setIfInBounds_toArray, List.set_cons_zero, List.set_cons_succ, i64_w, i32_w]
          rfl
        refine last_ (i := 7) (N := none) #[true, true, true, true, true, true, true, true] rfl rfl (by kernel_rfl) (by decide) (fun K hK => ?_)
        refine skip_ (w1 := ?_) (by rfl) rfl ?_ ?_
        rotate_left
        · go_simp
          rfl
        refine hK.out _ _ ?_
        clear hK K
        refine done_ (by kernel_rfl) ?_
        clear hHeld
        go_wp2
        have hgn : ¬ (ok bout ∨ w.heap.size ≤ bout) := fun h => by
          rcases h with h | h
          · exact HG.out h
          · omega
        have HF := Aside0.mk (own_setCell HB3.out HR3.out hgn)
        have HKF := Aside0.mk (HK3.out.then_ (Chg.set_ w3 ⟨bout, 0, none⟩ (.slice A3 q.length c3)) (fun k hk => .inl (.inl hk)))
        go_roundw
        case rel => exact ⟨j + 1, _, by omega, by go_num, ⟨HF.out.1⟩, ⟨by rw [HT.out]; exact HF.out.2⟩, HKF⟩
        case measure => simp [intOf]; omega
      · have q1 : ¬ (j : Int) < (ps.length : Int) := by omega
        have HT := Aside0.mk (show ats.take j = ats from List.take_of_length_le (by omega))
        go_wp2
        refine bodyPost_end (results_none rfl _ _ _) rfl ?_
        exact ⟨rfl, v, HB.out, by rw [← HT.out]; exact HR.out, HK.out⟩


end Go.Proofs.Ytbdmbkmokhaflaa.Q
end

section
-- written by hprint.py (a program of these sessions) out of the translation; Lean checks it
namespace Go.Proofs.Ytbdmbkmokhaflaa.Q
open Go.RowKit Go.Proofs.YtbdmbkmokhaflaaW.Hb Go.Proofs.YtbdmbkmokhaflaaW.PrintWords Go.Proofs.YtbdmbkmokhaflaaW.PrintLast Go.Proofs.YtbdmbkmokhaflaaW.PrintMore
attribute [local go_sem] max2_int min2_int max_two min_two max_three min_three max_four min_four   -- for this text's walks alone
set_option linter.unusedVariables false
set_option linter.unusedSimpArgs false

/-! ### shape_Around: function 19, by hand -/
def openOf (cs : List Ins) (i : Nat) : List Int := ((scanTo cs i).map (fun s => s.2.map (fun b => (b.a : Int)))).getD []
def aroundTo (cs : List Ins) (at_ : Int) (i : Nat) : List Int := if 0 ≤ at_ ∧ at_ < i then openOf cs at_.toNat else []
theorem aroundTo_succ (cs : List Ins) (at_ : Int) (i : Nat) : aroundTo cs at_ (i + 1) = if (i : Int) = at_ then aroundTo cs at_ i ++ openOf cs i else aroundTo cs at_ i := by
  unfold aroundTo
  by_cases h : (i : Int) = at_
  · subst h
    rw [if_pos rfl, if_pos (by omega), if_neg (by omega)]
    simp
  · rw [if_neg h]
    by_cases h2 : 0 ≤ at_ ∧ at_ < i
    · rw [if_pos (by omega), if_pos h2]
    · rw [if_neg (by omega), if_neg h2]
def shape_Around.f (l0 : List Ins) (a1 : Int) : Option (List Int) := if l0.length ≤ 1048576 then some (match scanAll l0 with | none => [] | some _ => aroundTo l0 a1 l0.length) else none
theorem cf_around (args : Array Value) (W : World) : (callFunc 26 args).run Try.prog W = .ok (.enter 26 args) W := by go_simp
def ArInv (cs : List Ins) (w : World) (at_ : Int) (bout i : Nat) (W : World) (T : Nat → Prop) : Prop :=
  (∀ k, T k → k = bout ∨ w.heap.size ≤ k) ∧ T bout ∧ ∃ v, Blk W bout 24 #[v] ∧ RI W w.heap.size (fun k => T k ∧ k ≠ bout) v (aroundTo cs at_ i)
theorem openOf_len (cs : List Ins) (i : Nat) : (openOf cs i).length ≤ 8 := by
  unfold openOf
  cases h : scanTo cs i with
  | none => simp
  | some s =>
    have := (scanTo_ok (m := s.1) (fs := s.2) h).2.1
    simpa using this
theorem sees_around (cs : List Ins) (w : World) (bat bout : Nat) (at_ : Int) (h0 : w.cell? ⟨bat, 0, none⟩ = some (.int .i64 at_)) (hbl : bat < w.heap.size) (hne : bat ≠ bout) (hbo : bout < w.heap.size) : Sees cs w (fun k => k = bout) 26 #[.pointer (some ⟨bat, 0, none⟩), .pointer (some ⟨bout, 0, none⟩)] (ArInv cs w at_ bout) := by
  refine ⟨fun i W W' T S hi hc hS => ?_, fun i W T Ao c ps ats hi hI hc hC hAo hats hlen h8 hcl => ?_⟩
  · obtain ⟨h1, h2, v, h3, h4⟩ := hi
    exact ⟨h1, h2, v, blk_kept h3 hc.2 (fun hs => (hS bout hs).1 h2), Kd.R_kept h4 hc.2 (fun k hk hs => (hS k hs).1 hk.1)⟩
  · obtain ⟨h1, h2, v, h3, h4⟩ := hI
    have hsz : w.heap.size ≤ W.heap.size := hc.size
    have hop : openOf cs i = ats.map (fun (n : Nat) => (n : Int)) := by
      unfold openOf
      cases hs : scanTo cs i with
      | none => rw [hs] at hats; cases hats
      | some s =>
        rw [hs] at hats
        have : s.2.map Fr.a = ats := Option.some.inj hats
        rw [← this]
        simp
    have hTb : ∀ k, T k ∧ k ≠ bout → w.heap.size ≤ k := fun k hk => (h1 k hk.1).elim (fun e => absurd e hk.2) id
    have hol : (aroundTo cs at_ i).length ≤ 8 := by
      unfold aroundTo
      split
      · exact openOf_len _ _
      · simp
    refine (shape_Around_lit1_26.calls W i at_ Ao c ps (ats.map (fun (n : Nat) => (n : Int))) bat bout w.heap.size v (aroundTo cs at_ i) (fun k => T k ∧ k ≠ bout) (cellS h0 hc.2 hne) ⟨fun h => by have := hTb _ h; omega, hne⟩ hC (fun ad e => ⟨fun h => hAo ad e h.1, fun h => hAo ad e (by rw [h]; exact h2)⟩) (by rw [List.length_map]; exact hlen) (fun j hj hj' => ?_) h3 h4 (fun h => h.2 rfl) hsz (by omega)).mono ?_
    · have hj2 : j < ats.length := by rw [List.length_map] at hj'; exact hj'
      obtain ⟨c1, c2⟩ := hcl j hj hj2
      exact ⟨by rw [List.getElem_map]; exact c1, fun h => c2 h.1, fun h => c2 (by rw [h]; exact h2)⟩
    · rintro e W' ⟨rfl, v', hb', hr', hc'⟩
      have hTS : ∀ k, (k = bout ∨ T k ∧ k ≠ bout) → T k := fun k hk => hk.elim (fun e => e ▸ h2) (fun h => h.1)
      refine ⟨rfl, hc'.mono hTS, fun k => (T k ∨ W.heap.size ≤ k) ∧ k < W'.heap.size, ⟨fun k hk => ?_, ⟨.inl h2, hb'.lt⟩, v', hb', ?_⟩, fun k hk => hk⟩
      · rcases hk.1 with h | h
        · exact h1 k h
        · exact .inr (by omega)
      · rw [aroundTo_succ, hop]
        refine R_rel hr' (fun k hk h => ?_)
        rcases h with h | h
        · exact ⟨⟨.inl h.1, hk⟩, h.2⟩
        · exact ⟨⟨.inr h, hk⟩, by omega⟩
set_option maxRecDepth 100000 in
set_option maxHeartbeats 4000000 in
theorem shape_Around.calls (A0 : Option Addr) (c0 : Nat) (l0 : List (S31)) (a1 : Int) (r : List Int) (w : World) (hr0 : Kd.C k31 w A0 l0.length l0) (hc0 : l0.length ≤ c0) (h : shape_Around.f l0 a1 = some r) :
    Calls Try.prog 19 #[.slice A0 l0.length c0, .int .i64 a1] w fun e w' => ∃ v0_ : Value, e = .returned (v0_) ∧ Kd.R (Kd.int .i64) 3 w' w.heap.size (fun _ => True) v0_ r ∧ Below w.heap.size w w' := by
  unfold shape_Around.f at h
  split at h
  · rename_i hl
    have hB1 : Below w.heap.size w ((w.alloc (.cells #[.int .i64 a1] 3)).alloc (.cells #[.slice none 0 0] 24)) := ((Below.refl _ w).alloc (Nat.le_refl _) _).alloc (by rw [World.size_alloc]; omega) _
    have b0 := (Blk.new w 3 #[.int .i64 a1]).alloc (.cells #[.slice none 0 0] 24)
    have b1 := Blk.new (w.alloc (.cells #[.int .i64 a1] 3)) 24 #[.slice none 0 0]
    rw [World.size_alloc] at b1
    have hrC := Kd.C_below hr0 hB1
    have hA1 : 0 < l0.length → ∀ ad, A0 = some ad → ad.block ≠ w.heap.size + 1 := fun hn ad e => by
      subst e
      have := Kd.C_lt hr0 hn (by decide)
      omega
    have HS := Aside0.mk (shape_scan.calls _ A0 c0 26 l0 (fun k => k = w.heap.size + 1) #[.pointer (some ⟨w.heap.size, 0, none⟩), .pointer (some ⟨w.heap.size + 1, 0, none⟩)] (ArInv l0 ((w.alloc (.cells #[.int .i64 a1] 3)).alloc (.cells #[.slice none 0 0] 24)) a1 (w.heap.size + 1)) hrC (fun k hk => by rw [World.size_alloc, World.size_alloc]; omega) hA1 ⟨fun k hk => .inl hk, rfl, _, b1, by
      have e0 : aroundTo l0 a1 0 = [] := if_neg (by omega)
      rw [e0]
      exact Kd.R_nil _ _ _ _ _⟩ (sees_around l0 _ w.heap.size (w.heap.size + 1) a1 (b0.cell 0) (by rw [World.size_alloc, World.size_alloc]; omega) (by omega) (by rw [World.size_alloc, World.size_alloc]; omega)) cf_around hl)
    have HBE := Aside0.mk (fun (w' : World) (hc : Chg ((w.alloc (.cells #[.int .i64 a1] 3)).alloc (.cells #[.slice none 0 0] 24)) w' (fun k => k = w.heap.size + 1)) => hB1.trans (hc.below (B := w.heap.size) (by rw [World.size_alloc, World.size_alloc]; omega) (fun k hk => by omega)))
    clear hr0 hl hB1 b0 b1 hrC hA1
    cases hs : scanAll l0 with
    | none =>
      rw [hs] at h
      obtain rfl := Option.some.inj h
      have HX := Aside0.mk hs
      clear h hs
      go_enter Try.func19, Try.ntmps19
      go_wp2_with (go_at_call 21; (with_reducible refine HS.out.mono ?_); rintro e w' ⟨hc, hm⟩; rw [HX.out] at hm; obtain rfl := hm; have HC := Aside0.mk hc; clear hc)
      go_ret
      exact ⟨_, rfl, Kd.R_nil _ _ _ _ _, HBE.out w' HC.out⟩
    | some m =>
      rw [hs] at h
      obtain rfl := Option.some.inj h
      have HX := Aside0.mk hs
      clear h hs
      go_enter Try.func19, Try.ntmps19
      go_wp2_with (go_at_call 21; (with_reducible refine HS.out.mono ?_); rintro e w' ⟨hc, hm⟩; rw [HX.out] at hm; obtain ⟨v, T, rfl, _, ⟨_, _, u, hb, hR⟩, _⟩ := hm; have hq : w'.cell? ⟨w.heap.size + 1, 0, none⟩ = some u := hb.cell 0; have HC := Aside0.mk hc; have HR := Aside0.mk hR; clear hc hR hb)
      go_ret
      exact ⟨_, rfl, Kd.R_lower (Kd.R_mono HR.out (fun _ _ => trivial)) (by rw [World.size_alloc, World.size_alloc]; omega), HBE.out w' HC.out⟩
  · cases h


end Go.Proofs.Ytbdmbkmokhaflaa.Q
end

section
/- layer 6: the scan, read, without the document's functions -/
set_option linter.unusedVariables false
set_option linter.unusedSimpArgs false
namespace Go.Proofs.Ytbdmbkmokhaflaa.Th
open Go.RowKit Go.Proofs.YtbdmbkmokhaflaaW.PrintWords Go.Proofs.YtbdmbkmokhaflaaW.Hb
open Go.Shape6 Go.Proofs.Ytbdmbkmokhaflaa.Q

def ends (c : CS) : Int × Int := match c with | .run _ x => (x, -1) | .fin x e => (x, e)
def xe (cs : List Ins) (a : Nat) : Int × Int := ends (cl (opc cs) a cs.length)
theorem rdI (l : List Ins) (n : Nat) (hn : n < l.length) : (rd_T31 l (n : Int)).f0 = opc l n := by
  show _ = Q.opAt l n
  rw [opAt_lt hn]
  simp [rd_T31, List.getD_eq_getElem?_getD, hn]
/-- What ends mean. -/
theorem xe_ok {cs : List Ins} {a : Nat} (ha : a < cs.length) (h : 0 ≤ (xe cs a).2) : ∃ (x : Int) (e : Nat), cl (opc cs) a cs.length = .fin x e ∧ xe cs a = (x, (e : Int)) := by
  unfold xe at h ⊢
  cases hc : cl (opc cs) a cs.length with
  | run d x => rw [hc] at h; exact absurd h (by show ¬ (0 : Int) ≤ -1; decide)
  | fin x e =>
    rw [hc] at h
    have h : 0 ≤ e := h
    exact ⟨x, e.toNat, by rw [Int.toNat_of_nonneg h], by rw [Int.toNat_of_nonneg h]; rfl⟩
theorem xe_of {cs : List Ins} {a : Nat} {x e : Int} (h : cl (opc cs) a cs.length = .fin x e) : xe cs a = (x, e) := by unfold xe; rw [h]; rfl
/-- All blocks close. -/
def H1 (cs : List Ins) : Prop := ∀ a, a < cs.length → isOp (opc cs a) = true → 0 ≤ (xe cs a).2
theorem H1.fin {cs : List Ins} (h : H1 cs) {a : Nat} (ha : a < cs.length) (ho : isOp (opc cs a) = true) : ∃ (x : Int) (e : Nat), cl (opc cs) a cs.length = .fin x e ∧ xe cs a = (x, (e : Int)) := xe_ok ha (h a ha ho)
theorem rd_get {l : List Int} {k : Nat} {v : Int} (h : l[k]? = some v) : rd l (k : Int) = v := by
  have hk := lt_of_get h
  rw [rdN l k hk]
  rw [List.getElem?_eq_getElem hk] at h
  exact Option.some.inj h
def isOpen (cs : List Ins) (i a : Nat) : Bool := isOp (opc cs a) && decide ((i : Int) ≤ (xe cs a).2)
def openL (cs : List Ins) (i : Nat) : List Nat := (List.range i).filter (isOpen cs i)
def toI (l : List Nat) : List Int := l.map (fun (n : Nat) => (n : Int))
theorem sorted_ext {l l' : List Nat} (h : l.Pairwise (· < ·)) (h' : l'.Pairwise (· < ·)) (he : ∀ x, x ∈ l ↔ x ∈ l') : l = l' := by
  induction l generalizing l' with
  | nil =>
    cases l' with
    | nil => rfl
    | cons y l' => exact absurd ((he y).2 (List.mem_cons_self ..)) (by simp)
  | cons x l ih =>
    cases l' with
    | nil => exact absurd ((he x).1 (List.mem_cons_self ..)) (by simp)
    | cons y l' =>
      obtain ⟨h1, h2⟩ := List.pairwise_cons.1 h
      obtain ⟨h3, h4⟩ := List.pairwise_cons.1 h'
      have exy : x = y := by
        rcases List.mem_cons.1 ((he x).1 (List.mem_cons_self ..)) with e | e
        · exact e
        · rcases List.mem_cons.1 ((he y).2 (List.mem_cons_self ..)) with e2 | e2
          · exact e2.symm
          · have := h3 x e
            have := h1 y e2
            omega
      subst exy
      congr 1
      refine ih h2 h4 (fun z => ⟨fun hz => ?_, fun hz => ?_⟩)
      · rcases List.mem_cons.1 ((he z).1 (List.mem_cons_of_mem _ hz)) with e | e
        · have := h1 z hz
          omega
        · exact e
      · rcases List.mem_cons.1 ((he z).2 (List.mem_cons_of_mem _ hz)) with e | e
        · have := h3 z hz
          omega
        · exact e
theorem openL_eq {cs : List Ins} (hH : H1 cs) {i : Nat} (hi : i ≤ cs.length) {m : List Int} {fs : List Fr} (h : scanTo cs i = some (m, fs)) : openL cs i = fs.map Fr.a := by
  have hL := scan_L1 h
  have hget : ∀ (j : Nat) (b : Fr), fs[j]? = some b → (fs.map pr)[j]? = some (b.a, b.o) := fun j b hb => by rw [List.getElem?_map, hb]; rfl
  refine sorted_ext ?_ ?_ (fun a => ?_)
  · exact List.Pairwise.filter _ List.pairwise_lt_range
  · rw [List.pairwise_iff_getElem]
    intro j j' hj hj' hjj
    rw [List.getElem_map, List.getElem_map]
    rw [List.length_map] at hj hj'
    exact hL.up j j' _ _ _ _ hjj (hget j _ (List.getElem?_eq_getElem hj)) (hget j' _ (List.getElem?_eq_getElem hj'))
  · unfold openL isOpen
    rw [List.mem_filter, List.mem_range, Bool.and_eq_true, decide_eq_true_iff, List.mem_map]
    constructor
    · rintro ⟨ha, hop, he⟩
      obtain ⟨x, e, hc, hxe⟩ := hH.fin (by omega) hop
      rw [hxe] at he
      have he : (i : Int) ≤ (e : Int) := he
      refine Classical.byContradiction fun hn => ?_
      obtain ⟨y, f, hf, hf0⟩ := hL.cl_ a ha hop (fun j x' hj => by
        rw [List.getElem?_map] at hj
        obtain ⟨b, hb, hbe⟩ := Option.map_eq_some_iff.1 hj
        exact hn ⟨b, List.mem_of_getElem? hb, congrArg Prod.fst hbe⟩)
      obtain ⟨f', rfl⟩ := Int.eq_ofNat_of_zero_le hf0
      have h2 := cl_fin_mono hf ha hi
      rw [hc] at h2
      injection h2 with h3 h4
      have := (cl_end ha y f' hf).2.1
      omega
    · rintro ⟨b, hb, hba⟩
      obtain ⟨j, hj, hje⟩ := List.getElem_of_mem hb
      obtain ⟨f1, f2, f3⟩ := hL.fr j b.a b.o (hget j b (by rw [List.getElem?_eq_getElem hj, hje]))
      rw [hba] at f1 f2 f3
      obtain ⟨x, e, hc, hxe⟩ := hH.fin (by omega) f2
      refine ⟨f1, f2, ?_⟩
      rw [hxe]
      show (i : Int) ≤ (e : Int)
      rcases Nat.lt_or_ge e i with hlt | hge
      · have p := cl_end (by omega) x e hc
        have h4 : cl (opc cs) a (e + 1) = .fin x e := by
          have q1 := cl_succ (opc cs) a e p.1
          rw [p.2.2] at q1
          obtain ⟨d1, d2, d3, d4⟩ := fin_facts (by omega : a < cs.length) hc
          unfold clS at q1
          dsimp only at q1
          rw [isOp_not (by omega), if_neg (by decide), if_neg (by omega), if_pos d3, if_pos rfl] at q1
          exact q1
        have h5 := cl_fin_mono h4 (by omega) (by omega : e + 1 ≤ i)
        rw [f3] at h5
        cases h5
      · omega
def matchRes (cs : List Ins) : List Int × Int := match scanAll cs with | none => ([], 31) | some m => (m, 0)
theorem scanAll_some {cs : List Ins} {m : List Int} {fs : List Fr} (h : scanTo cs cs.length = some (m, fs)) (hl : fs.length = 0) : scanAll cs = some m := by
  unfold scanAll
  rw [h]
  show (if fs.length = 0 then some m else none) = some m
  rw [if_pos hl]
theorem scanAll_inv {cs : List Ins} {m : List Int} (h : scanAll cs = some m) : scanTo cs cs.length = some (m, []) := by
  unfold scanAll at h
  cases hs : scanTo cs cs.length with
  | none => rw [hs] at h; cases h
  | some s =>
    rw [hs] at h
    have h : (if s.2.length = 0 then some s.1 else none) = some m := h
    by_cases hl : s.2.length = 0
    · rw [if_pos hl] at h
      have e1 : s.1 = m := Option.some.inj h
      have e2 : s.2 = [] := List.eq_nil_of_length_eq_zero hl
      rw [← e1, ← e2]
    · rw [if_neg hl] at h
      cases h
theorem good_H1 {cs : List Ins} {m : List Int} (h : scanAll cs = some m) : H1 cs := by
  have hL := scan_L1 (scanAll_inv h)
  intro a ha ho
  obtain ⟨x, e, h1, h2⟩ := hL.cl_ a ha ho (fun j x hj => by simp at hj)
  rw [xe_of h1]
  exact h2
theorem scanTo_before {cs : List Ins} {j : Nat} {s : List Int × List Fr} (h : scanTo cs j = some s) {i : Nat} (hi : i ≤ j) : ∃ m fs, scanTo cs i = some (m, fs) := by
  cases hs : scanTo cs i with
  | none => rw [scanTo_none hs hi] at h; cases h
  | some t => exact ⟨t.1, t.2, rfl⟩
theorem openOf_eq {cs : List Ins} {m : List Int} (h : scanAll cs = some m) {i : Nat} (hi : i ≤ cs.length) : openOf cs i = toI (openL cs i) ∧ openAt cs i = (openL cs i).length ∧ (openL cs i).length ≤ 8 := by
  obtain ⟨m', fs, hs⟩ := scanTo_before (scanAll_inv h) hi
  have e := openL_eq (good_H1 h) hi hs
  unfold openOf openAt toI
  rw [hs, e]
  exact ⟨by simp, by simp, by simp; exact (scanTo_ok hs).2.1⟩
def depthRes (cs : List Ins) : Int × Int := match scanAll cs with | none => (0, 31) | some _ => (depthTo cs cs.length, 0)
def aroundRes (cs : List Ins) (a : Int) : List Int := match scanAll cs with | none => [] | some _ => aroundTo cs a cs.length
theorem depth_f (cs : List Ins) (hm : cs.length ≤ 1048576) : shape_Depth.f cs = some (depthRes cs) := by
  unfold shape_Depth.f
  rw [if_pos hm]
  rfl
theorem around_f (cs : List Ins) (a : Int) (hm : cs.length ≤ 1048576) : shape_Around.f cs a = some (aroundRes cs a) := by
  unfold shape_Around.f
  rw [if_pos hm]
  rfl
end Go.Proofs.Ytbdmbkmokhaflaa.Th
end

section
-- written by hprint.py (a program of these sessions) out of the translation; Lean checks it
namespace Go.Proofs.Ytbdmbkmokhaflaa.Q
open Go.RowKit Go.Proofs.YtbdmbkmokhaflaaW.Hb Go.Proofs.YtbdmbkmokhaflaaW.PrintWords Go.Proofs.YtbdmbkmokhaflaaW.PrintLast Go.Proofs.YtbdmbkmokhaflaaW.PrintMore
attribute [local go_sem] max2_int min2_int max_two min_two max_three min_three max_four min_four   -- for this text's walks alone
set_option linter.unusedVariables false
set_option linter.unusedSimpArgs false

/-! ### shape_Next: function 13, by hand -/
def asksS (o : Int) (yes : Bool) : Bool := if o = 49 then true else if o = 48 then !yes else if o = 50 ∨ o = 52 then yes else false
def nextS (l0 : List Ins) (l1 : List Int) (a2 : Int) (a3 : Bool) : Int :=
  if a2 < 0 ∨ a2 ≥ l0.length ∨ a2 ≥ l1.length then -1
  else if asksS (opAt l0 a2.toNat) a3 = true then (if rd l1 a2 < 0 ∨ rd l1 a2 ≥ l0.length then -1 else rd l1 a2 + 1)
  else a2 + 1
def shape_Next.f (l0 : List Ins) (l1 : List Int) (a2 : Int) (a3 : Bool) : Option Int := some (nextS l0 l1 a2 a3)
set_option maxRecDepth 100000 in
set_option maxHeartbeats 4000000 in
theorem shape_Next.calls (A0 : Option Addr) (c0 : Nat) (l0 : List (S31)) (A1 : Option Addr) (c1 : Nat) (l1 : List Int) (a2 : Int) (a3 : Bool) (r : Int) (w : World) (hr0 : Kd.C k31 w A0 l0.length l0) (hc0 : l0.length ≤ c0) (hr1 : Kd.C (Kd.int .i64) w A1 l1.length l1) (hc1 : l1.length ≤ c1) (h : shape_Next.f l0 l1 a2 a3 = some r) :
    Calls Try.prog 13 #[.slice A0 l0.length c0, .slice A1 l1.length c1, .int .i64 a2, .bool a3] w fun e w' => e = .returned (.int .i64 r) ∧ Below w.heap.size w w' := by
  have hr : nextS l0 l1 a2 a3 = r := Option.some.inj h
  clear h
  have HB := Aside0.mk (Below.refl w.heap.size w)
  have hm0 : l0.length ≤ 9223372036854775807 := hr0.2.1
  have hm1 : l1.length ≤ 9223372036854775807 := hr1.2.1
  by_cases h0 : a2 < 0
  · have hrr : r = -1 := by rw [← hr]; exact if_pos (.inl h0)
    subst hrr
    clear hr hr0 hr1
    go_enter Try.func13, Try.ntmps13
    go_wp2
    all_goals (go_ret; exact ⟨rfl, HB.out⟩)
  · obtain ⟨n, rfl⟩ := Int.eq_ofNat_of_zero_le (by omega : 0 ≤ a2)
    by_cases h1 : n < l0.length ∧ n < l1.length
    · obtain ⟨p1, p2⟩ := h1
      obtain ⟨ad0, e0, k0, _⟩ := at_Ins hr0 n p1
      obtain ⟨ad1, e1, k1⟩ := at_intN hr1 n p2
      subst e0 e1
      have q1 : (n : Int) < (l0.length : Int) := by omega
      have q2 : (n : Int) < (l1.length : Int) := by omega
      have q3 : ¬ (n : Int) < 0 := by omega
      have hrr : r = if asksS l0[n].f0 a3 = true then (if l1[n] < 0 ∨ l1[n] ≥ l0.length then -1 else l1[n] + 1) else (n : Int) + 1 := by
        rw [← hr]
        unfold nextS
        rw [if_neg (by omega), Int.toNat_natCast, opAt_lt p1]
        have e : rd l1 (n : Int) = l1[n] := by simp [rd, List.getD_eq_getElem?_getD, p2]
        rw [e]
      obtain ⟨o, ho⟩ : ∃ o, l0[n].f0 = o := ⟨_, rfl⟩
      obtain ⟨x, hx⟩ : ∃ x, l1[n] = x := ⟨_, rfl⟩
      rw [ho, hx] at hrr
      rw [ho] at k0
      rw [hx] at k1
      have HRR := Aside0.mk hrr
      clear hr hr0 hr1 ho hx hrr
      have hw1 : wrap64 ((n : Int) + 1) = (n : Int) + 1 := by unfold wrap64; omega
      have hxs : x < 0 ∨ (¬ x < 0 ∧ x ≥ (l0.length : Int)) ∨ (¬ x < 0 ∧ ¬ x ≥ (l0.length : Int) ∧ wrap64 (x + 1) = x + 1) := by
        by_cases g1 : x < 0
        · exact .inl g1
        · by_cases g2 : x ≥ (l0.length : Int)
          · exact .inr (.inl ⟨g1, g2⟩)
          · exact .inr (.inr ⟨g1, g2, by unfold wrap64; omega⟩)
      have hos : o = 49 ∨ o = 48 ∨ o = 50 ∨ o = 52 ∨ ((o == 49) = false ∧ (o == 48) = false ∧ (o == 50) = false ∧ (o == 52) = false) := by
        by_cases g1 : o = 49
        · exact .inl g1
        · by_cases g2 : o = 48
          · exact .inr (.inl g2)
          · by_cases g3 : o = 50
            · exact .inr (.inr (.inl g3))
            · by_cases g4 : o = 52
              · exact .inr (.inr (.inr (.inl g4)))
              · exact .inr (.inr (.inr (.inr ⟨by simp [g1], by simp [g2], by simp [g3], by simp [g4]⟩)))
      rcases hos with rfl | rfl | rfl | rfl | ⟨g1, g2, g3, g4⟩ <;> cases a3 <;> rcases hxs with h | ⟨h, h'⟩ | ⟨h, h', hw⟩
      all_goals
        go_enter Try.func13, Try.ntmps13
        go_wp2
        all_goals first
          | omega
          | (go_ret
             refine ⟨?_, HB.out⟩
             have hz := HRR.out
             clear HRR
             subst hz
             first | (simp [asksS]; done) | (simp [asksS, *]; done) | (simp only [beq_eq_false_iff_ne, ne_eq] at g1 g2 g3 g4; simp [asksS, *]; done) | (simp [asksS]; omega))
    · have hrr : r = -1 := by rw [← hr]; exact if_pos (by omega)
      subst hrr
      clear hr hr0 hr1
      have q3 : ¬ (n : Int) < 0 := by omega
      have q4 : ∀ x : Int, x = (if (l1.length : Int) < (l0.length : Int) then (l1.length : Int) else (l0.length : Int)) → x ≤ (n : Int) := by intro x hx; split at hx <;> omega
      go_enter Try.func13, Try.ntmps13
      go_wp2
      all_goals (go_ret; exact ⟨rfl, HB.out⟩)


end Go.Proofs.Ytbdmbkmokhaflaa.Q
end

section
/- layer 6: where instructions lead, one by one, when all is well -/
set_option linter.unusedVariables false
set_option linter.unusedSimpArgs false
namespace Go.Proofs.Ytbdmbkmokhaflaa.Th
open Go.RowKit Go.Proofs.YtbdmbkmokhaflaaW.PrintWords Go.Proofs.YtbdmbkmokhaflaaW.Hb
open Go.Shape6 Go.Proofs.Ytbdmbkmokhaflaa.Q

theorem row_open {cs : List Ins} {m : List Int} (h : scanAll cs = some m) {a : Nat} (ha : a < cs.length) (ho : isOp (opc cs a) = true) : ∃ (x : Int) (e : Nat), cl (opc cs) a cs.length = .fin x e ∧ xe cs a = (x, (e : Int)) ∧ a < e ∧ e < cs.length ∧ opc cs e = 50 ∧ (x = -1 ∨ ((a : Int) < x ∧ x < e ∧ opc cs x.toNat = 49 ∧ opc cs a = 48)) ∧ m[a]? = some (if 0 ≤ x then x else (e : Int)) ∧ m[e]? = some (a : Int) ∧ (0 ≤ x → m[x.toNat]? = some (e : Int)) := by
  have hs := scanAll_inv h
  have h2 := scan_L2 (Nat.le_refl _) hs
  obtain ⟨x, e, hc, hxe⟩ := (good_H1 h).fin ha ho
  obtain ⟨d1, d2, d3, d4⟩ := fin_facts ha hc
  obtain ⟨g1, g2⟩ := h2.m2 a x e ha ho hc
  refine ⟨x, e, hc, hxe, d1, d2, d3, d4, ?_, g1, g2⟩
  rw [h2.m1 a ha ho, hc]
  rfl
theorem row_else {cs : List Ins} {m : List Int} (h : scanAll cs = some m) {k : Nat} (hk : k < cs.length) (ho : opc cs k = 49) : ∃ (a e : Nat), a < k ∧ k < e ∧ e < cs.length ∧ opc cs e = 50 ∧ isOp (opc cs a) = true ∧ cl (opc cs) a cs.length = .fin (k : Int) e ∧ m[k]? = some (e : Int) := by
  have hs := scanAll_inv h
  have hL := scan_L1 hs
  obtain ⟨a, p1, p2, p3⟩ := hL.el k hk ho
  rcases p3 with ⟨d, p3⟩ | ⟨e, p3, p4⟩
  · obtain ⟨j, hj, _⟩ := hL.run_ (by omega) p2 p3
    simp at hj
  · obtain ⟨n, rfl⟩ := Int.eq_ofNat_of_zero_le p4
    obtain ⟨d1, d2, d3, d4⟩ := fin_facts (by omega : a < cs.length) p3
    have g := ((scan_L2 (Nat.le_refl _) hs).m2 a k n (by omega) p2 p3).2 (by omega)
    rw [Int.toNat_natCast] at g
    exact ⟨a, n, p1, by omega, d2, d3, p2, p3, g⟩
theorem row_end {cs : List Ins} {m : List Int} (h : scanAll cs = some m) {k : Nat} (hk : k < cs.length) (ho : opc cs k = 50) : ∃ (a : Nat) (x : Int), a < k ∧ isOp (opc cs a) = true ∧ cl (opc cs) a cs.length = .fin x k ∧ m[k]? = some (a : Int) := by
  have hs := scanAll_inv h
  have hL := scan_L1 hs
  obtain ⟨a, p1, p2, x, p3⟩ := hL.en k hk ho
  exact ⟨a, x, p1, p2, p3, ((scan_L2 (Nat.le_refl _) hs).m2 a x k (by omega) p2 p3).1⟩
theorem end_after {cs : List Ins} {a k d : Nat} {x y : Int} {e : Nat} (hk : k ≤ cs.length) (ha : a < k) (h1 : cl (opc cs) a k = .run d y) (h2 : cl (opc cs) a cs.length = .fin x e) : k ≤ e := by
  rcases Nat.lt_or_ge e k with hlt | hge
  · have p := cl_end (by omega) x e h2
    have h4 : cl (opc cs) a (e + 1) = .fin x e := by
      have q1 := cl_succ (opc cs) a e p.1
      rw [p.2.2] at q1
      obtain ⟨d1, d2, d3, d4⟩ := fin_facts (by omega : a < cs.length) h2
      unfold clS at q1
      dsimp only at q1
      rw [isOp_not (by omega), if_neg (by decide), if_neg (by omega), if_pos d3, if_pos rfl] at q1
      exact q1
    have h5 := cl_fin_mono h4 (by omega) (by omega : e + 1 ≤ k)
    rw [h1] at h5
    cases h5
  · exact hge
theorem row_leave {cs : List Ins} {m : List Int} (h : scanAll cs = some m) {k : Nat} (hk : k < cs.length) (ho : opc cs k = 52) : ∃ e : Nat, k < e ∧ e < cs.length ∧ opc cs e = 50 ∧ m[k]? = some (e : Int) := by
  have hs := scanAll_inv h
  obtain ⟨a, s1, s2⟩ := (scan_L2 (Nat.le_refl _) hs).m4 k hk ho
  rcases s2 with ⟨b, hb, _⟩ | ⟨y, f, s3, s4⟩
  · cases hb
  · obtain ⟨t1, t2, d, x, t3⟩ := s1.ok
    obtain ⟨d1, d2, d3, d4⟩ := fin_facts (by omega : a < cs.length) s3
    have := end_after (by omega) t1 t3 s3
    refine ⟨f, ?_, d2, d3, s4⟩
    rcases Nat.lt_or_eq_of_le this with h5 | h5
    · exact h5
    · rw [← h5] at d3
      omega
/-- Behind any instruction one comes forward, or back to a block's opener. -/
theorem next_way {cs : List Ins} {m : List Int} (h : scanAll cs = some m) (c : Nat) (hc : c < cs.length) (yes : Bool) :
    (opc cs c = 50 ∧ yes = true → nextS cs m c yes = rd m (c : Int) + 1 ∧ nextS cs m c yes ≤ c) ∧ (¬ (opc cs c = 50 ∧ yes = true) → nextS cs m c yes > c ∧ nextS cs m c yes ≤ cs.length) := by
  have hlm := (scanTo_ok (scanAll_inv h)).1
  have hmain : asksS (opc cs c) yes = true → ∀ v : Nat, m[c]? = some (v : Int) → v < cs.length → nextS cs m c yes = v + 1 := by
    intro ha v hv hv2
    unfold nextS
    rw [if_neg (by omega), Int.toNat_natCast, if_pos ha, rd_get hv, if_neg (by omega)]
  have hplain : asksS (opc cs c) yes = false → nextS cs m c yes = (c : Int) + 1 := by
    intro ha
    unfold nextS
    rw [if_neg (by omega), Int.toNat_natCast, if_neg (by show ¬ asksS (opc cs c) yes = true; rw [ha]; decide)]
  constructor
  · rintro ⟨h50, rfl⟩
    obtain ⟨a, x, p1, p2, p3, p4⟩ := row_end h hc h50
    have := hmain (by rw [h50]; rfl) a p4 (by omega)
    rw [this, rd_get p4]
    omega
  · intro hn
    by_cases ha : asksS (opc cs c) yes = true
    · have hv : ∃ v : Nat, m[c]? = some (v : Int) ∧ c < v ∧ v < cs.length := by
        unfold asksS at ha
        split at ha
        · rename_i h9
          obtain ⟨a, e, p1, p2, p3, p4, p5, p6, p7⟩ := row_else h hc h9
          exact ⟨e, p7, p2, p3⟩
        · split at ha
          · rename_i h48
            obtain ⟨x, e, q1, q2, q3, q4, q5, q6, q7, q8, q9⟩ := row_open h hc (isOp_iff.2 (.inl h48))
            by_cases hx : 0 ≤ x
            · rw [if_pos hx] at q7
              exact ⟨x.toNat, by rw [Int.toNat_of_nonneg hx]; exact q7, by omega, by omega⟩
            · rw [if_neg hx] at q7
              exact ⟨e, q7, q3, q4⟩
          · split at ha
            · rename_i h5
              rcases h5 with h50 | h52
              · exact absurd ⟨h50, ha⟩ hn
              · obtain ⟨e, p1, p2, p3, p4⟩ := row_leave h hc h52
                exact ⟨e, p4, p1, p2⟩
            · cases ha
      obtain ⟨v, hv1, hv2, hv3⟩ := hv
      rw [hmain ha v hv1 hv3]
      omega
    · rw [hplain (by simpa using ha)]
      omega
theorem tmod_in {x n : Int} (hn : 0 < n) (hb : n ≤ 1000000) : 0 ≤ Int.tmod (wrap64 (Int.tmod x n + n)) n ∧ Int.tmod (wrap64 (Int.tmod x n + n)) n < n := by
  have h1 : -n < Int.tmod x n ∧ Int.tmod x n < n := by
    constructor
    · have h2 := Int.tmod_lt_of_pos (-x) hn
      rw [Int.neg_tmod] at h2
      omega
    · exact Int.tmod_lt_of_pos x hn
  rw [w64 (by omega) (by omega)]
  exact ⟨Int.tmod_nonneg _ (by omega), Int.tmod_lt_of_pos _ hn⟩
end Go.Proofs.Ytbdmbkmokhaflaa.Th
end

section
/- layer 6: what stands within a block is of good shape by itself -/
set_option linter.unusedVariables false
set_option linter.unusedSimpArgs false
namespace Go.Proofs.Ytbdmbkmokhaflaa.Th
open Go.RowKit Go.Proofs.YtbdmbkmokhaflaaW.PrintWords Go.Proofs.YtbdmbkmokhaflaaW.Hb
open Go.Shape6 Go.Proofs.Ytbdmbkmokhaflaa.Q

/-- The instructions from f on, ahead of k, leaves taken out. -/
def segTo (cs : List Ins) (f k : Nat) : List Ins := ((cs.take k).drop f).filter (fun x => decide (x.f0 ≠ 52))
theorem segTo_start (cs : List Ins) (f : Nat) : segTo cs f f = [] := by
  unfold segTo
  rw [List.drop_eq_nil_of_le (by rw [List.length_take]; omega)]
  rfl
theorem segTo_succ {cs : List Ins} {f k : Nat} (hf : f ≤ k) (hk : k < cs.length) : segTo cs f (k + 1) = segTo cs f k ++ (if opc cs k = 52 then [] else [cs[k]]) := by
  unfold segTo
  rw [List.take_succ_eq_append_getElem hk, List.drop_append_of_le_length (by rw [List.length_take]; omega), List.filter_append]
  congr 1
  have ho : opc cs k = cs[k].f0 := opAt_lt hk
  by_cases h : opc cs k = 52
  · rw [if_pos h]
    rw [ho] at h
    simp [h]
  · rw [if_neg h]
    rw [ho] at h
    simp [h]
theorem segTo_pre {cs : List Ins} {f k e : Nat} (hf : f ≤ k) (hk : k ≤ e) (he : e ≤ cs.length) : ∃ r, segTo cs f e = segTo cs f k ++ r := by
  induction e with
  | zero =>
    have : k = 0 := by omega
    subst this
    exact ⟨[], by simp⟩
  | succ e ih =>
    by_cases hke : k = e + 1
    · subst hke
      exact ⟨[], by simp⟩
    · obtain ⟨r, hr⟩ := ih (by omega) (by omega)
      rw [segTo_succ (by omega) (by omega), hr, List.append_assoc]
      exact ⟨_, rfl⟩
theorem seg_at {cs : List Ins} {f k e : Nat} (hf : f ≤ k) (hk : k < e) (he : e ≤ cs.length) (ho : opc cs k ≠ 52) : (segTo cs f k).length < (segTo cs f e).length ∧ opc (segTo cs f e) (segTo cs f k).length = opc cs k := by
  obtain ⟨r, hr⟩ := segTo_pre (cs := cs) (f := f) (k := k + 1) (e := e) (by omega) (by omega) he
  rw [segTo_succ hf (by omega), if_neg ho] at hr
  have hlt : (segTo cs f k).length < (segTo cs f e).length := by rw [hr]; first | (simp; done) | (simp; omega)
  refine ⟨hlt, ?_⟩
  have h1 : opc (segTo cs f e) (segTo cs f k).length = ((segTo cs f e)[(segTo cs f k).length]'hlt).f0 := opAt_lt hlt
  have h2 : (segTo cs f e)[(segTo cs f k).length]? = some (cs[k]'(by omega)) := by
    rw [hr, List.append_assoc, List.getElem?_append_right (Nat.le_refl _)]
    simp
  rw [List.getElem?_eq_getElem hlt] at h2
  rw [h1, Option.some.inj h2]
  exact (opAt_lt (by omega)).symm
/-- The else of a block, once read, stays. -/
theorem x_stays {o : Nat → Int} {a i d : Nat} {y : Int} (ha : a < i) (hy : 0 ≤ y) (h : cl o a i = .run d y) (j : Nat) (hj : i ≤ j) : (∃ d', cl o a j = .run d' y) ∨ (∃ e', cl o a j = .fin y e') ∨ cl o a j = .fin (-1) (-1) := by
  induction j with
  | zero => omega
  | succ j ih =>
    by_cases hij : i = j + 1
    · rw [← hij]
      exact .inl ⟨d, h⟩
    · rw [cl_succ o a j (by omega)]
      rcases ih (by omega) with ⟨d', hc⟩ | ⟨e', hc⟩ | hc
      · rw [hc]
        unfold clS
        dsimp only
        split
        · exact .inl ⟨_, rfl⟩
        · split
          · split
            · split
              · exact .inr (.inr rfl)
              · rename_i hx
                exact absurd (.inl hy) hx
            · exact .inl ⟨_, rfl⟩
          · split
            · split
              · exact .inr (.inl ⟨_, rfl⟩)
              · exact .inl ⟨_, rfl⟩
            · exact .inl ⟨_, rfl⟩
      · rw [hc]
        exact .inr (.inl ⟨e', rfl⟩)
      · rw [hc]
        exact .inr (.inr rfl)
/-- The scan of a block's inside, beside the scan of all. -/
def Sim (cs seg : List Ins) (f a d0 k : Nat) : Prop :=
  ∃ m fs m' fs', scanTo cs k = some (m, fs) ∧ scanTo seg (segTo cs f k).length = some (m', fs') ∧ fs.length = d0 + fs'.length ∧ 1 ≤ d0 ∧ (∃ b, fs[d0 - 1]? = some b ∧ b.a = a) ∧
    ∀ j b b', fs[d0 + j]? = some b → fs'[j]? = some b' → opc cs b.a = opc seg b'.a ∧ (0 ≤ b.o ↔ 0 ≤ b'.o)
theorem sim_step {cs : List Ins} {mm : List Int} (h : scanAll cs = some mm) {f a d0 k : Nat} {x : Int} {e : Nat} (hc : cl (opc cs) a cs.length = .fin x e) (haf : a < f) (hfk : f ≤ k) (hke : k < e) (he : e < cs.length) (hx : x = -1 ∨ x < f) (hs : Sim cs (segTo cs f e) f a d0 k) : Sim cs (segTo cs f e) f a d0 (k + 1) := by
  obtain ⟨m, fs, m', fs', h1, h2, h3, h4, ⟨b0, hb0, hb0a⟩, h5⟩ := hs
  obtain ⟨m2, fs2, h6⟩ := scanTo_before (scanAll_inv h) (by omega : k + 1 ≤ cs.length)
  have hst : scanStep cs k m fs = some (m2, fs2) := by rw [← scanTo_succ h1]; exact h6
  have hL := scan_L1 h1
  have hkl : k < cs.length := by omega
  by_cases h52 : opc cs k = 52
  · -- a leave: the inside stays
    have hseg : segTo cs f (k + 1) = segTo cs f k := by rw [segTo_succ hfk hkl, if_pos h52, List.append_nil]
    unfold scanStep at hst
    rw [if_neg (by show ¬ (opc cs k = 48 ∨ opc cs k = 51); omega), if_neg (by show ¬ opc cs k = 49; omega), if_neg (by show ¬ opc cs k = 50; omega), if_pos h52] at hst
    split at hst
    · cases hst
    · rename_i j hj
      cases hst
      have hjl := topLoop_lt hj
      rw [List.length_map] at hjl
      have hgj := List.getElem?_eq_getElem hjl
      rw [hgj, Option.getD_some] at h6
      have hsame : ∀ (q : Nat) (b : Fr), (fs.set j ⟨fs[j].a, fs[j].o, fs[j].l ++ [(k : Int)]⟩)[q]? = some b → ∃ b1 : Fr, fs[q]? = some b1 ∧ b1.a = b.a ∧ b1.o = b.o := by
        intro q b hq
        by_cases hqj : q = j
        · subst hqj
          rw [List.getElem?_set_self hjl] at hq
          cases hq
          exact ⟨_, hgj, rfl, rfl⟩
        · rw [List.getElem?_set_ne (fun e => hqj e.symm)] at hq
          exact ⟨b, hq, rfl, rfl⟩
      refine ⟨_, _, m', fs', h6, by rw [hseg]; exact h2, by rw [List.length_set]; exact h3, h4, ?_, fun q b b' hb hb' => ?_⟩
      · by_cases hqj : d0 - 1 = j
        · refine ⟨⟨fs[j].a, fs[j].o, fs[j].l ++ [(k : Int)]⟩, by rw [hqj, List.getElem?_set_self hjl], ?_⟩
          rw [hqj, hgj] at hb0
          rw [← hb0a, ← Option.some.inj hb0]
        · exact ⟨b0, by rw [List.getElem?_set_ne (fun e => hqj e.symm)]; exact hb0, hb0a⟩
      · obtain ⟨b1, g1, g2, g3⟩ := hsame _ b hb
        obtain ⟨g4, g5⟩ := h5 q b1 b' g1 hb'
        rw [← g2, ← g3]
        exact ⟨g4, g5⟩
  · obtain ⟨hp, hop⟩ := seg_at (cs := cs) hfk hke (by omega) h52
    have hseg : (segTo cs f (k + 1)).length = (segTo cs f k).length + 1 := by rw [segTo_succ hfk hkl, if_neg h52, List.length_append]; rfl
    obtain ⟨p, hpe⟩ : ∃ p, (segTo cs f k).length = p := ⟨_, rfl⟩
    rw [hpe] at h2 hp hop hseg
    have hdone : ∀ m2' fs2', scanStep (segTo cs f e) p m' fs' = some (m2', fs2') → fs2.length = d0 + fs2'.length → (∃ b, fs2[d0 - 1]? = some b ∧ b.a = a) → (∀ j b b', fs2[d0 + j]? = some b → fs2'[j]? = some b' → opc cs b.a = opc (segTo cs f e) b'.a ∧ (0 ≤ b.o ↔ 0 ≤ b'.o)) → Sim cs (segTo cs f e) f a d0 (k + 1) := by
      intro m2' fs2' g1 g2 g3 g4
      exact ⟨m2, fs2, m2', fs2', h6, by rw [hseg, scanTo_succ h2]; exact g1, g2, h4, g3, g4⟩
    have hopA : Q.opAt (segTo cs f e) p = opc cs k := hop
    unfold scanStep at hst
    split at hst
    · rename_i ho
      have ho : opc cs k = 48 ∨ opc cs k = 51 := ho
      split at hst
      · rename_i h8
        cases hst
        refine hdone m' (fs' ++ [⟨p, -1, []⟩]) ?_ (by simp; omega) ⟨b0, by rw [List.getElem?_append_left (by omega)]; exact hb0, hb0a⟩ (fun j b b' hb hb' => ?_)
        · unfold scanStep
          rw [hopA, if_pos ho, if_pos (by omega)]
        · rw [List.getElem?_append] at hb hb'
          by_cases hj : j < fs'.length
          · rw [if_pos (by omega)] at hb
            rw [if_pos hj] at hb'
            exact h5 j b b' hb hb'
          · have hl := lt_of_get (l := fs' ++ [⟨p, -1, []⟩]) (j := j) (v := b') (by rw [List.getElem?_append]; exact hb')
            simp at hl
            have ej : j = fs'.length := by omega
            rw [if_neg (by omega), show d0 + j - fs.length = 0 by omega] at hb
            rw [if_neg hj, show j - fs'.length = 0 by omega] at hb'
            cases hb
            cases hb'
            exact ⟨hop.symm, Iff.rfl⟩
      · cases hst
    · rename_i ho
      have ho : ¬ (opc cs k = 48 ∨ opc cs k = 51) := ho
      split at hst
      · rename_i h9
        have h9 : opc cs k = 49 := h9
        split at hst
        · cases hst
        · rename_i b hb
          split at hst
          · cases hst
          · rename_i hxx
            cases hst
            obtain ⟨k0, hk0, hg⟩ := last_get hb
            have hgm : (fs.map pr)[k0]? = some (b.a, b.o) := by rw [List.getElem?_map, hg]; rfl
            have hlm : (fs.map pr).length = k0 + 1 := by rw [List.length_map]; exact hk0
            have hx1 : ¬ 0 ≤ b.o := fun hh => hxx (.inl hh)
            have hx2 : opc cs b.a = 48 := Classical.byContradiction (fun hh => hxx (.inr hh))
            have hne : fs'.length ≠ 0 := by
              intro h0
              have e1 : d0 - 1 = k0 := by omega
              rw [e1, hg] at hb0
              have e2 : b = b0 := Option.some.inj hb0
              have e3 : b.a = a := by rw [e2]; exact hb0a
              have h7 := (hL.else_ h9 hlm hgm hx1 hx2).fr k0 b.a k (by rw [List.getElem?_set_self (by omega)])
              rw [e3] at h7
              rcases x_stays (by omega) (by omega) h7.2.2 cs.length (by omega) with ⟨d', h8⟩ | ⟨e', h8⟩ | h8
              · rw [hc] at h8
                cases h8
              · rw [hc] at h8
                injection h8 with h8 _
                omega
              · rw [hc] at h8
                injection h8 with _ h8
                omega
            obtain ⟨j0, hj0⟩ : ∃ j0, fs'.length = j0 + 1 := ⟨fs'.length - 1, by omega⟩
            have hg' := List.getElem?_eq_getElem (by omega : j0 < fs'.length)
            obtain ⟨b', hb'e⟩ : ∃ b', fs'[j0]'(by omega) = b' := ⟨_, rfl⟩
            rw [hb'e] at hg'
            have ek : k0 = d0 + j0 := by omega
            obtain ⟨r1, r2⟩ := h5 j0 b b' (by rw [← ek]; exact hg) hg'
            have e1 : fs.length - 1 = k0 := by omega
            rw [e1] at h6 hdone
            refine hdone (m'.set b'.a (p : Int)) (fs'.set j0 ⟨b'.a, p, b'.l⟩) ?_ (by rw [List.length_set, List.length_set]; exact h3) ⟨b0, by rw [List.getElem?_set_ne (by omega)]; exact hb0, hb0a⟩ (fun j c c' hcj hcj' => ?_)
            · unfold scanStep
              have hl' : fs'.getLast? = some b' := by rw [List.getLast?_eq_getElem?, show fs'.length - 1 = j0 by omega]; exact hg'
              rw [hopA, if_neg ho, if_pos h9, hl']
              show (if 0 ≤ b'.o ∨ opc (segTo cs f e) b'.a ≠ 48 then _ else _) = _
              rw [if_neg (by rw [← r1, ← r2]; intro hh; rcases hh with hh | hh; exact hx1 hh; exact hh hx2), show fs'.length - 1 = j0 by omega]
            · by_cases hjj : j = j0
              · subst hjj
                rw [← ek, List.getElem?_set_self (by omega)] at hcj
                rw [List.getElem?_set_self (by omega)] at hcj'
                cases hcj
                cases hcj'
                exact ⟨r1, fun _ => Int.natCast_nonneg _, fun _ => Int.natCast_nonneg _⟩
              · rw [List.getElem?_set_ne (by omega)] at hcj
                rw [List.getElem?_set_ne (by omega)] at hcj'
                exact h5 j c c' hcj hcj'
      · rename_i h9
        have h9 : opc cs k ≠ 49 := h9
        split at hst
        · rename_i h0
          have h0 : opc cs k = 50 := h0
          split at hst
          · cases hst
          · rename_i b hb
            cases hst
            obtain ⟨k0, hk0, hg⟩ := last_get hb
            have hgm : (fs.map pr)[k0]? = some (b.a, b.o) := by rw [List.getElem?_map, hg]; rfl
            have hlm : (fs.map pr).length = k0 + 1 := by rw [List.length_map]; exact hk0
            have hne : fs'.length ≠ 0 := by
              intro hz
              have e1 : d0 - 1 = k0 := by omega
              rw [e1, hg] at hb0
              have e2 : b = b0 := Option.some.inj hb0
              have e3 : b.a = a := by rw [e2]; exact hb0a
              have h7 := (hL.end_ h0 hlm hgm).2
              rw [e3] at h7
              have h8 := cl_fin_mono h7 (by omega) (by omega : k + 1 ≤ cs.length)
              rw [hc] at h8
              injection h8 with _ h8
              omega
            obtain ⟨j0, hj0⟩ : ∃ j0, fs'.length = j0 + 1 := ⟨fs'.length - 1, by omega⟩
            have hg' := List.getElem?_eq_getElem (by omega : j0 < fs'.length)
            obtain ⟨b', hb'e⟩ : ∃ b', fs'[j0]'(by omega) = b' := ⟨_, rfl⟩
            rw [hb'e] at hg'
            have ek : k0 = d0 + j0 := by omega
            have e1 : fs.length - 1 = k0 := by omega
            rw [e1] at h6 hdone
            have hl' : fs'.getLast? = some b' := by rw [List.getLast?_eq_getElem?, show fs'.length - 1 = j0 by omega]; exact hg'
            refine hdone (setAll ((m'.set p b'.a).set (if 0 ≤ b'.o then b'.o.toNat else b'.a) p) b'.l p) (fs'.take j0) ?_ (by rw [List.length_take, List.length_take]; omega) ⟨b0, by rw [List.getElem?_take, if_pos (by omega)]; exact hb0, hb0a⟩ (fun j c c' hcj hcj' => ?_)
            · unfold scanStep
              rw [hopA, if_neg ho, if_neg h9, if_pos h0, hl', show fs'.length - 1 = j0 by omega]
            · rw [List.getElem?_take] at hcj hcj'
              split at hcj
              · split at hcj'
                · exact h5 j c c' hcj hcj'
                · cases hcj'
              · cases hcj
        · rename_i h0
          have h0 : opc cs k ≠ 50 := h0
          try rw [if_neg h52] at hst
          cases hst
          refine hdone m' fs' ?_ h3 ⟨b0, hb0, hb0a⟩ h5
          unfold scanStep
          rw [hopA, if_neg ho, if_neg h9, if_neg h0, if_neg h52]
/-- What stands within a block, its leaves taken out, is of good shape. -/
theorem inner_ok {cs : List Ins} {mm : List Int} (h : scanAll cs = some mm) {a f : Nat} {x : Int} {e : Nat} (ha : a < cs.length) (hoa : isOp (opc cs a) = true) (hc : cl (opc cs) a cs.length = .fin x e) (hf : f = if 0 ≤ x then x.toNat + 1 else a + 1) : ∃ m', scanAll (segTo cs f e) = some m' := by
  obtain ⟨d1, d2, d3, d4⟩ := fin_facts ha hc
  have hfx : a < f ∧ f ≤ e ∧ (x = -1 ∨ x < f) ∧ ∃ y, cl (opc cs) a f = .run 0 y := by
    by_cases hx : 0 ≤ x
    · rw [if_pos hx] at hf
      rcases d4 with d4 | ⟨d4, d5, d6, d7⟩
      · omega
      · refine ⟨by omega, by omega, .inr (by omega), x, ?_⟩
        have p := (cl_else ha).2 x.toNat e (by omega) (by rw [Int.toNat_of_nonneg hx]; exact hc)
        rw [hf, cl_succ _ _ _ p.1, p.2.2]
        unfold clS
        dsimp only
        rw [isOp_not (by omega), if_neg (by decide), if_pos d6, if_pos rfl, if_neg (by omega), Int.toNat_of_nonneg hx]
    · rw [if_neg hx] at hf
      exact ⟨by omega, by omega, by omega, -1, by rw [hf]; exact cl_start _ _⟩
  obtain ⟨g1, g2, g3, y, g4⟩ := hfx
  obtain ⟨m, fs, hs⟩ := scanTo_before (scanAll_inv h) (by omega : f ≤ cs.length)
  have hL := scan_L1 hs
  obtain ⟨j, hj, hjd⟩ := hL.run_ g1 hoa g4
  have hjl := lt_of_get hj
  rw [List.getElem?_map] at hj
  obtain ⟨b, hb, hbe⟩ := Option.map_eq_some_iff.1 hj
  rw [List.length_map] at hjl hjd
  have hba : b.a = a := congrArg Prod.fst hbe
  have hsim : ∀ k, f ≤ k → k ≤ e → Sim cs (segTo cs f e) f a fs.length k := by
    intro k
    induction k with
    | zero => intro hk; omega
    | succ k ih =>
      intro hk hke
      by_cases hkf : k + 1 = f
      · rw [hkf]
        refine ⟨m, fs, _, [], hs, by rw [segTo_start]; rfl, rfl, by omega, ⟨b, by rw [show fs.length - 1 = j by omega]; exact hb, hba⟩, fun q c c' hq hq' => by simp at hq'⟩
      · exact sim_step h hc g1 (by omega) (by omega) d2 g3 (ih (by omega) (by omega))
  obtain ⟨m1, fs1, m', fs', q1, q2, q3, q4, ⟨b1, hb1, hb1a⟩, q5⟩ := hsim e g2 (Nat.le_refl _)
  have hL2 := scan_L1 q1
  have pe := cl_end ha x e hc
  obtain ⟨j2, hj2, hjd2⟩ := hL2.run_ pe.1 hoa pe.2.2
  have hjl2 := lt_of_get hj2
  rw [List.length_map] at hjl2 hjd2
  have hget1 : (fs1.map pr)[fs.length - 1]? = some (a, b1.o) := by
    rw [List.getElem?_map, hb1, ← hb1a]
    rfl
  have ej : j2 = fs.length - 1 := by
    rcases Nat.lt_trichotomy j2 (fs.length - 1) with hlt | heq | hgt
    · have := hL2.up j2 (fs.length - 1) a _ a _ hlt hj2 hget1
      omega
    · exact heq
    · have := hL2.up (fs.length - 1) j2 a _ a _ hgt hget1 hj2
      omega
  have hnil : fs'.length = 0 := by omega
  exact ⟨m', scanAll_some q2 hnil⟩
end Go.Proofs.Ytbdmbkmokhaflaa.Th
end

section
/- ShapePairs: the pure statement, proved: ends and openers are pairs; what stands between them is of good shape by itself -/
namespace Go.Proofs.Ytbdmbkmokhaflaa.PuShapePairs
open Go.RowKit Go.Proofs.YtbdmbkmokhaflaaW.PrintWords Go.Proofs.YtbdmbkmokhaflaaW.Hb Go.Proofs.YtbdmbkmokhaflaaW.Ho Go.Proofs.Ytbdmbkmokhaflaa.Q Go.Proofs.Ytbdmbkmokhaflaa.OpShapePairs Go.Proofs.Ytbdmbkmokhaflaa.Th Go.Shape6

theorem row_bound {cs : List Ins} {m : List Int} (h : scanAll cs = some m) {k : Nat} (hk : k < cs.length) : ∃ v : Int, m[k]? = some v ∧ -1 ≤ v ∧ v < cs.length := by
  by_cases hop : opc cs k = 48 ∨ opc cs k = 51
  · obtain ⟨x, e, f1, f2, f3, f4, f5, f6, f7, f8, f9⟩ := row_open h hk (isOp_iff.2 hop)
    exact ⟨_, f7, by split <;> omega, by split <;> omega⟩
  · by_cases h9 : opc cs k = 49
    · obtain ⟨a, e, p1, p2, p3, p4, p5, p6, p7⟩ := row_else h hk h9
      exact ⟨_, p7, by omega, by omega⟩
    · by_cases h0 : opc cs k = 50
      · obtain ⟨a, x, p1, p2, p3, p4⟩ := row_end h hk h0
        exact ⟨_, p4, by omega, by omega⟩
      · by_cases h52 : opc cs k = 52
        · obtain ⟨e, p1, p2, p3, p4⟩ := row_leave h hk h52
          exact ⟨_, p4, by omega, by omega⟩
        · exact ⟨-1, (scan_L2 (Nat.le_refl _) (scanAll_inv h)).m5 k hk (by unfold special; omega), by omega, by omega⟩
theorem round_ok {cs : List Ins} {m : List Int} (h : scanAll cs = some m) {i : Nat} (hi : i < cs.length) : RoundOk cs m i := by
  obtain ⟨v, hv, v1, v2⟩ := row_bound h hi
  refine ⟨v, hv, v1, v2, fun h52 => ?_, fun h50 => ?_⟩
  · obtain ⟨e, p1, p2, p3, p4⟩ := row_leave h hi h52
    rw [hv] at p4
    exact ⟨e, Option.some.inj p4, p1, p2, p3⟩
  · have h50 : opc cs i = 50 := h50
    obtain ⟨a, x, p1, p2, p3, p4⟩ := row_end h hi h50
    have ha : a < cs.length := by omega
    obtain ⟨x', e', f1, f2, f3, f4, f5, f6, f7, f8, f9⟩ := row_open h ha p2
    rw [p3] at f1
    injection f1 with g1 g2
    have g3 : e' = i := by omega
    subst g3 g1
    obtain ⟨m', hm'⟩ := inner_ok h ha p2 p3 rfl
    rw [hv] at p4
    refine ⟨a, if 0 ≤ x then x.toNat + 1 else a + 1, Option.some.inj p4, p1, ?_, ?_, ?_, m', hm'⟩
    · split <;> omega
    · split <;> omega
    · by_cases hx : 0 ≤ x
      · rw [if_pos hx] at f7
        rcases f6 with f6 | ⟨f6, q2, q3, q4⟩
        · omega
        · exact .inr ⟨x.toNat, q4, by rw [Int.toNat_of_nonneg hx]; exact f7, by omega, by omega, q3, f9 hx, if_pos hx⟩
      · rw [if_neg hx] at f7
        exact .inl ⟨f7, if_neg hx, isOp_iff.1 p2⟩
theorem pure : Pure := by
  intro x0 q0
  refine Ev.rounds (g := fun k => weighhouselaw06_ShapePairs.f k x0) ?_
  refine Ev.congr (fun k => ?_) knows_ev
  unfold weighhouselaw06_ShapePairs.f
  rw [if_pos (.inr fun m h => ⟨(scanTo_ok (scanAll_inv h)).1, fun i hi => round_ok h hi⟩)]
end Go.Proofs.Ytbdmbkmokhaflaa.PuShapePairs
end
