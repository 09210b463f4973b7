/- texts of one claim, merged: each in a section of its own -/
import Derived.Test.YtbdmbkmokhaflaaMShapeWays3
section
-- written by hprint.py (a program of these sessions) out of the translation; Lean checks it
namespace Go.Proofs.Ytbdmbkmokhaflaa.Q
open Go.RowKit Go.Proofs.YtbdmbkmokhaflaaW.Hb Go.Proofs.YtbdmbkmokhaflaaW.PrintWords Go.Proofs.YtbdmbkmokhaflaaW.PrintLast Go.Proofs.YtbdmbkmokhaflaaW.PrintMore
attribute [local go_sem] max2_int min2_int max_two min_two max_three min_three max_four min_four   -- for this text's walks alone
set_option linter.unusedVariables false
set_option linter.unusedSimpArgs false

/-! ### weighhouselaw06_knows: function 9 -/
def weighhouselaw06_knows.f (k : Nat)  : Option (Bool) := (shape_Match.f (([(⟨48, 0⟩ : S31), (⟨49, 0⟩ : S31), (⟨50, 0⟩ : S31)] : List (S31)))).bind fun bt106 => ((shape_Match.f (([(⟨51, 1⟩ : S31), (⟨52, 0⟩ : S31), (⟨50, 0⟩ : S31)] : List (S31)))).bind fun bt113 => ((weighhouselaw06_num.f bt106.2).bind fun t117 => ((weighhouselaw06_num.f bt113.2).bind fun t118 => (if (wrap64 (t117 + t118)) = 0 then ((weighhouselaw03_Ints.f k bt106.1 (([1, 2, 0] : List Int))).bind fun t122 => (if t122 = true then ((weighhouselaw03_Ints.f k bt113.1 (([2, 2, 0] : List Int))).bind fun t126 => (some t126)) else (some false))) else (some false)))))
theorem weighhouselaw06_knows.mono : ∀ k, LeO (weighhouselaw06_knows.f k ) (weighhouselaw06_knows.f (k + 1) ) := by
  intro  k
  unfold weighhouselaw06_knows.f
  repeat' first
      | (with_reducible exact weighhouselaw03_Ints.mono _ _ _)
      | (with_reducible exact LeO.refl _)
      | (with_reducible exact LeO.none _)
      | (with_reducible refine LeO.ite ?_ ?_)
      | (with_reducible refine LeO.bind ?_ (fun _ => ?_))
      | exact weighhouselaw03_Ints.mono _ _ _
      | exact LeO.none _
      | refine LeO.ite ?_ ?_
      | refine LeO.bind ?_ (fun _ => ?_)
set_option maxHeartbeats 8000000 in
set_option maxRecDepth 100000 in
theorem weighhouselaw06_knows.calls (k : Nat)  (r : Bool) (w : World) (h : weighhouselaw06_knows.f k  = some r) :
    Calls Try.prog 9 #[] w fun e w' => e = .returned (.bool r) ∧ Below w.heap.size w w' := by
  have hu31 := Try.underlying31
  have HB := Aside0.mk (Below.refl w.heap.size w)
  have H : ((shape_Match.f (([(⟨48, 0⟩ : S31), (⟨49, 0⟩ : S31), (⟨50, 0⟩ : S31)] : List (S31)))).bind fun bt106 => ((shape_Match.f (([(⟨51, 1⟩ : S31), (⟨52, 0⟩ : S31), (⟨50, 0⟩ : S31)] : List (S31)))).bind fun bt113 => ((weighhouselaw06_num.f bt106.2).bind fun t117 => ((weighhouselaw06_num.f bt113.2).bind fun t118 => (if (wrap64 (t117 + t118)) = 0 then ((weighhouselaw03_Ints.f k bt106.1 (([1, 2, 0] : List Int))).bind fun t122 => (if t122 = true then ((weighhouselaw03_Ints.f k bt113.1 (([2, 2, 0] : List Int))).bind fun t126 => (some t126)) else (some false))) else (some false)))))) = some r := h
  clear h
  obtain ⟨y103, hy103⟩ : ∃ y_ : List (S31), y_ = (([(⟨48, 0⟩ : S31), (⟨49, 0⟩ : S31), (⟨50, 0⟩ : S31)] : List (S31))) := ⟨_, rfl⟩
  replace H : ((shape_Match.f y103).bind fun bt106 => ((shape_Match.f (([(⟨51, 1⟩ : S31), (⟨52, 0⟩ : S31), (⟨50, 0⟩ : S31)] : List (S31)))).bind fun bt113 => ((weighhouselaw06_num.f bt106.2).bind fun t117 => ((weighhouselaw06_num.f bt113.2).bind fun t118 => (if (wrap64 (t117 + t118)) = 0 then ((weighhouselaw03_Ints.f k bt106.1 (([1, 2, 0] : List Int))).bind fun t122 => (if t122 = true then ((weighhouselaw03_Ints.f k bt113.1 (([2, 2, 0] : List Int))).bind fun t126 => (some t126)) else (some false))) else (some false)))))) = some r := by first | (rw [hy103]; with_reducible exact H) | (have H2_ := (Option.bind_some _ _).symm.trans H; rw [hy103]; with_reducible exact H2_) | (have H2_ := (Option.bind_some _ _).symm.trans H; with_reducible exact H2_) | with_reducible exact H | (rw [hy103]; exact H) | exact H
  have Ny103 := Aside0.mk hy103
  clear hy103
  replace H := Option.bind_eq_some_iff.mp H
  obtain ⟨⟨t106, t107⟩, A10, H⟩ := H
  replace H : ((shape_Match.f (([(⟨51, 1⟩ : S31), (⟨52, 0⟩ : S31), (⟨50, 0⟩ : S31)] : List (S31)))).bind fun bt113 => ((weighhouselaw06_num.f t107).bind fun t117 => ((weighhouselaw06_num.f bt113.2).bind fun t118 => (if (wrap64 (t117 + t118)) = 0 then ((weighhouselaw03_Ints.f k t106 (([1, 2, 0] : List Int))).bind fun t122 => (if t122 = true then ((weighhouselaw03_Ints.f k bt113.1 (([2, 2, 0] : List Int))).bind fun t126 => (some t126)) else (some false))) else (some false))))) = some r := H
  have A1 := Aside0.mk A10
  clear A10
  obtain ⟨y110, hy110⟩ : ∃ y_ : List (S31), y_ = (([(⟨51, 1⟩ : S31), (⟨52, 0⟩ : S31), (⟨50, 0⟩ : S31)] : List (S31))) := ⟨_, rfl⟩
  replace H : ((shape_Match.f y110).bind fun bt113 => ((weighhouselaw06_num.f t107).bind fun t117 => ((weighhouselaw06_num.f bt113.2).bind fun t118 => (if (wrap64 (t117 + t118)) = 0 then ((weighhouselaw03_Ints.f k t106 (([1, 2, 0] : List Int))).bind fun t122 => (if t122 = true then ((weighhouselaw03_Ints.f k bt113.1 (([2, 2, 0] : List Int))).bind fun t126 => (some t126)) else (some false))) else (some false))))) = some r := by first | (rw [hy110]; with_reducible exact H) | (have H2_ := (Option.bind_some _ _).symm.trans H; rw [hy110]; with_reducible exact H2_) | (have H2_ := (Option.bind_some _ _).symm.trans H; with_reducible exact H2_) | with_reducible exact H | (rw [hy110]; exact H) | exact H
  have Ny110 := Aside0.mk hy110
  clear hy110
  replace H := Option.bind_eq_some_iff.mp H
  obtain ⟨⟨t113, t114⟩, A20, H⟩ := H
  replace H : ((weighhouselaw06_num.f t107).bind fun t117 => ((weighhouselaw06_num.f t114).bind fun t118 => (if (wrap64 (t117 + t118)) = 0 then ((weighhouselaw03_Ints.f k t106 (([1, 2, 0] : List Int))).bind fun t122 => (if t122 = true then ((weighhouselaw03_Ints.f k t113 (([2, 2, 0] : List Int))).bind fun t126 => (some t126)) else (some false))) else (some false)))) = some r := H
  have A2 := Aside0.mk A20
  clear A20
  replace H := Option.bind_eq_some_iff.mp H
  obtain ⟨t117, A30, H⟩ := H
  replace H : ((weighhouselaw06_num.f t114).bind fun t118 => (if (wrap64 (t117 + t118)) = 0 then ((weighhouselaw03_Ints.f k t106 (([1, 2, 0] : List Int))).bind fun t122 => (if t122 = true then ((weighhouselaw03_Ints.f k t113 (([2, 2, 0] : List Int))).bind fun t126 => (some t126)) else (some false))) else (some false))) = some r := H
  have A3 := Aside0.mk A30
  clear A30
  replace H := Option.bind_eq_some_iff.mp H
  obtain ⟨t118, A40, H⟩ := H
  replace H : (if (wrap64 (t117 + t118)) = 0 then ((weighhouselaw03_Ints.f k t106 (([1, 2, 0] : List Int))).bind fun t122 => (if t122 = true then ((weighhouselaw03_Ints.f k t113 (([2, 2, 0] : List Int))).bind fun t126 => (some t126)) else (some false))) else (some false)) = some r := H
  have A4 := Aside0.mk A40
  clear A40
  by_cases c5 : (wrap64 (t117 + t118)) = 0
  · rw [if_pos c5] at H
    have c5b0 : ((wrap64 (t117 + t118)) == 0) = true := beq_iff_eq.mpr c5
    have c5b1 : ((wrap64 (t117 + t118)) != 0) = false := bne_eq_false_iff_eq.mpr c5
    clear c5
    obtain ⟨y119, hy119⟩ : ∃ y_ : List Int, y_ = (([1, 2, 0] : List Int)) := ⟨_, rfl⟩
    replace H : ((weighhouselaw03_Ints.f k t106 y119).bind fun t122 => (if t122 = true then ((weighhouselaw03_Ints.f k t113 (([2, 2, 0] : List Int))).bind fun t126 => (some t126)) else (some false))) = some r := by first | (rw [hy119]; with_reducible exact H) | (have H2_ := (Option.bind_some _ _).symm.trans H; rw [hy119]; with_reducible exact H2_) | (have H2_ := (Option.bind_some _ _).symm.trans H; with_reducible exact H2_) | with_reducible exact H | (rw [hy119]; exact H) | exact H
    have Ny119 := Aside0.mk hy119
    clear hy119
    replace H := Option.bind_eq_some_iff.mp H
    obtain ⟨t122, A60, H⟩ := H
    replace H : (if t122 = true then ((weighhouselaw03_Ints.f k t113 (([2, 2, 0] : List Int))).bind fun t126 => (some t126)) else (some false)) = some r := H
    have A6 := Aside0.mk A60
    clear A60
    by_cases c7 : t122 = true
    · subst c7
      have H1 : ((weighhouselaw03_Ints.f k t113 (([2, 2, 0] : List Int))).bind fun t126 => (some t126)) = some r := by rw [if_pos rfl] at H; exact H
      clear H
      have H := H1
      clear H1
      obtain ⟨y123, hy123⟩ : ∃ y_ : List Int, y_ = (([2, 2, 0] : List Int)) := ⟨_, rfl⟩
      replace H : ((weighhouselaw03_Ints.f k t113 y123).bind fun t126 => (some t126)) = some r := by first | (rw [hy123]; with_reducible exact H) | (have H2_ := (Option.bind_some _ _).symm.trans H; rw [hy123]; with_reducible exact H2_) | (have H2_ := (Option.bind_some _ _).symm.trans H; with_reducible exact H2_) | with_reducible exact H | (rw [hy123]; exact H) | exact H
      have Ny123 := Aside0.mk hy123
      clear hy123
      replace H := Option.bind_eq_some_iff.mp H
      obtain ⟨t126, A80, H⟩ := H
      replace H : (some t126) = some r := H
      have A8 := Aside0.mk A80
      clear A80
      obtain rfl := Option.some.inj H
      go_enter Try.func9, Try.ntmps9
      go_wp2_with (first | ((with_reducible refine gate_dst (N := 9) rfl ?_); (try (refine gate_guard (by rfl) ?_; dsimp only)); refine Kd.R_lit k31 _ 31 ?hg (N := 9) ?hd (xs := ([(⟨48, 0⟩ : S31), (⟨49, 0⟩ : S31), (⟨50, 0⟩ : S31)] : List (S31))) (inner := [.int .i64 48, .int .i64 0, .int .i64 49, .int .i64 0, .int .i64 50, .int .i64 0]) (ok := fun _ => True) (okp := fun _ => True) ?hr ?hp (fun _ hk => hk) trivial (Below.refl _ _) (Nat.le_refl _) (by simp) ?_; (case hd => rfl); (case hg => rfl); (case hr => first | (go_simp; done) | (go_simp; rfl)); (case hp => exact (Reps.c2 (show Kd.M k31 _ _ _ (⟨48, 0⟩ : S31) [.int .i64 48, .int .i64 0] from (k31_mkM _ _ _ (⟨48, 0⟩ : S31) )) (Reps.c2 (show Kd.M k31 _ _ _ (⟨49, 0⟩ : S31) [.int .i64 49, .int .i64 0] from (k31_mkM _ _ _ (⟨49, 0⟩ : S31) )) (Reps.c2 (show Kd.M k31 _ _ _ (⟨50, 0⟩ : S31) [.int .i64 50, .int .i64 0] from (k31_mkM _ _ _ (⟨50, 0⟩ : S31) )) (Reps.none _ _))))); intro v104 w9 ho10 hb hg_ hnew_; clear hg_ hnew_; (first | rw [← Ny103.out] at ho10 | (simp only [Int.reduceToNat] at ho10; rw [← Ny103.out] at ho10)); have n0_ := Aside0.mk (Kd.R_lower ho10 (below_size (by repeat (first | (with_reducible first | exact HB.out | apply below_alloc | apply pw_below_drewN | apply below_drew1) | exact HB.out)))); have n1_ := Aside0.mk (below_step (by repeat (first | (with_reducible first | exact HB.out | apply below_alloc | apply pw_below_drewN | apply below_drew1) | exact HB.out)) hb); clear HB; have HO105 := n0_; have HB := n1_; clear n0_ n1_; clear hb ho10; obtain ⟨Ao11, co11, eo11⟩ := Kd.R_slice HO105.out; subst eo11) | ((with_reducible refine gate_callee (f := 10) rfl ?_); refine goesL_ (some 10) rfl rfl Try.func10 (by kernel_rfl) rfl #[.slice Ao11 y103.length co11] rfl (by (try simp only [List.map_toArray, List.map_cons, List.map_nil]); first | done | rfl | (simp only [List.length_drop, List.length_take]; rfl)) ?_; (with_reducible refine (shape_Match.calls _ _ y103 t106 t107 _ ?side1 ?side2 A1.out).mono ?_); (case side1 => repeat (first | exact (Kd.R_reads' HO105.out).2.2 | (with_reducible refine Kd.C_alloc ?_ _) | (with_reducible refine Kd.C_drewN ?_ _) | (with_reducible refine Kd.C_drew ?_))); (case side2 => exact (Kd.R_reads' HO105.out).2.1); rintro e w12 ⟨v108, rfl, ho0, hb⟩; refine ⟨_, rfl, ?_⟩; have n0_ := Aside0.mk (Kd.R_below (by (with_reducible repeat (first | apply Kd.R_alloc | apply Kd.R_drewN | apply Kd.R_drew)); exact HO105.out) hb); have n1_ := Aside0.mk (Kd.R_lower ho0 (below_size (by repeat (first | (with_reducible first | exact HB.out | apply below_alloc | apply pw_below_drewN | apply below_drew1) | exact HB.out)))); have n2_ := Aside0.mk (below_step (by repeat (first | (with_reducible first | exact HB.out | apply below_alloc | apply pw_below_drewN | apply below_drew1) | exact HB.out)) hb); clear HO105; clear HB; have HO105 := n0_; have HO109 := n1_; have HB := n2_; clear n0_ n1_ n2_; (try clear hb); (try clear hb2); (try clear hk); (try clear hi); (try clear ho0)) | ((with_reducible refine gate_dst (N := 17) rfl ?_); (try (refine gate_guard (by rfl) ?_; dsimp only)); refine Kd.R_lit k31 _ 31 ?hg (N := 17) ?hd (xs := ([(⟨51, 1⟩ : S31), (⟨52, 0⟩ : S31), (⟨50, 0⟩ : S31)] : List (S31))) (inner := [.int .i64 51, .int .i64 1, .int .i64 52, .int .i64 0, .int .i64 50, .int .i64 0]) (ok := fun _ => True) (okp := fun _ => True) ?hr ?hp (fun _ hk => hk) trivial (Below.refl _ _) (Nat.le_refl _) (by simp) ?_; (case hd => rfl); (case hg => rfl); (case hr => first | (go_simp; done) | (go_simp; rfl)); (case hp => exact (Reps.c2 (show Kd.M k31 _ _ _ (⟨51, 1⟩ : S31) [.int .i64 51, .int .i64 1] from (k31_mkM _ _ _ (⟨51, 1⟩ : S31) )) (Reps.c2 (show Kd.M k31 _ _ _ (⟨52, 0⟩ : S31) [.int .i64 52, .int .i64 0] from (k31_mkM _ _ _ (⟨52, 0⟩ : S31) )) (Reps.c2 (show Kd.M k31 _ _ _ (⟨50, 0⟩ : S31) [.int .i64 50, .int .i64 0] from (k31_mkM _ _ _ (⟨50, 0⟩ : S31) )) (Reps.none _ _))))); intro v111 w13 ho14 hb hg_ hnew_; clear hg_ hnew_; (first | rw [← Ny110.out] at ho14 | (simp only [Int.reduceToNat] at ho14; rw [← Ny110.out] at ho14)); have n0_ := Aside0.mk (Kd.R_elder' (by (with_reducible repeat (first | apply Kd.R_alloc | apply Kd.R_drewN | apply Kd.R_drew)); exact HO105.out) (Kd.R_base ho14) hb); have n1_ := Aside0.mk (Kd.R_below (by (with_reducible repeat (first | apply Kd.R_alloc | apply Kd.R_drewN | apply Kd.R_drew)); exact HO109.out) hb); have n2_ := Aside0.mk (Kd.R_lower (Kd.R_new' ho14 (Kd.R_lt (by (with_reducible repeat (first | apply Kd.R_alloc | apply Kd.R_drewN | apply Kd.R_drew)); exact HO105.out))) (below_size (by repeat (first | (with_reducible first | exact HB.out | apply below_alloc | apply pw_below_drewN | apply below_drew1) | exact HB.out)))); have n3_ := Aside0.mk (below_step (by repeat (first | (with_reducible first | exact HB.out | apply below_alloc | apply pw_below_drewN | apply below_drew1) | exact HB.out)) hb); clear HO105; clear HO109; clear HB; have HO105 := n0_; have HO109 := n1_; have HO112 := n2_; have HB := n3_; clear n0_ n1_ n2_ n3_; clear hb ho14; obtain ⟨Ao15, co15, eo15⟩ := Kd.R_slice HO112.out; subst eo15) | ((with_reducible refine gate_callee (f := 10) rfl ?_); refine goesL_ (some 18) rfl rfl Try.func10 (by kernel_rfl) rfl #[.slice Ao15 y110.length co15] rfl (by (try simp only [List.map_toArray, List.map_cons, List.map_nil]); first | done | rfl | (simp only [List.length_drop, List.length_take]; rfl)) ?_; (with_reducible refine (shape_Match.calls _ _ y110 t113 t114 _ ?side1 ?side2 A2.out).mono ?_); (case side1 => repeat (first | exact (Kd.R_reads' HO112.out).2.2 | (with_reducible refine Kd.C_alloc ?_ _) | (with_reducible refine Kd.C_drewN ?_ _) | (with_reducible refine Kd.C_drew ?_))); (case side2 => exact (Kd.R_reads' HO112.out).2.1); rintro e w16 ⟨v115, rfl, ho0, hb⟩; refine ⟨_, rfl, ?_⟩; have n0_ := Aside0.mk (Kd.R_below (by (with_reducible repeat (first | apply Kd.R_alloc | apply Kd.R_drewN | apply Kd.R_drew)); exact HO105.out) hb); have n1_ := Aside0.mk (Kd.R_elder' (by (with_reducible repeat (first | apply Kd.R_alloc | apply Kd.R_drewN | apply Kd.R_drew)); exact HO109.out) (Kd.R_base ho0) hb); have n2_ := Aside0.mk (Kd.R_below (by (with_reducible repeat (first | apply Kd.R_alloc | apply Kd.R_drewN | apply Kd.R_drew)); exact HO112.out) hb); have n3_ := Aside0.mk (Kd.R_lower (Kd.R_new' ho0 (Kd.R_lt (by (with_reducible repeat (first | apply Kd.R_alloc | apply Kd.R_drewN | apply Kd.R_drew)); exact HO109.out))) (below_size (by repeat (first | (with_reducible first | exact HB.out | apply below_alloc | apply pw_below_drewN | apply below_drew1) | exact HB.out)))); have n4_ := Aside0.mk (below_step (by repeat (first | (with_reducible first | exact HB.out | apply below_alloc | apply pw_below_drewN | apply below_drew1) | exact HB.out)) hb); clear HO105; clear HO109; clear HO112; clear HB; have HO105 := n0_; have HO109 := n1_; have HO112 := n2_; have HO116 := n3_; have HB := n4_; clear n0_ n1_ n2_ n3_ n4_; (try clear hb); (try clear hb2); (try clear hk); (try clear hi); (try clear ho0)) | ((with_reducible refine gate_callee (f := 12) rfl ?_); refine goesL_ (some 22) rfl rfl Try.func12 (by kernel_rfl) rfl #[.int .i64 t107] rfl (by (try simp only [List.map_toArray, List.map_cons, List.map_nil]); first | done | rfl | (simp only [List.length_drop, List.length_take]; rfl)) ?_; (with_reducible refine (weighhouselaw06_num.calls t107 t117 _ A3.out).mono ?_); rintro e w' ⟨rfl, ⟨nd, rfl⟩⟩; refine ⟨_, rfl, ?_⟩) | ((with_reducible refine gate_callee (f := 12) rfl ?_); refine goesL_ (some 24) rfl rfl Try.func12 (by kernel_rfl) rfl #[.int .i64 t114] rfl (by (try simp only [List.map_toArray, List.map_cons, List.map_nil]); first | done | rfl | (simp only [List.length_drop, List.length_take]; rfl)) ?_; (with_reducible refine (weighhouselaw06_num.calls t114 t118 _ A4.out).mono ?_); rintro e w' ⟨rfl, ⟨nd, rfl⟩⟩; refine ⟨_, rfl, ?_⟩) | ((with_reducible refine gate_dst (N := 29) rfl ?_); (try (refine gate_guard (by rfl) ?_; dsimp only)); refine Kd.R_lit (Kd.int .i64) _ 3 ?hg (N := 29) ?hd (xs := ([1, 2, 0] : List Int)) (inner := [.int .i64 1, .int .i64 2, .int .i64 0]) (ok := fun _ => True) (okp := fun _ => True) ?hr ?hp (fun _ hk => hk) trivial (Below.refl _ _) (Nat.le_refl _) (by simp) ?_; (case hd => rfl); (case hg => rfl); (case hr => first | (go_simp; done) | (go_simp; rfl)); (case hp => exact (Reps.one (show Kd.M (Kd.int .i64) _ _ _ 1 [.int .i64 1] from rfl) (Reps.one (show Kd.M (Kd.int .i64) _ _ _ 2 [.int .i64 2] from rfl) (Reps.one (show Kd.M (Kd.int .i64) _ _ _ 0 [.int .i64 0] from rfl) (Reps.none _ _))))); intro v120 w17 ho18 hb hg_ hnew_; clear hg_ hnew_; (first | rw [← Ny119.out] at ho18 | (simp only [Int.reduceToNat] at ho18; rw [← Ny119.out] at ho18)); have n0_ := Aside0.mk (Kd.R_below (by (with_reducible repeat (first | apply Kd.R_alloc | apply Kd.R_drewN | apply Kd.R_drew)); exact HO105.out) hb); have n1_ := Aside0.mk (Kd.R_elder' (by (with_reducible repeat (first | apply Kd.R_alloc | apply Kd.R_drewN | apply Kd.R_drew)); exact HO109.out) (Kd.R_base ho18) hb); have n2_ := Aside0.mk (Kd.R_below (by (with_reducible repeat (first | apply Kd.R_alloc | apply Kd.R_drewN | apply Kd.R_drew)); exact HO112.out) hb); have n3_ := Aside0.mk (Kd.R_elder' (by (with_reducible repeat (first | apply Kd.R_alloc | apply Kd.R_drewN | apply Kd.R_drew)); exact HO116.out) (Kd.R_base ho18) hb); have n4_ := Aside0.mk (Kd.R_lower (Kd.R_new' (Kd.R_new' ho18 (Kd.R_lt (by (with_reducible repeat (first | apply Kd.R_alloc | apply Kd.R_drewN | apply Kd.R_drew)); exact HO109.out))) (Kd.R_lt (by (with_reducible repeat (first | apply Kd.R_alloc | apply Kd.R_drewN | apply Kd.R_drew)); exact HO116.out))) (below_size (by repeat (first | (with_reducible first | exact HB.out | apply below_alloc | apply pw_below_drewN | apply below_drew1) | exact HB.out)))); have n5_ := Aside0.mk (below_step (by repeat (first | (with_reducible first | exact HB.out | apply below_alloc | apply pw_below_drewN | apply below_drew1) | exact HB.out)) hb); clear HO105; clear HO109; clear HO112; clear HO116; clear HB; have HO105 := n0_; have HO109 := n1_; have HO112 := n2_; have HO116 := n3_; have HO121 := n4_; have HB := n5_; clear n0_ n1_ n2_ n3_ n4_ n5_; clear hb ho18; obtain ⟨Ao19, co19, eo19⟩ := Kd.R_slice HO109.out; subst eo19; obtain ⟨Ao20, co20, eo20⟩ := Kd.R_slice HO121.out; subst eo20) | (go_at_call 18; (with_reducible refine (weighhouselaw03_Ints.calls k _ _ t106 _ _ y119 true _ ?side1 ?side2 ?side3 ?side4 A6.out).mono ?_); (case side1 => repeat (first | exact (Kd.R_reads' HO109.out).2.2 | (with_reducible refine Kd.C_alloc ?_ _) | (with_reducible refine Kd.C_drewN ?_ _) | (with_reducible refine Kd.C_drew ?_))); (case side2 => exact (Kd.R_reads' HO109.out).2.1); (case side3 => repeat (first | exact (Kd.R_reads' HO121.out).2.2 | (with_reducible refine Kd.C_alloc ?_ _) | (with_reducible refine Kd.C_drewN ?_ _) | (with_reducible refine Kd.C_drew ?_))); (case side4 => exact (Kd.R_reads' HO121.out).2.1); rintro e w' ⟨rfl, ⟨nd, rfl⟩⟩) | ((with_reducible refine gate_dst (N := 34) rfl ?_); (try (refine gate_guard (by rfl) ?_; dsimp only)); refine Kd.R_lit (Kd.int .i64) _ 3 ?hg (N := 34) ?hd (xs := ([2, 2, 0] : List Int)) (inner := [.int .i64 2, .int .i64 2, .int .i64 0]) (ok := fun _ => True) (okp := fun _ => True) ?hr ?hp (fun _ hk => hk) trivial (Below.refl _ _) (Nat.le_refl _) (by simp) ?_; (case hd => rfl); (case hg => rfl); (case hr => first | (go_simp; done) | (go_simp; rfl)); (case hp => exact (Reps.one (show Kd.M (Kd.int .i64) _ _ _ 2 [.int .i64 2] from rfl) (Reps.one (show Kd.M (Kd.int .i64) _ _ _ 2 [.int .i64 2] from rfl) (Reps.one (show Kd.M (Kd.int .i64) _ _ _ 0 [.int .i64 0] from rfl) (Reps.none _ _))))); intro v124 w21 ho22 hb hg_ hnew_; clear hg_ hnew_; (first | rw [← Ny123.out] at ho22 | (simp only [Int.reduceToNat] at ho22; rw [← Ny123.out] at ho22)); have n0_ := Aside0.mk (Kd.R_below (by (with_reducible repeat (first | apply Kd.R_alloc | apply Kd.R_drewN | apply Kd.R_drew)); exact HO105.out) hb); have n1_ := Aside0.mk (Kd.R_elder' (by (with_reducible repeat (first | apply Kd.R_alloc | apply Kd.R_drewN | apply Kd.R_drew)); exact HO109.out) (Kd.R_base ho22) hb); have n2_ := Aside0.mk (Kd.R_below (by (with_reducible repeat (first | apply Kd.R_alloc | apply Kd.R_drewN | apply Kd.R_drew)); exact HO112.out) hb); have n3_ := Aside0.mk (Kd.R_elder' (by (with_reducible repeat (first | apply Kd.R_alloc | apply Kd.R_drewN | apply Kd.R_drew)); exact HO116.out) (Kd.R_base ho22) hb); have n4_ := Aside0.mk (Kd.R_elder' (by (with_reducible repeat (first | apply Kd.R_alloc | apply Kd.R_drewN | apply Kd.R_drew)); exact HO121.out) (Kd.R_base ho22) hb); have n5_ := Aside0.mk (Kd.R_lower (Kd.R_new' (Kd.R_new' (Kd.R_new' ho22 (Kd.R_lt (by (with_reducible repeat (first | apply Kd.R_alloc | apply Kd.R_drewN | apply Kd.R_drew)); exact HO109.out))) (Kd.R_lt (by (with_reducible repeat (first | apply Kd.R_alloc | apply Kd.R_drewN | apply Kd.R_drew)); exact HO116.out))) (Kd.R_lt (by (with_reducible repeat (first | apply Kd.R_alloc | apply Kd.R_drewN | apply Kd.R_drew)); exact HO121.out))) (below_size (by repeat (first | (with_reducible first | exact HB.out | apply below_alloc | apply pw_below_drewN | apply below_drew1) | exact HB.out)))); have n6_ := Aside0.mk (below_step (by repeat (first | (with_reducible first | exact HB.out | apply below_alloc | apply pw_below_drewN | apply below_drew1) | exact HB.out)) hb); clear HO105; clear HO109; clear HO112; clear HO116; clear HO121; clear HB; have HO105 := n0_; have HO109 := n1_; have HO112 := n2_; have HO116 := n3_; have HO121 := n4_; have HO125 := n5_; have HB := n6_; clear n0_ n1_ n2_ n3_ n4_ n5_ n6_; clear hb ho22; obtain ⟨Ao23, co23, eo23⟩ := Kd.R_slice HO116.out; subst eo23; obtain ⟨Ao24, co24, eo24⟩ := Kd.R_slice HO125.out; subst eo24) | (go_at_call 18; (with_reducible refine (weighhouselaw03_Ints.calls k _ _ t113 _ _ y123 t126 _ ?side1 ?side2 ?side3 ?side4 A8.out).mono ?_); (case side1 => repeat (first | exact (Kd.R_reads' HO116.out).2.2 | (with_reducible refine Kd.C_alloc ?_ _) | (with_reducible refine Kd.C_drewN ?_ _) | (with_reducible refine Kd.C_drew ?_))); (case side2 => exact (Kd.R_reads' HO116.out).2.1); (case side3 => repeat (first | exact (Kd.R_reads' HO125.out).2.2 | (with_reducible refine Kd.C_alloc ?_ _) | (with_reducible refine Kd.C_drewN ?_ _) | (with_reducible refine Kd.C_drew ?_))); (case side4 => exact (Kd.R_reads' HO125.out).2.1); rintro e w' ⟨rfl, ⟨nd, rfl⟩⟩))
      go_ret
      exact ⟨by first | rfl | (simp [errW_none, errW_some] <;> rfl) | (simp [*, errW_none, errW_some] <;> rfl), by repeat (first | (with_reducible first | exact HB.out | apply below_alloc | apply pw_below_drewN | apply below_drew1) | exact HB.out)⟩
    · replace c7 := Bool.eq_false_iff.mpr c7
      subst c7
      have H1 : (some false) = some r := by rw [if_neg (show ¬ (false = true) by decide)] at H; exact H
      clear H
      have H := H1
      clear H1
      obtain rfl := Option.some.inj H
      go_enter Try.func9, Try.ntmps9
      go_wp2_with (first | ((with_reducible refine gate_dst (N := 9) rfl ?_); (try (refine gate_guard (by rfl) ?_; dsimp only)); refine Kd.R_lit k31 _ 31 ?hg (N := 9) ?hd (xs := ([(⟨48, 0⟩ : S31), (⟨49, 0⟩ : S31), (⟨50, 0⟩ : S31)] : List (S31))) (inner := [.int .i64 48, .int .i64 0, .int .i64 49, .int .i64 0, .int .i64 50, .int .i64 0]) (ok := fun _ => True) (okp := fun _ => True) ?hr ?hp (fun _ hk => hk) trivial (Below.refl _ _) (Nat.le_refl _) (by simp) ?_; (case hd => rfl); (case hg => rfl); (case hr => first | (go_simp; done) | (go_simp; rfl)); (case hp => exact (Reps.c2 (show Kd.M k31 _ _ _ (⟨48, 0⟩ : S31) [.int .i64 48, .int .i64 0] from (k31_mkM _ _ _ (⟨48, 0⟩ : S31) )) (Reps.c2 (show Kd.M k31 _ _ _ (⟨49, 0⟩ : S31) [.int .i64 49, .int .i64 0] from (k31_mkM _ _ _ (⟨49, 0⟩ : S31) )) (Reps.c2 (show Kd.M k31 _ _ _ (⟨50, 0⟩ : S31) [.int .i64 50, .int .i64 0] from (k31_mkM _ _ _ (⟨50, 0⟩ : S31) )) (Reps.none _ _))))); intro v104 w25 ho26 hb hg_ hnew_; clear hg_ hnew_; (first | rw [← Ny103.out] at ho26 | (simp only [Int.reduceToNat] at ho26; rw [← Ny103.out] at ho26)); have n0_ := Aside0.mk (Kd.R_lower ho26 (below_size (by repeat (first | (with_reducible first | exact HB.out | apply below_alloc | apply pw_below_drewN | apply below_drew1) | exact HB.out)))); have n1_ := Aside0.mk (below_step (by repeat (first | (with_reducible first | exact HB.out | apply below_alloc | apply pw_below_drewN | apply below_drew1) | exact HB.out)) hb); clear HB; have HO105 := n0_; have HB := n1_; clear n0_ n1_; clear hb ho26; obtain ⟨Ao27, co27, eo27⟩ := Kd.R_slice HO105.out; subst eo27) | ((with_reducible refine gate_callee (f := 10) rfl ?_); refine goesL_ (some 10) rfl rfl Try.func10 (by kernel_rfl) rfl #[.slice Ao27 y103.length co27] rfl (by (try simp only [List.map_toArray, List.map_cons, List.map_nil]); first | done | rfl | (simp only [List.length_drop, List.length_take]; rfl)) ?_; (with_reducible refine (shape_Match.calls _ _ y103 t106 t107 _ ?side1 ?side2 A1.out).mono ?_); (case side1 => repeat (first | exact (Kd.R_reads' HO105.out).2.2 | (with_reducible refine Kd.C_alloc ?_ _) | (with_reducible refine Kd.C_drewN ?_ _) | (with_reducible refine Kd.C_drew ?_))); (case side2 => exact (Kd.R_reads' HO105.out).2.1); rintro e w28 ⟨v108, rfl, ho0, hb⟩; refine ⟨_, rfl, ?_⟩; have n0_ := Aside0.mk (Kd.R_below (by (with_reducible repeat (first | apply Kd.R_alloc | apply Kd.R_drewN | apply Kd.R_drew)); exact HO105.out) hb); have n1_ := Aside0.mk (Kd.R_lower ho0 (below_size (by repeat (first | (with_reducible first | exact HB.out | apply below_alloc | apply pw_below_drewN | apply below_drew1) | exact HB.out)))); have n2_ := Aside0.mk (below_step (by repeat (first | (with_reducible first | exact HB.out | apply below_alloc | apply pw_below_drewN | apply below_drew1) | exact HB.out)) hb); clear HO105; clear HB; have HO105 := n0_; have HO109 := n1_; have HB := n2_; clear n0_ n1_ n2_; (try clear hb); (try clear hb2); (try clear hk); (try clear hi); (try clear ho0)) | ((with_reducible refine gate_dst (N := 17) rfl ?_); (try (refine gate_guard (by rfl) ?_; dsimp only)); refine Kd.R_lit k31 _ 31 ?hg (N := 17) ?hd (xs := ([(⟨51, 1⟩ : S31), (⟨52, 0⟩ : S31), (⟨50, 0⟩ : S31)] : List (S31))) (inner := [.int .i64 51, .int .i64 1, .int .i64 52, .int .i64 0, .int .i64 50, .int .i64 0]) (ok := fun _ => True) (okp := fun _ => True) ?hr ?hp (fun _ hk => hk) trivial (Below.refl _ _) (Nat.le_refl _) (by simp) ?_; (case hd => rfl); (case hg => rfl); (case hr => first | (go_simp; done) | (go_simp; rfl)); (case hp => exact (Reps.c2 (show Kd.M k31 _ _ _ (⟨51, 1⟩ : S31) [.int .i64 51, .int .i64 1] from (k31_mkM _ _ _ (⟨51, 1⟩ : S31) )) (Reps.c2 (show Kd.M k31 _ _ _ (⟨52, 0⟩ : S31) [.int .i64 52, .int .i64 0] from (k31_mkM _ _ _ (⟨52, 0⟩ : S31) )) (Reps.c2 (show Kd.M k31 _ _ _ (⟨50, 0⟩ : S31) [.int .i64 50, .int .i64 0] from (k31_mkM _ _ _ (⟨50, 0⟩ : S31) )) (Reps.none _ _))))); intro v111 w29 ho30 hb hg_ hnew_; clear hg_ hnew_; (first | rw [← Ny110.out] at ho30 | (simp only [Int.reduceToNat] at ho30; rw [← Ny110.out] at ho30)); have n0_ := Aside0.mk (Kd.R_elder' (by (with_reducible repeat (first | apply Kd.R_alloc | apply Kd.R_drewN | apply Kd.R_drew)); exact HO105.out) (Kd.R_base ho30) hb); have n1_ := Aside0.mk (Kd.R_below (by (with_reducible repeat (first | apply Kd.R_alloc | apply Kd.R_drewN | apply Kd.R_drew)); exact HO109.out) hb); have n2_ := Aside0.mk (Kd.R_lower (Kd.R_new' ho30 (Kd.R_lt (by (with_reducible repeat (first | apply Kd.R_alloc | apply Kd.R_drewN | apply Kd.R_drew)); exact HO105.out))) (below_size (by repeat (first | (with_reducible first | exact HB.out | apply below_alloc | apply pw_below_drewN | apply below_drew1) | exact HB.out)))); have n3_ := Aside0.mk (below_step (by repeat (first | (with_reducible first | exact HB.out | apply below_alloc | apply pw_below_drewN | apply below_drew1) | exact HB.out)) hb); clear HO105; clear HO109; clear HB; have HO105 := n0_; have HO109 := n1_; have HO112 := n2_; have HB := n3_; clear n0_ n1_ n2_ n3_; clear hb ho30; obtain ⟨Ao31, co31, eo31⟩ := Kd.R_slice HO112.out; subst eo31) | ((with_reducible refine gate_callee (f := 10) rfl ?_); refine goesL_ (some 18) rfl rfl Try.func10 (by kernel_rfl) rfl #[.slice Ao31 y110.length co31] rfl (by (try simp only [List.map_toArray, List.map_cons, List.map_nil]); first | done | rfl | (simp only [List.length_drop, List.length_take]; rfl)) ?_; (with_reducible refine (shape_Match.calls _ _ y110 t113 t114 _ ?side1 ?side2 A2.out).mono ?_); (case side1 => repeat (first | exact (Kd.R_reads' HO112.out).2.2 | (with_reducible refine Kd.C_alloc ?_ _) | (with_reducible refine Kd.C_drewN ?_ _) | (with_reducible refine Kd.C_drew ?_))); (case side2 => exact (Kd.R_reads' HO112.out).2.1); rintro e w32 ⟨v115, rfl, ho0, hb⟩; refine ⟨_, rfl, ?_⟩; have n0_ := Aside0.mk (Kd.R_below (by (with_reducible repeat (first | apply Kd.R_alloc | apply Kd.R_drewN | apply Kd.R_drew)); exact HO105.out) hb); have n1_ := Aside0.mk (Kd.R_elder' (by (with_reducible repeat (first | apply Kd.R_alloc | apply Kd.R_drewN | apply Kd.R_drew)); exact HO109.out) (Kd.R_base ho0) hb); have n2_ := Aside0.mk (Kd.R_below (by (with_reducible repeat (first | apply Kd.R_alloc | apply Kd.R_drewN | apply Kd.R_drew)); exact HO112.out) hb); have n3_ := Aside0.mk (Kd.R_lower (Kd.R_new' ho0 (Kd.R_lt (by (with_reducible repeat (first | apply Kd.R_alloc | apply Kd.R_drewN | apply Kd.R_drew)); exact HO109.out))) (below_size (by repeat (first | (with_reducible first | exact HB.out | apply below_alloc | apply pw_below_drewN | apply below_drew1) | exact HB.out)))); have n4_ := Aside0.mk (below_step (by repeat (first | (with_reducible first | exact HB.out | apply below_alloc | apply pw_below_drewN | apply below_drew1) | exact HB.out)) hb); clear HO105; clear HO109; clear HO112; clear HB; have HO105 := n0_; have HO109 := n1_; have HO112 := n2_; have HO116 := n3_; have HB := n4_; clear n0_ n1_ n2_ n3_ n4_; (try clear hb); (try clear hb2); (try clear hk); (try clear hi); (try clear ho0)) | ((with_reducible refine gate_callee (f := 12) rfl ?_); refine goesL_ (some 22) rfl rfl Try.func12 (by kernel_rfl) rfl #[.int .i64 t107] rfl (by (try simp only [List.map_toArray, List.map_cons, List.map_nil]); first | done | rfl | (simp only [List.length_drop, List.length_take]; rfl)) ?_; (with_reducible refine (weighhouselaw06_num.calls t107 t117 _ A3.out).mono ?_); rintro e w' ⟨rfl, ⟨nd, rfl⟩⟩; refine ⟨_, rfl, ?_⟩) | ((with_reducible refine gate_callee (f := 12) rfl ?_); refine goesL_ (some 24) rfl rfl Try.func12 (by kernel_rfl) rfl #[.int .i64 t114] rfl (by (try simp only [List.map_toArray, List.map_cons, List.map_nil]); first | done | rfl | (simp only [List.length_drop, List.length_take]; rfl)) ?_; (with_reducible refine (weighhouselaw06_num.calls t114 t118 _ A4.out).mono ?_); rintro e w' ⟨rfl, ⟨nd, rfl⟩⟩; refine ⟨_, rfl, ?_⟩) | ((with_reducible refine gate_dst (N := 29) rfl ?_); (try (refine gate_guard (by rfl) ?_; dsimp only)); refine Kd.R_lit (Kd.int .i64) _ 3 ?hg (N := 29) ?hd (xs := ([1, 2, 0] : List Int)) (inner := [.int .i64 1, .int .i64 2, .int .i64 0]) (ok := fun _ => True) (okp := fun _ => True) ?hr ?hp (fun _ hk => hk) trivial (Below.refl _ _) (Nat.le_refl _) (by simp) ?_; (case hd => rfl); (case hg => rfl); (case hr => first | (go_simp; done) | (go_simp; rfl)); (case hp => exact (Reps.one (show Kd.M (Kd.int .i64) _ _ _ 1 [.int .i64 1] from rfl) (Reps.one (show Kd.M (Kd.int .i64) _ _ _ 2 [.int .i64 2] from rfl) (Reps.one (show Kd.M (Kd.int .i64) _ _ _ 0 [.int .i64 0] from rfl) (Reps.none _ _))))); intro v120 w33 ho34 hb hg_ hnew_; clear hg_ hnew_; (first | rw [← Ny119.out] at ho34 | (simp only [Int.reduceToNat] at ho34; rw [← Ny119.out] at ho34)); have n0_ := Aside0.mk (Kd.R_below (by (with_reducible repeat (first | apply Kd.R_alloc | apply Kd.R_drewN | apply Kd.R_drew)); exact HO105.out) hb); have n1_ := Aside0.mk (Kd.R_elder' (by (with_reducible repeat (first | apply Kd.R_alloc | apply Kd.R_drewN | apply Kd.R_drew)); exact HO109.out) (Kd.R_base ho34) hb); have n2_ := Aside0.mk (Kd.R_below (by (with_reducible repeat (first | apply Kd.R_alloc | apply Kd.R_drewN | apply Kd.R_drew)); exact HO112.out) hb); have n3_ := Aside0.mk (Kd.R_elder' (by (with_reducible repeat (first | apply Kd.R_alloc | apply Kd.R_drewN | apply Kd.R_drew)); exact HO116.out) (Kd.R_base ho34) hb); have n4_ := Aside0.mk (Kd.R_lower (Kd.R_new' (Kd.R_new' ho34 (Kd.R_lt (by (with_reducible repeat (first | apply Kd.R_alloc | apply Kd.R_drewN | apply Kd.R_drew)); exact HO109.out))) (Kd.R_lt (by (with_reducible repeat (first | apply Kd.R_alloc | apply Kd.R_drewN | apply Kd.R_drew)); exact HO116.out))) (below_size (by repeat (first | (with_reducible first | exact HB.out | apply below_alloc | apply pw_below_drewN | apply below_drew1) | exact HB.out)))); have n5_ := Aside0.mk (below_step (by repeat (first | (with_reducible first | exact HB.out | apply below_alloc | apply pw_below_drewN | apply below_drew1) | exact HB.out)) hb); clear HO105; clear HO109; clear HO112; clear HO116; clear HB; have HO105 := n0_; have HO109 := n1_; have HO112 := n2_; have HO116 := n3_; have HO121 := n4_; have HB := n5_; clear n0_ n1_ n2_ n3_ n4_ n5_; clear hb ho34; obtain ⟨Ao35, co35, eo35⟩ := Kd.R_slice HO109.out; subst eo35; obtain ⟨Ao36, co36, eo36⟩ := Kd.R_slice HO121.out; subst eo36) | (go_at_call 18; (with_reducible refine (weighhouselaw03_Ints.calls k _ _ t106 _ _ y119 false _ ?side1 ?side2 ?side3 ?side4 A6.out).mono ?_); (case side1 => repeat (first | exact (Kd.R_reads' HO109.out).2.2 | (with_reducible refine Kd.C_alloc ?_ _) | (with_reducible refine Kd.C_drewN ?_ _) | (with_reducible refine Kd.C_drew ?_))); (case side2 => exact (Kd.R_reads' HO109.out).2.1); (case side3 => repeat (first | exact (Kd.R_reads' HO121.out).2.2 | (with_reducible refine Kd.C_alloc ?_ _) | (with_reducible refine Kd.C_drewN ?_ _) | (with_reducible refine Kd.C_drew ?_))); (case side4 => exact (Kd.R_reads' HO121.out).2.1); rintro e w' ⟨rfl, ⟨nd, rfl⟩⟩))
      go_ret
      exact ⟨by first | rfl | (simp [errW_none, errW_some] <;> rfl) | (simp [*, errW_none, errW_some] <;> rfl), by repeat (first | (with_reducible first | exact HB.out | apply below_alloc | apply pw_below_drewN | apply below_drew1) | exact HB.out)⟩
  · rw [if_neg c5] at H
    have c5b0 : ((wrap64 (t117 + t118)) == 0) = false := beq_eq_false_iff_ne.mpr c5
    have c5b1 : ((wrap64 (t117 + t118)) != 0) = true := bne_iff_ne.mpr c5
    obtain rfl := Option.some.inj H
    go_enter Try.func9, Try.ntmps9
    go_wp2_with (first | ((with_reducible refine gate_dst (N := 9) rfl ?_); (try (refine gate_guard (by rfl) ?_; dsimp only)); refine Kd.R_lit k31 _ 31 ?hg (N := 9) ?hd (xs := ([(⟨48, 0⟩ : S31), (⟨49, 0⟩ : S31), (⟨50, 0⟩ : S31)] : List (S31))) (inner := [.int .i64 48, .int .i64 0, .int .i64 49, .int .i64 0, .int .i64 50, .int .i64 0]) (ok := fun _ => True) (okp := fun _ => True) ?hr ?hp (fun _ hk => hk) trivial (Below.refl _ _) (Nat.le_refl _) (by simp) ?_; (case hd => rfl); (case hg => rfl); (case hr => first | (go_simp; done) | (go_simp; rfl)); (case hp => exact (Reps.c2 (show Kd.M k31 _ _ _ (⟨48, 0⟩ : S31) [.int .i64 48, .int .i64 0] from (k31_mkM _ _ _ (⟨48, 0⟩ : S31) )) (Reps.c2 (show Kd.M k31 _ _ _ (⟨49, 0⟩ : S31) [.int .i64 49, .int .i64 0] from (k31_mkM _ _ _ (⟨49, 0⟩ : S31) )) (Reps.c2 (show Kd.M k31 _ _ _ (⟨50, 0⟩ : S31) [.int .i64 50, .int .i64 0] from (k31_mkM _ _ _ (⟨50, 0⟩ : S31) )) (Reps.none _ _))))); intro v104 w37 ho38 hb hg_ hnew_; clear hg_ hnew_; (first | rw [← Ny103.out] at ho38 | (simp only [Int.reduceToNat] at ho38; rw [← Ny103.out] at ho38)); have n0_ := Aside0.mk (Kd.R_lower ho38 (below_size (by repeat (first | (with_reducible first | exact HB.out | apply below_alloc | apply pw_below_drewN | apply below_drew1) | exact HB.out)))); have n1_ := Aside0.mk (below_step (by repeat (first | (with_reducible first | exact HB.out | apply below_alloc | apply pw_below_drewN | apply below_drew1) | exact HB.out)) hb); clear HB; have HO105 := n0_; have HB := n1_; clear n0_ n1_; clear hb ho38; obtain ⟨Ao39, co39, eo39⟩ := Kd.R_slice HO105.out; subst eo39) | ((with_reducible refine gate_callee (f := 10) rfl ?_); refine goesL_ (some 10) rfl rfl Try.func10 (by kernel_rfl) rfl #[.slice Ao39 y103.length co39] rfl (by (try simp only [List.map_toArray, List.map_cons, List.map_nil]); first | done | rfl | (simp only [List.length_drop, List.length_take]; rfl)) ?_; (with_reducible refine (shape_Match.calls _ _ y103 t106 t107 _ ?side1 ?side2 A1.out).mono ?_); (case side1 => repeat (first | exact (Kd.R_reads' HO105.out).2.2 | (with_reducible refine Kd.C_alloc ?_ _) | (with_reducible refine Kd.C_drewN ?_ _) | (with_reducible refine Kd.C_drew ?_))); (case side2 => exact (Kd.R_reads' HO105.out).2.1); rintro e w40 ⟨v108, rfl, ho0, hb⟩; refine ⟨_, rfl, ?_⟩; have n0_ := Aside0.mk (Kd.R_below (by (with_reducible repeat (first | apply Kd.R_alloc | apply Kd.R_drewN | apply Kd.R_drew)); exact HO105.out) hb); have n1_ := Aside0.mk (Kd.R_lower ho0 (below_size (by repeat (first | (with_reducible first | exact HB.out | apply below_alloc | apply pw_below_drewN | apply below_drew1) | exact HB.out)))); have n2_ := Aside0.mk (below_step (by repeat (first | (with_reducible first | exact HB.out | apply below_alloc | apply pw_below_drewN | apply below_drew1) | exact HB.out)) hb); clear HO105; clear HB; have HO105 := n0_; have HO109 := n1_; have HB := n2_; clear n0_ n1_ n2_; (try clear hb); (try clear hb2); (try clear hk); (try clear hi); (try clear ho0)) | ((with_reducible refine gate_dst (N := 17) rfl ?_); (try (refine gate_guard (by rfl) ?_; dsimp only)); refine Kd.R_lit k31 _ 31 ?hg (N := 17) ?hd (xs := ([(⟨51, 1⟩ : S31), (⟨52, 0⟩ : S31), (⟨50, 0⟩ : S31)] : List (S31))) (inner := [.int .i64 51, .int .i64 1, .int .i64 52, .int .i64 0, .int .i64 50, .int .i64 0]) (ok := fun _ => True) (okp := fun _ => True) ?hr ?hp (fun _ hk => hk) trivial (Below.refl _ _) (Nat.le_refl _) (by simp) ?_; (case hd => rfl); (case hg => rfl); (case hr => first | (go_simp; done) | (go_simp; rfl)); (case hp => exact (Reps.c2 (show Kd.M k31 _ _ _ (⟨51, 1⟩ : S31) [.int .i64 51, .int .i64 1] from (k31_mkM _ _ _ (⟨51, 1⟩ : S31) )) (Reps.c2 (show Kd.M k31 _ _ _ (⟨52, 0⟩ : S31) [.int .i64 52, .int .i64 0] from (k31_mkM _ _ _ (⟨52, 0⟩ : S31) )) (Reps.c2 (show Kd.M k31 _ _ _ (⟨50, 0⟩ : S31) [.int .i64 50, .int .i64 0] from (k31_mkM _ _ _ (⟨50, 0⟩ : S31) )) (Reps.none _ _))))); intro v111 w41 ho42 hb hg_ hnew_; clear hg_ hnew_; (first | rw [← Ny110.out] at ho42 | (simp only [Int.reduceToNat] at ho42; rw [← Ny110.out] at ho42)); have n0_ := Aside0.mk (Kd.R_elder' (by (with_reducible repeat (first | apply Kd.R_alloc | apply Kd.R_drewN | apply Kd.R_drew)); exact HO105.out) (Kd.R_base ho42) hb); have n1_ := Aside0.mk (Kd.R_below (by (with_reducible repeat (first | apply Kd.R_alloc | apply Kd.R_drewN | apply Kd.R_drew)); exact HO109.out) hb); have n2_ := Aside0.mk (Kd.R_lower (Kd.R_new' ho42 (Kd.R_lt (by (with_reducible repeat (first | apply Kd.R_alloc | apply Kd.R_drewN | apply Kd.R_drew)); exact HO105.out))) (below_size (by repeat (first | (with_reducible first | exact HB.out | apply below_alloc | apply pw_below_drewN | apply below_drew1) | exact HB.out)))); have n3_ := Aside0.mk (below_step (by repeat (first | (with_reducible first | exact HB.out | apply below_alloc | apply pw_below_drewN | apply below_drew1) | exact HB.out)) hb); clear HO105; clear HO109; clear HB; have HO105 := n0_; have HO109 := n1_; have HO112 := n2_; have HB := n3_; clear n0_ n1_ n2_ n3_; clear hb ho42; obtain ⟨Ao43, co43, eo43⟩ := Kd.R_slice HO112.out; subst eo43) | ((with_reducible refine gate_callee (f := 10) rfl ?_); refine goesL_ (some 18) rfl rfl Try.func10 (by kernel_rfl) rfl #[.slice Ao43 y110.length co43] rfl (by (try simp only [List.map_toArray, List.map_cons, List.map_nil]); first | done | rfl | (simp only [List.length_drop, List.length_take]; rfl)) ?_; (with_reducible refine (shape_Match.calls _ _ y110 t113 t114 _ ?side1 ?side2 A2.out).mono ?_); (case side1 => repeat (first | exact (Kd.R_reads' HO112.out).2.2 | (with_reducible refine Kd.C_alloc ?_ _) | (with_reducible refine Kd.C_drewN ?_ _) | (with_reducible refine Kd.C_drew ?_))); (case side2 => exact (Kd.R_reads' HO112.out).2.1); rintro e w44 ⟨v115, rfl, ho0, hb⟩; refine ⟨_, rfl, ?_⟩; have n0_ := Aside0.mk (Kd.R_below (by (with_reducible repeat (first | apply Kd.R_alloc | apply Kd.R_drewN | apply Kd.R_drew)); exact HO105.out) hb); have n1_ := Aside0.mk (Kd.R_elder' (by (with_reducible repeat (first | apply Kd.R_alloc | apply Kd.R_drewN | apply Kd.R_drew)); exact HO109.out) (Kd.R_base ho0) hb); have n2_ := Aside0.mk (Kd.R_below (by (with_reducible repeat (first | apply Kd.R_alloc | apply Kd.R_drewN | apply Kd.R_drew)); exact HO112.out) hb); have n3_ := Aside0.mk (Kd.R_lower (Kd.R_new' ho0 (Kd.R_lt (by (with_reducible repeat (first | apply Kd.R_alloc | apply Kd.R_drewN | apply Kd.R_drew)); exact HO109.out))) (below_size (by repeat (first | (with_reducible first | exact HB.out | apply below_alloc | apply pw_below_drewN | apply below_drew1) | exact HB.out)))); have n4_ := Aside0.mk (below_step (by repeat (first | (with_reducible first | exact HB.out | apply below_alloc | apply pw_below_drewN | apply below_drew1) | exact HB.out)) hb); clear HO105; clear HO109; clear HO112; clear HB; have HO105 := n0_; have HO109 := n1_; have HO112 := n2_; have HO116 := n3_; have HB := n4_; clear n0_ n1_ n2_ n3_ n4_; (try clear hb); (try clear hb2); (try clear hk); (try clear hi); (try clear ho0)) | ((with_reducible refine gate_callee (f := 12) rfl ?_); refine goesL_ (some 22) rfl rfl Try.func12 (by kernel_rfl) rfl #[.int .i64 t107] rfl (by (try simp only [List.map_toArray, List.map_cons, List.map_nil]); first | done | rfl | (simp only [List.length_drop, List.length_take]; rfl)) ?_; (with_reducible refine (weighhouselaw06_num.calls t107 t117 _ A3.out).mono ?_); rintro e w' ⟨rfl, ⟨nd, rfl⟩⟩; refine ⟨_, rfl, ?_⟩) | ((with_reducible refine gate_callee (f := 12) rfl ?_); refine goesL_ (some 24) rfl rfl Try.func12 (by kernel_rfl) rfl #[.int .i64 t114] rfl (by (try simp only [List.map_toArray, List.map_cons, List.map_nil]); first | done | rfl | (simp only [List.length_drop, List.length_take]; rfl)) ?_; (with_reducible refine (weighhouselaw06_num.calls t114 t118 _ A4.out).mono ?_); rintro e w' ⟨rfl, ⟨nd, rfl⟩⟩; refine ⟨_, rfl, ?_⟩))
    go_ret
    exact ⟨by first | rfl | (simp [errW_none, errW_some] <;> rfl) | (simp [*, errW_none, errW_some] <;> rfl), by repeat (first | (with_reducible first | exact HB.out | apply below_alloc | apply pw_below_drewN | apply below_drew1) | exact HB.out)⟩

end Go.Proofs.Ytbdmbkmokhaflaa.Q
end

section
-- written by hprint.py (a program of these sessions) out of the translation; Lean checks it
namespace Go.Proofs.Ytbdmbkmokhaflaa.Q
open Go.RowKit Go.Proofs.YtbdmbkmokhaflaaW.Hb Go.Proofs.YtbdmbkmokhaflaaW.PrintWords Go.Proofs.YtbdmbkmokhaflaaW.PrintLast Go.Proofs.YtbdmbkmokhaflaaW.PrintMore
attribute [local go_sem] max2_int min2_int max_two min_two max_three min_three max_four min_four   -- for this text's walks alone
set_option linter.unusedVariables false
set_option linter.unusedSimpArgs false

/-! ### weighhouselaw06_Own: function 11 -/
def weighhouselaw06_Own.f (l0 : List (S31)) : Option ((List (S31))) := (some (([] : List (S31)) : List (S31))).bind fun y127 => (if y127.length + l0.length < 8796093022208 then (some (y127 ++ l0)) else (none))
set_option maxHeartbeats 8000000 in
set_option maxRecDepth 100000 in
theorem weighhouselaw06_Own.calls (A0 : Option Addr) (c0 : Nat) (l0 : List (S31)) (r : List (S31)) (w : World) (hr0 : Kd.C k31 w A0 l0.length l0) (hc0 : l0.length ≤ c0) (h : weighhouselaw06_Own.f l0 = some r) :
    Calls Try.prog 11 #[.slice A0 l0.length c0] w fun e w' => ∃ v0_ : Value, e = .returned (v0_) ∧ Kd.R k31 31 w' w.heap.size (fun _ => True) v0_ r ∧ Below w.heap.size w w' := by
  have HR0 := Aside0.mk hr0
  have HC0 := Aside0.mk hc0
  clear hr0 hc0
  have HB := Aside0.mk (Below.refl w.heap.size w)
  have H : ((some (([] : List (S31)) : List (S31))).bind fun y127 => (if y127.length + l0.length < 8796093022208 then (some (y127 ++ l0)) else (none))) = some r := h
  clear h
  obtain ⟨y127, hy127⟩ : ∃ y_ : List (S31), y_ = (([] : List (S31))) := ⟨_, rfl⟩
  replace H : (if y127.length + l0.length < 8796093022208 then (some (y127 ++ l0)) else (none)) = some r := by first | (rw [hy127]; with_reducible exact H) | (have H2_ := (Option.bind_some _ _).symm.trans H; rw [hy127]; with_reducible exact H2_) | (have H2_ := (Option.bind_some _ _).symm.trans H; with_reducible exact H2_) | with_reducible exact H | (rw [hy127]; exact H) | exact H
  have Ny127 := Aside0.mk hy127
  clear hy127
  by_cases c2 : y127.length + l0.length < 8796093022208
  · rw [if_pos c2] at H
    have LMc2 := Aside0.mk c2
    clear c2
    obtain ⟨y130, hy130⟩ : ∃ y_ : List (S31), y_ = (y127 ++ l0) := ⟨_, rfl⟩
    replace H : (some y130) = some r := by first | (rw [hy130]; with_reducible exact H) | (have H2_ := (Option.bind_some _ _).symm.trans H; rw [hy130]; with_reducible exact H2_) | (have H2_ := (Option.bind_some _ _).symm.trans H; with_reducible exact H2_) | with_reducible exact H | (rw [hy130]; exact H) | exact H
    have Ny130 := Aside0.mk hy130
    clear hy130
    obtain rfl := Option.some.inj H
    go_enter Try.func11, Try.ntmps11
    go_wp2_with (first | ((with_reducible refine gate_dst (N := 3) rfl ?_); refine Kd.R_lit k31 _ 31 ?hg (N := 3) ?hd (xs := ([] : List (S31))) (inner := []) (ok := fun _ => True) (okp := fun _ => True) ?hr ?hp (fun _ hk => hk) trivial (Below.refl _ _) (Nat.le_refl _) (by simp) ?_; (case hd => rfl); (case hg => rfl); (case hr => first | (go_simp; done) | (go_simp; rfl)); (case hp => exact (Reps.none _ _)); intro v128 w3 ho4 hb hg_ hnew_; clear hg_ hnew_; (first | rw [← Ny127.out] at ho4 | (simp only [Int.reduceToNat] at ho4; rw [← Ny127.out] at ho4)); have n0_ := Aside0.mk (Kd.R_lower ho4 (below_size (by repeat (first | (with_reducible first | exact HB.out | apply below_alloc | apply pw_below_drewN | apply below_drew1) | exact HB.out)))); have n1_ := Aside0.mk (below_step (by repeat (first | (with_reducible first | exact HB.out | apply below_alloc | apply pw_below_drewN | apply below_drew1) | exact HB.out)) hb); clear HB; have HO129 := n0_; have HB := n1_; clear n0_ n1_; clear hb ho4) | ((with_reducible refine gate_builtin (b := .append) (xs := #[.tmp 3, .tmp 4]) rfl ?_); at_builtin; refine Kd.R_append_rows k31 (w0 := w) w.heap.size rfl (.tmp 3) (.tmp 4) 22 31 (.agg #[(.int .i64 0), (.int .i64 0)]) 16 rfl Try.underlying22 info31 rfl (by decide) (by omega) v128 y127 l0 _ _ _ (fun _ => True) (fun _ => False) rfl rfl ?aO ?aR (fun _ _ h => h) (fun _ h => h.elim) ?aF ?aB ?aS ?aL ?_; (case aR => repeat (first | exact (Kd.C_below HR0.out HB.out) | (with_reducible refine Kd.C_alloc ?_ _) | (with_reducible refine Kd.C_drewN ?_ _) | (with_reducible refine Kd.C_drew ?_))); (case aB => exact (by repeat (first | (with_reducible first | exact HB.out | apply below_alloc | apply pw_below_drewN | apply below_drew1) | exact HB.out))); (case aF => exact (fun _ _ => trivial)); (case aO => exact (by (with_reducible repeat (first | apply Kd.R_alloc | apply Kd.R_drewN | apply Kd.R_drew)); exact HO129.out)); (case aS => exact (below_size (by repeat (first | (with_reducible first | exact HB.out | apply below_alloc | apply pw_below_drewN | apply below_drew1) | exact HB.out)))); (case aL => have := LMc2.out; omega); intro v131 w5 ho hb hg hat; rw [← Ny130.out] at ho; have n0_ := Aside0.mk (hb); have n1_ := Aside0.mk (ho); clear HB; clear HO129; have HB := n0_; have HO132 := n1_; clear n0_ n1_; clear ho hb hg hat))
    go_ret
    exact ⟨_, by first | rfl | (simp [errW_none, errW_some] <;> rfl) | (simp [*, errW_none, errW_some] <;> rfl), by (with_reducible repeat (first | apply Kd.R_alloc | apply Kd.R_drewN | apply Kd.R_drew)); exact HO132.out, by repeat (first | (with_reducible first | exact HB.out | apply below_alloc | apply pw_below_drewN | apply below_drew1) | exact HB.out)⟩
  · rw [if_neg c2] at H
    exact absurd H (by simp)

end Go.Proofs.Ytbdmbkmokhaflaa.Q
end

section
-- written by hprint.py (a program of these sessions) out of the translation; Lean checks it
namespace Go.Proofs.Ytbdmbkmokhaflaa.Q
open Go.RowKit Go.Proofs.YtbdmbkmokhaflaaW.Hb Go.Proofs.YtbdmbkmokhaflaaW.PrintWords Go.Proofs.YtbdmbkmokhaflaaW.PrintLast Go.Proofs.YtbdmbkmokhaflaaW.PrintMore
attribute [local go_sem] max2_int min2_int max_two min_two max_three min_three max_four min_four   -- for this text's walks alone
set_option linter.unusedVariables false
set_option linter.unusedSimpArgs false

/-! ### shape_Next: function 13, by hand -/
def asksS (o : Int) (yes : Bool) : Bool := if o = 49 then true else if o = 48 then !yes else if o = 50 ∨ o = 52 then yes else false
def nextS (l0 : List Ins) (l1 : List Int) (a2 : Int) (a3 : Bool) : Int :=
  if a2 < 0 ∨ a2 ≥ l0.length ∨ a2 ≥ l1.length then -1
  else if asksS (opAt l0 a2.toNat) a3 = true then (if rd l1 a2 < 0 ∨ rd l1 a2 ≥ l0.length then -1 else rd l1 a2 + 1)
  else a2 + 1
def shape_Next.f (l0 : List Ins) (l1 : List Int) (a2 : Int) (a3 : Bool) : Option Int := some (nextS l0 l1 a2 a3)
set_option maxRecDepth 100000 in
set_option maxHeartbeats 4000000 in
theorem shape_Next.calls (A0 : Option Addr) (c0 : Nat) (l0 : List (S31)) (A1 : Option Addr) (c1 : Nat) (l1 : List Int) (a2 : Int) (a3 : Bool) (r : Int) (w : World) (hr0 : Kd.C k31 w A0 l0.length l0) (hc0 : l0.length ≤ c0) (hr1 : Kd.C (Kd.int .i64) w A1 l1.length l1) (hc1 : l1.length ≤ c1) (h : shape_Next.f l0 l1 a2 a3 = some r) :
    Calls Try.prog 13 #[.slice A0 l0.length c0, .slice A1 l1.length c1, .int .i64 a2, .bool a3] w fun e w' => e = .returned (.int .i64 r) ∧ Below w.heap.size w w' := by
  have hr : nextS l0 l1 a2 a3 = r := Option.some.inj h
  clear h
  have HB := Aside0.mk (Below.refl w.heap.size w)
  have hm0 : l0.length ≤ 9223372036854775807 := hr0.2.1
  have hm1 : l1.length ≤ 9223372036854775807 := hr1.2.1
  by_cases h0 : a2 < 0
  · have hrr : r = -1 := by rw [← hr]; exact if_pos (.inl h0)
    subst hrr
    clear hr hr0 hr1
    go_enter Try.func13, Try.ntmps13
    go_wp2
    all_goals (go_ret; exact ⟨rfl, HB.out⟩)
  · obtain ⟨n, rfl⟩ := Int.eq_ofNat_of_zero_le (by omega : 0 ≤ a2)
    by_cases h1 : n < l0.length ∧ n < l1.length
    · obtain ⟨p1, p2⟩ := h1
      obtain ⟨ad0, e0, k0, _⟩ := at_Ins hr0 n p1
      obtain ⟨ad1, e1, k1⟩ := at_intN hr1 n p2
      subst e0 e1
      have q1 : (n : Int) < (l0.length : Int) := by omega
      have q2 : (n : Int) < (l1.length : Int) := by omega
      have q3 : ¬ (n : Int) < 0 := by omega
      have hrr : r = if asksS l0[n].f0 a3 = true then (if l1[n] < 0 ∨ l1[n] ≥ l0.length then -1 else l1[n] + 1) else (n : Int) + 1 := by
        rw [← hr]
        unfold nextS
        rw [if_neg (by omega), Int.toNat_natCast, opAt_lt p1]
        have e : rd l1 (n : Int) = l1[n] := by simp [rd, List.getD_eq_getElem?_getD, p2]
        rw [e]
      obtain ⟨o, ho⟩ : ∃ o, l0[n].f0 = o := ⟨_, rfl⟩
      obtain ⟨x, hx⟩ : ∃ x, l1[n] = x := ⟨_, rfl⟩
      rw [ho, hx] at hrr
      rw [ho] at k0
      rw [hx] at k1
      have HRR := Aside0.mk hrr
      clear hr hr0 hr1 ho hx hrr
      have hw1 : wrap64 ((n : Int) + 1) = (n : Int) + 1 := by unfold wrap64; omega
      have hxs : x < 0 ∨ (¬ x < 0 ∧ x ≥ (l0.length : Int)) ∨ (¬ x < 0 ∧ ¬ x ≥ (l0.length : Int) ∧ wrap64 (x + 1) = x + 1) := by
        by_cases g1 : x < 0
        · exact .inl g1
        · by_cases g2 : x ≥ (l0.length : Int)
          · exact .inr (.inl ⟨g1, g2⟩)
          · exact .inr (.inr ⟨g1, g2, by unfold wrap64; omega⟩)
      have hos : o = 49 ∨ o = 48 ∨ o = 50 ∨ o = 52 ∨ ((o == 49) = false ∧ (o == 48) = false ∧ (o == 50) = false ∧ (o == 52) = false) := by
        by_cases g1 : o = 49
        · exact .inl g1
        · by_cases g2 : o = 48
          · exact .inr (.inl g2)
          · by_cases g3 : o = 50
            · exact .inr (.inr (.inl g3))
            · by_cases g4 : o = 52
              · exact .inr (.inr (.inr (.inl g4)))
              · exact .inr (.inr (.inr (.inr ⟨by simp [g1], by simp [g2], by simp [g3], by simp [g4]⟩)))
      rcases hos with rfl | rfl | rfl | rfl | ⟨g1, g2, g3, g4⟩ <;> cases a3 <;> rcases hxs with h | ⟨h, h'⟩ | ⟨h, h', hw⟩
      all_goals
        go_enter Try.func13, Try.ntmps13
        go_wp2
        all_goals first
          | omega
          | (go_ret
             refine ⟨?_, HB.out⟩
             have hz := HRR.out
             clear HRR
             subst hz
             first | (simp [asksS]; done) | (simp [asksS, *]; done) | (simp only [beq_eq_false_iff_ne, ne_eq] at g1 g2 g3 g4; simp [asksS, *]; done) | (simp [asksS]; omega))
    · have hrr : r = -1 := by rw [← hr]; exact if_pos (by omega)
      subst hrr
      clear hr hr0 hr1
      have q3 : ¬ (n : Int) < 0 := by omega
      have q4 : ∀ x : Int, x = (if (l1.length : Int) < (l0.length : Int) then (l1.length : Int) else (l0.length : Int)) → x ≤ (n : Int) := by intro x hx; split at hx <;> omega
      go_enter Try.func13, Try.ntmps13
      go_wp2
      all_goals (go_ret; exact ⟨rfl, HB.out⟩)


end Go.Proofs.Ytbdmbkmokhaflaa.Q
end

section
-- written by hprint.py (a program of these sessions) out of the translation; Lean checks it
namespace Go.Proofs.Ytbdmbkmokhaflaa.Q
open Go.RowKit Go.Proofs.YtbdmbkmokhaflaaW.Hb Go.Proofs.YtbdmbkmokhaflaaW.PrintWords Go.Proofs.YtbdmbkmokhaflaaW.PrintLast Go.Proofs.YtbdmbkmokhaflaaW.PrintMore
attribute [local go_sem] max2_int min2_int max_two min_two max_three min_three max_four min_four   -- for this text's walks alone
set_option linter.unusedVariables false
set_option linter.unusedSimpArgs false

/-! ### weighhouselaw06_ShapeWays: function 5 -/
mutual
def weighhouselaw06_ShapeWays.j0 : Nat → List (S31) → Int → Bool → Bool → Option (Bool)
  | 0, _, _, _, _ => none
  | k + 1, x0, x1, x2, x17 => if x17 = true then ((weighhouselaw06_knows.f k).bind fun t189 => (some t189)) else ((weighhouselaw06_Own.f x0).bind fun t190 => ((shape_Match.f t190).bind fun bt193 => ((weighhouselaw06_num.f bt193.2).bind fun t197 => (if t197 = 0 then (if (bt193.1.length : Int) = (x0.length : Int) then (if (x0.length : Int) = 0 then (none) else ((weighhouselaw06_Own.f x0).bind fun t199 => ((shape_Next.f t199 bt193.1 (Int.tmod (wrap64 ((Int.tmod x1 (x0.length : Int)) + (x0.length : Int))) (x0.length : Int)) x2).bind fun t202 => (if 0 ≤ (Int.tmod (wrap64 ((Int.tmod x1 (x0.length : Int)) + (x0.length : Int))) (x0.length : Int)) then (if (Int.tmod (wrap64 ((Int.tmod x1 (x0.length : Int)) + (x0.length : Int))) (x0.length : Int)) < (x0.length : Int) then (if ((rd_T31 x0 (Int.tmod (wrap64 ((Int.tmod x1 (x0.length : Int)) + (x0.length : Int))) (x0.length : Int))).f0) = 50 then (weighhouselaw06_ShapeWays.j1 k x0 (Int.tmod (wrap64 ((Int.tmod x1 (x0.length : Int)) + (x0.length : Int))) (x0.length : Int)) bt193.1 t202 x2) else (weighhouselaw06_ShapeWays.j1 k x0 (Int.tmod (wrap64 ((Int.tmod x1 (x0.length : Int)) + (x0.length : Int))) (x0.length : Int)) bt193.1 t202 false)) else (none)) else (none))))) else (some false)) else ((weighhouselaw06_knows.f k).bind fun t198 => (some t198))))))
def weighhouselaw06_ShapeWays.j1 : Nat → List (S31) → Int → List Int → Int → Bool → Option (Bool)
  | 0, _, _, _, _, _ => none
  | k + 1, x0, x1, x7, x9, x58 => if x58 = true then (if 0 ≤ x1 then (if x1 < (x7.length : Int) then (if x9 = (wrap64 ((rd x7 x1) + 1)) then (if x9 ≤ x1 then ((weighhouselaw06_knows.f k).bind fun t205 => (some t205)) else (some false)) else (some false)) else (none)) else (none)) else (if x9 > x1 then (if x9 ≤ (x0.length : Int) then ((weighhouselaw06_knows.f k).bind fun t206 => (some t206)) else (some false)) else (some false))
end
def weighhouselaw06_ShapeWays.f (k : Nat) (l0 : List (S31)) (a1 : Int) (a2 : Bool) : Option (Bool) := if (l0.length : Int) = 0 then (weighhouselaw06_ShapeWays.j0 k l0 a1 a2 true) else (weighhouselaw06_ShapeWays.j0 k l0 a1 a2 (decide ((l0.length : Int) > 200)))
theorem weighhouselaw06_ShapeWays.mono_l : ∀ k, (∀ y0 y1 y2 y3, LeO (weighhouselaw06_ShapeWays.j0 k y0 y1 y2 y3) (weighhouselaw06_ShapeWays.j0 (k + 1) y0 y1 y2 y3)) ∧ (∀ y0 y1 y2 y3 y4, LeO (weighhouselaw06_ShapeWays.j1 k y0 y1 y2 y3 y4) (weighhouselaw06_ShapeWays.j1 (k + 1) y0 y1 y2 y3 y4))
  | 0 => ⟨fun _ _ _ _ r h => by simp [weighhouselaw06_ShapeWays.j0] at h, fun _ _ _ _ _ r h => by simp [weighhouselaw06_ShapeWays.j1] at h⟩
  | k + 1 => by
    obtain ⟨ih0, ih1⟩ := weighhouselaw06_ShapeWays.mono_l k
    refine ⟨?_, ?_⟩
    · intro y0 y1 y2 y3
      unfold weighhouselaw06_ShapeWays.j0
      repeat' first
      | (with_reducible exact ih0 _ _ _ _)
      | (with_reducible exact ih1 _ _ _ _ _)
      | (with_reducible exact weighhouselaw06_knows.mono _)
      | (with_reducible exact LeO.refl _)
      | (with_reducible exact LeO.none _)
      | (with_reducible refine LeO.ite ?_ ?_)
      | (with_reducible refine LeO.bind ?_ (fun _ => ?_))
      | exact ih0 _ _ _ _
      | exact ih1 _ _ _ _ _
      | exact weighhouselaw06_knows.mono _
      | exact LeO.none _
      | refine LeO.ite ?_ ?_
      | refine LeO.bind ?_ (fun _ => ?_)
    · intro y0 y1 y2 y3 y4
      unfold weighhouselaw06_ShapeWays.j1
      repeat' first
      | (with_reducible exact ih0 _ _ _ _)
      | (with_reducible exact ih1 _ _ _ _ _)
      | (with_reducible exact weighhouselaw06_knows.mono _)
      | (with_reducible exact LeO.refl _)
      | (with_reducible exact LeO.none _)
      | (with_reducible refine LeO.ite ?_ ?_)
      | (with_reducible refine LeO.bind ?_ (fun _ => ?_))
      | exact ih0 _ _ _ _
      | exact ih1 _ _ _ _ _
      | exact weighhouselaw06_knows.mono _
      | exact LeO.none _
      | refine LeO.ite ?_ ?_
      | refine LeO.bind ?_ (fun _ => ?_)
theorem weighhouselaw06_ShapeWays.mono : ∀ a0 a1 a2 k, LeO (weighhouselaw06_ShapeWays.f k a0 a1 a2) (weighhouselaw06_ShapeWays.f (k + 1) a0 a1 a2) := by
  intro a0 a1 a2 k
  obtain ⟨ih0, ih1⟩ := weighhouselaw06_ShapeWays.mono_l k
  unfold weighhouselaw06_ShapeWays.f
  repeat' first
      | (with_reducible exact ih0 _ _ _ _)
      | (with_reducible exact ih1 _ _ _ _ _)
      | (with_reducible exact weighhouselaw06_knows.mono _)
      | (with_reducible exact LeO.refl _)
      | (with_reducible exact LeO.none _)
      | (with_reducible refine LeO.ite ?_ ?_)
      | (with_reducible refine LeO.bind ?_ (fun _ => ?_))
      | exact ih0 _ _ _ _
      | exact ih1 _ _ _ _ _
      | exact weighhouselaw06_knows.mono _
      | exact LeO.none _
      | refine LeO.ite ?_ ?_
      | refine LeO.bind ?_ (fun _ => ?_)
set_option maxHeartbeats 8000000 in
set_option maxRecDepth 100000 in
theorem weighhouselaw06_ShapeWays.calls (k : Nat) (A0 : Option Addr) (c0 : Nat) (l0 : List (S31)) (a1 : Int) (a2 : Bool) (r : Bool) (w : World) (hr0 : Kd.C k31 w A0 l0.length l0) (hc0 : l0.length ≤ c0) (h : weighhouselaw06_ShapeWays.f k l0 a1 a2 = some r) :
    Calls Try.prog 5 #[.slice A0 l0.length c0, .int .i64 a1, .bool a2] w fun e w' => e = .returned (.bool r) ∧ Below w.heap.size w w' := by
  have HR0 := Aside0.mk hr0
  have HC0 := Aside0.mk hc0
  clear hr0 hc0
  have HB := Aside0.mk (Below.refl w.heap.size w)
  have H : (if (l0.length : Int) = 0 then (weighhouselaw06_ShapeWays.j0 k l0 a1 a2 true) else (weighhouselaw06_ShapeWays.j0 k l0 a1 a2 (decide ((l0.length : Int) > 200)))) = some r := h
  clear h
  have HC4 := Aside0.mk H
  clear H
  go_enter Try.func5, Try.ntmps5
  go_upto_region 1 with (fail)
  go_cut [17] (fun v17 wc => ∃ (kq : Nat) (x17_3 : Bool), v17 = .bool x17_3 ∧ Aside0 (weighhouselaw06_ShapeWays.j0 kq l0 a1 a2 x17_3 = some r) ∧ Aside0 (kq ≤ k) ∧ Aside0 (Below w.heap.size w wc))
  case first =>
    have H := HC4.out
    clear HC4
    by_cases c5 : (l0.length : Int) = 0
    · rw [if_pos c5] at H
      have c5b0 : ((l0.length : Int) == 0) = true := beq_iff_eq.mpr c5
      have c5b1 : ((l0.length : Int) != 0) = false := bne_eq_false_iff_eq.mpr c5
      clear c5
      (first | rw [c5b0] | (simp only [i64_w, i32_w]; rw [c5b0]) | skip)
      have H' := Aside0.mk H
      clear H
      go_wp2
      go_meet
      case rel => exact ⟨_, (true), (by first | rfl | (simp; done) | (simp [*]; done)), H', ⟨by first | omega | exact Nat.le_refl _⟩, ⟨by repeat (first | (with_reducible first | exact HB.out | apply below_alloc | apply pw_below_drewN | apply below_drew1) | exact HB.out)⟩⟩
    · rw [if_neg c5] at H
      have c5b0 : ((l0.length : Int) == 0) = false := beq_eq_false_iff_ne.mpr c5
      have c5b1 : ((l0.length : Int) != 0) = true := bne_iff_ne.mpr c5
      have c5b2 : ¬ (l0 = []) := fun h_ => c5 (by rw [h_]; rfl)
      (first | rw [c5b0] | (simp only [i64_w, i32_w]; rw [c5b0]) | skip)
      have H' := Aside0.mk H
      clear H
      go_wp2
      go_meet
      case rel => exact ⟨_, (decide ((l0.length : Int) > 200)), (by first | rfl | (simp; done) | (simp [*]; done)), H', ⟨by first | omega | exact Nat.le_refl _⟩, ⟨by repeat (first | (with_reducible first | exact HB.out | apply below_alloc | apply pw_below_drewN | apply below_drew1) | exact HB.out)⟩⟩
  case rest =>
    clear HC4
    try clear p2
    try clear c5
    try clear c5b0
    try clear c5b1
    try clear c5b2
    obtain ⟨kq, x17_3, rfl, HA, HJ3, HB⟩ := hcut
    cases kq with
    | zero => exact absurd HA.out (by simp [weighhouselaw06_ShapeWays.j0])
    | succ kj3 =>
      have H := HA.out
      clear HA
      simp only [weighhouselaw06_ShapeWays.j0] at H
      by_cases c6 : x17_3 = true
      · subst c6
        have H1 : ((weighhouselaw06_knows.f kj3).bind fun t189 => (some t189)) = some r := by rw [if_pos rfl] at H; exact H
        clear H
        have H := H1
        clear H1
        replace H := Option.bind_eq_some_iff.mp H
        obtain ⟨t189, A70, H⟩ := H
        replace H : (some t189) = some r := H
        have A7 := Aside0.mk A70
        clear A70
        obtain rfl := Option.some.inj H
        go_wp2_with (first | ((with_reducible refine gate_callee (f := 9) rfl ?_); refine goesL_ (some 18) rfl rfl Try.func9 (by kernel_rfl) rfl #[] rfl (by (try simp only [List.map_toArray, List.map_cons, List.map_nil]); first | done | rfl | (simp only [List.length_drop, List.length_take]; rfl)) ?_; (with_reducible refine (weighhouselaw06_knows.calls kj3  t189 _ A7.out).mono ?_); rintro e w8 ⟨rfl, hb⟩; refine ⟨_, rfl, ?_⟩; have n0_ := Aside0.mk (below_step (by repeat (first | (with_reducible first | exact HB.out | apply below_alloc | apply pw_below_drewN | apply below_drew1) | exact HB.out)) hb); clear HB; have HB := n0_; clear n0_; (try clear hb); (try clear hb2); (try clear hk); (try clear hi)))
        go_ret
        exact ⟨by first | rfl | (simp [errW_none, errW_some] <;> rfl) | (simp [*, errW_none, errW_some] <;> rfl), by repeat (first | (with_reducible first | exact HB.out | apply below_alloc | apply pw_below_drewN | apply below_drew1) | exact HB.out)⟩
      · replace c6 := Bool.eq_false_iff.mpr c6
        subst c6
        have H1 : ((weighhouselaw06_Own.f l0).bind fun t190 => ((shape_Match.f t190).bind fun bt193 => ((weighhouselaw06_num.f bt193.2).bind fun t197 => (if t197 = 0 then (if (bt193.1.length : Int) = (l0.length : Int) then (if (l0.length : Int) = 0 then (none) else ((weighhouselaw06_Own.f l0).bind fun t199 => ((shape_Next.f t199 bt193.1 (Int.tmod (wrap64 ((Int.tmod a1 (l0.length : Int)) + (l0.length : Int))) (l0.length : Int)) a2).bind fun t202 => (if 0 ≤ (Int.tmod (wrap64 ((Int.tmod a1 (l0.length : Int)) + (l0.length : Int))) (l0.length : Int)) then (if (Int.tmod (wrap64 ((Int.tmod a1 (l0.length : Int)) + (l0.length : Int))) (l0.length : Int)) < (l0.length : Int) then (if ((rd_T31 l0 (Int.tmod (wrap64 ((Int.tmod a1 (l0.length : Int)) + (l0.length : Int))) (l0.length : Int))).f0) = 50 then (weighhouselaw06_ShapeWays.j1 kj3 l0 (Int.tmod (wrap64 ((Int.tmod a1 (l0.length : Int)) + (l0.length : Int))) (l0.length : Int)) bt193.1 t202 a2) else (weighhouselaw06_ShapeWays.j1 kj3 l0 (Int.tmod (wrap64 ((Int.tmod a1 (l0.length : Int)) + (l0.length : Int))) (l0.length : Int)) bt193.1 t202 false)) else (none)) else (none))))) else (some false)) else ((weighhouselaw06_knows.f kj3).bind fun t198 => (some t198)))))) = some r := by rw [if_neg (show ¬ (false = true) by decide)] at H; exact H
        clear H
        have H := H1
        clear H1
        replace H := Option.bind_eq_some_iff.mp H
        obtain ⟨t190, A90, H⟩ := H
        replace H : ((shape_Match.f t190).bind fun bt193 => ((weighhouselaw06_num.f bt193.2).bind fun t197 => (if t197 = 0 then (if (bt193.1.length : Int) = (l0.length : Int) then (if (l0.length : Int) = 0 then (none) else ((weighhouselaw06_Own.f l0).bind fun t199 => ((shape_Next.f t199 bt193.1 (Int.tmod (wrap64 ((Int.tmod a1 (l0.length : Int)) + (l0.length : Int))) (l0.length : Int)) a2).bind fun t202 => (if 0 ≤ (Int.tmod (wrap64 ((Int.tmod a1 (l0.length : Int)) + (l0.length : Int))) (l0.length : Int)) then (if (Int.tmod (wrap64 ((Int.tmod a1 (l0.length : Int)) + (l0.length : Int))) (l0.length : Int)) < (l0.length : Int) then (if ((rd_T31 l0 (Int.tmod (wrap64 ((Int.tmod a1 (l0.length : Int)) + (l0.length : Int))) (l0.length : Int))).f0) = 50 then (weighhouselaw06_ShapeWays.j1 kj3 l0 (Int.tmod (wrap64 ((Int.tmod a1 (l0.length : Int)) + (l0.length : Int))) (l0.length : Int)) bt193.1 t202 a2) else (weighhouselaw06_ShapeWays.j1 kj3 l0 (Int.tmod (wrap64 ((Int.tmod a1 (l0.length : Int)) + (l0.length : Int))) (l0.length : Int)) bt193.1 t202 false)) else (none)) else (none))))) else (some false)) else ((weighhouselaw06_knows.f kj3).bind fun t198 => (some t198))))) = some r := H
        have A9 := Aside0.mk A90
        clear A90
        replace H := Option.bind_eq_some_iff.mp H
        obtain ⟨⟨t193, t194⟩, A100, H⟩ := H
        replace H : ((weighhouselaw06_num.f t194).bind fun t197 => (if t197 = 0 then (if (t193.length : Int) = (l0.length : Int) then (if (l0.length : Int) = 0 then (none) else ((weighhouselaw06_Own.f l0).bind fun t199 => ((shape_Next.f t199 t193 (Int.tmod (wrap64 ((Int.tmod a1 (l0.length : Int)) + (l0.length : Int))) (l0.length : Int)) a2).bind fun t202 => (if 0 ≤ (Int.tmod (wrap64 ((Int.tmod a1 (l0.length : Int)) + (l0.length : Int))) (l0.length : Int)) then (if (Int.tmod (wrap64 ((Int.tmod a1 (l0.length : Int)) + (l0.length : Int))) (l0.length : Int)) < (l0.length : Int) then (if ((rd_T31 l0 (Int.tmod (wrap64 ((Int.tmod a1 (l0.length : Int)) + (l0.length : Int))) (l0.length : Int))).f0) = 50 then (weighhouselaw06_ShapeWays.j1 kj3 l0 (Int.tmod (wrap64 ((Int.tmod a1 (l0.length : Int)) + (l0.length : Int))) (l0.length : Int)) t193 t202 a2) else (weighhouselaw06_ShapeWays.j1 kj3 l0 (Int.tmod (wrap64 ((Int.tmod a1 (l0.length : Int)) + (l0.length : Int))) (l0.length : Int)) t193 t202 false)) else (none)) else (none))))) else (some false)) else ((weighhouselaw06_knows.f kj3).bind fun t198 => (some t198)))) = some r := H
        have A10 := Aside0.mk A100
        clear A100
        replace H := Option.bind_eq_some_iff.mp H
        obtain ⟨t197, A110, H⟩ := H
        replace H : (if t197 = 0 then (if (t193.length : Int) = (l0.length : Int) then (if (l0.length : Int) = 0 then (none) else ((weighhouselaw06_Own.f l0).bind fun t199 => ((shape_Next.f t199 t193 (Int.tmod (wrap64 ((Int.tmod a1 (l0.length : Int)) + (l0.length : Int))) (l0.length : Int)) a2).bind fun t202 => (if 0 ≤ (Int.tmod (wrap64 ((Int.tmod a1 (l0.length : Int)) + (l0.length : Int))) (l0.length : Int)) then (if (Int.tmod (wrap64 ((Int.tmod a1 (l0.length : Int)) + (l0.length : Int))) (l0.length : Int)) < (l0.length : Int) then (if ((rd_T31 l0 (Int.tmod (wrap64 ((Int.tmod a1 (l0.length : Int)) + (l0.length : Int))) (l0.length : Int))).f0) = 50 then (weighhouselaw06_ShapeWays.j1 kj3 l0 (Int.tmod (wrap64 ((Int.tmod a1 (l0.length : Int)) + (l0.length : Int))) (l0.length : Int)) t193 t202 a2) else (weighhouselaw06_ShapeWays.j1 kj3 l0 (Int.tmod (wrap64 ((Int.tmod a1 (l0.length : Int)) + (l0.length : Int))) (l0.length : Int)) t193 t202 false)) else (none)) else (none))))) else (some false)) else ((weighhouselaw06_knows.f kj3).bind fun t198 => (some t198))) = some r := H
        have A11 := Aside0.mk A110
        clear A110
        by_cases c12 : t197 = 0
        · rw [if_pos c12] at H
          have c12b0 : (t197 == 0) = true := beq_iff_eq.mpr c12
          have c12b1 : (t197 != 0) = false := bne_eq_false_iff_eq.mpr c12
          clear c12
          by_cases c13 : (t193.length : Int) = (l0.length : Int)
          · rw [if_pos c13] at H
            have c13b0 : ((t193.length : Int) == (l0.length : Int)) = true := beq_iff_eq.mpr c13
            have c13b1 : ((t193.length : Int) != (l0.length : Int)) = false := bne_eq_false_iff_eq.mpr c13
            have c13b2 : (t193.length == l0.length) = true := by first | simpa using c13 | (simp at c13 ⊢; omega)
            clear c13
            by_cases c14 : (l0.length : Int) = 0
            · rw [if_pos c14] at H
              exact absurd H (by simp)
            · rw [if_neg c14] at H
              have c14b0 : ((l0.length : Int) == 0) = false := beq_eq_false_iff_ne.mpr c14
              have c14b1 : ((l0.length : Int) != 0) = true := bne_iff_ne.mpr c14
              have c14b2 : ¬ (l0 = []) := fun h_ => c14 (by rw [h_]; rfl)
              replace H := Option.bind_eq_some_iff.mp H
              obtain ⟨t199, A150, H⟩ := H
              replace H : ((shape_Next.f t199 t193 (Int.tmod (wrap64 ((Int.tmod a1 (l0.length : Int)) + (l0.length : Int))) (l0.length : Int)) a2).bind fun t202 => (if 0 ≤ (Int.tmod (wrap64 ((Int.tmod a1 (l0.length : Int)) + (l0.length : Int))) (l0.length : Int)) then (if (Int.tmod (wrap64 ((Int.tmod a1 (l0.length : Int)) + (l0.length : Int))) (l0.length : Int)) < (l0.length : Int) then (if ((rd_T31 l0 (Int.tmod (wrap64 ((Int.tmod a1 (l0.length : Int)) + (l0.length : Int))) (l0.length : Int))).f0) = 50 then (weighhouselaw06_ShapeWays.j1 kj3 l0 (Int.tmod (wrap64 ((Int.tmod a1 (l0.length : Int)) + (l0.length : Int))) (l0.length : Int)) t193 t202 a2) else (weighhouselaw06_ShapeWays.j1 kj3 l0 (Int.tmod (wrap64 ((Int.tmod a1 (l0.length : Int)) + (l0.length : Int))) (l0.length : Int)) t193 t202 false)) else (none)) else (none))) = some r := H
              have A15 := Aside0.mk A150
              clear A150
              replace H := Option.bind_eq_some_iff.mp H
              obtain ⟨t202, A160, H⟩ := H
              replace H : (if 0 ≤ (Int.tmod (wrap64 ((Int.tmod a1 (l0.length : Int)) + (l0.length : Int))) (l0.length : Int)) then (if (Int.tmod (wrap64 ((Int.tmod a1 (l0.length : Int)) + (l0.length : Int))) (l0.length : Int)) < (l0.length : Int) then (if ((rd_T31 l0 (Int.tmod (wrap64 ((Int.tmod a1 (l0.length : Int)) + (l0.length : Int))) (l0.length : Int))).f0) = 50 then (weighhouselaw06_ShapeWays.j1 kj3 l0 (Int.tmod (wrap64 ((Int.tmod a1 (l0.length : Int)) + (l0.length : Int))) (l0.length : Int)) t193 t202 a2) else (weighhouselaw06_ShapeWays.j1 kj3 l0 (Int.tmod (wrap64 ((Int.tmod a1 (l0.length : Int)) + (l0.length : Int))) (l0.length : Int)) t193 t202 false)) else (none)) else (none)) = some r := H
              have A16 := Aside0.mk A160
              clear A160
              have HC17 := Aside0.mk H
              clear H
              go_upto_region 10 with (first | ((with_reducible refine gate_callee (f := 11) rfl ?_); refine goesL_ (some 21) rfl rfl Try.func11 (by kernel_rfl) rfl #[.slice A0 l0.length c0] rfl (by (try simp only [List.map_toArray, List.map_cons, List.map_nil]); first | done | rfl | (simp only [List.length_drop, List.length_take]; rfl)) ?_; (with_reducible refine (weighhouselaw06_Own.calls _ _ l0 t190 _ ?side1 ?side2 A9.out).mono ?_); (case side1 => repeat (first | exact (Kd.C_below HR0.out HB.out) | (with_reducible refine Kd.C_alloc ?_ _) | (with_reducible refine Kd.C_drewN ?_ _) | (with_reducible refine Kd.C_drew ?_))); (case side2 => exact HC0.out); rintro e w18 ⟨v191, rfl, ho0, hb⟩; refine ⟨_, rfl, ?_⟩; have n0_ := Aside0.mk (Kd.R_lower ho0 (below_size (by repeat (first | (with_reducible first | exact HB.out | apply below_alloc | apply pw_below_drewN | apply below_drew1) | exact HB.out)))); have n1_ := Aside0.mk (below_step (by repeat (first | (with_reducible first | exact HB.out | apply below_alloc | apply pw_below_drewN | apply below_drew1) | exact HB.out)) hb); clear HB; have HO192 := n0_; have HB := n1_; clear n0_ n1_; (try clear hb); (try clear hb2); (try clear hk); (try clear hi); (try clear ho0); obtain ⟨Ao19, co19, eo19⟩ := Kd.R_slice HO192.out; subst eo19) | ((with_reducible refine gate_callee (f := 10) rfl ?_); refine goesL_ (some 22) rfl rfl Try.func10 (by kernel_rfl) rfl #[.slice Ao19 t190.length co19] rfl (by (try simp only [List.map_toArray, List.map_cons, List.map_nil]); first | done | rfl | (simp only [List.length_drop, List.length_take]; rfl)) ?_; (with_reducible refine (shape_Match.calls _ _ t190 t193 t194 _ ?side1 ?side2 A10.out).mono ?_); (case side1 => repeat (first | exact (Kd.R_reads' HO192.out).2.2 | (with_reducible refine Kd.C_alloc ?_ _) | (with_reducible refine Kd.C_drewN ?_ _) | (with_reducible refine Kd.C_drew ?_))); (case side2 => exact (Kd.R_reads' HO192.out).2.1); rintro e w20 ⟨v195, rfl, ho0, hb⟩; refine ⟨_, rfl, ?_⟩; have n0_ := Aside0.mk (Kd.R_below (by (with_reducible repeat (first | apply Kd.R_alloc | apply Kd.R_drewN | apply Kd.R_drew)); exact HO192.out) hb); have n1_ := Aside0.mk (Kd.R_lower ho0 (below_size (by repeat (first | (with_reducible first | exact HB.out | apply below_alloc | apply pw_below_drewN | apply below_drew1) | exact HB.out)))); have n2_ := Aside0.mk (below_step (by repeat (first | (with_reducible first | exact HB.out | apply below_alloc | apply pw_below_drewN | apply below_drew1) | exact HB.out)) hb); clear HO192; clear HB; have HO192 := n0_; have HO196 := n1_; have HB := n2_; clear n0_ n1_ n2_; (try clear hb); (try clear hb2); (try clear hk); (try clear hi); (try clear ho0)) | ((with_reducible refine gate_callee (f := 12) rfl ?_); refine goesL_ (some 26) rfl rfl Try.func12 (by kernel_rfl) rfl #[.int .i64 t194] rfl (by (try simp only [List.map_toArray, List.map_cons, List.map_nil]); first | done | rfl | (simp only [List.length_drop, List.length_take]; rfl)) ?_; (with_reducible refine (weighhouselaw06_num.calls t194 t197 _ A11.out).mono ?_); rintro e w' ⟨rfl, ⟨nd, rfl⟩⟩; refine ⟨_, rfl, ?_⟩; obtain ⟨Ao21, co21, eo21⟩ := Kd.R_slice HO196.out; subst eo21) | ((with_reducible refine gate_callee (f := 11) rfl ?_); refine goesL_ (some 45) rfl rfl Try.func11 (by kernel_rfl) rfl #[.slice A0 l0.length c0] rfl (by (try simp only [List.map_toArray, List.map_cons, List.map_nil]); first | done | rfl | (simp only [List.length_drop, List.length_take]; rfl)) ?_; (with_reducible refine (weighhouselaw06_Own.calls _ _ l0 t199 _ ?side1 ?side2 A15.out).mono ?_); (case side1 => repeat (first | exact (Kd.C_below HR0.out (by repeat (first | (with_reducible first | exact HB.out | apply below_alloc | apply pw_below_drewN | apply below_drew1) | exact HB.out))) | (with_reducible refine Kd.C_alloc ?_ _) | (with_reducible refine Kd.C_drewN ?_ _) | (with_reducible refine Kd.C_drew ?_))); (case side2 => exact HC0.out); rintro e w22 ⟨v200, rfl, ho0, hb⟩; refine ⟨_, rfl, ?_⟩; have n0_ := Aside0.mk (Kd.R_elder' (by (with_reducible repeat (first | apply Kd.R_alloc | apply Kd.R_drewN | apply Kd.R_drew)); exact HO192.out) (Kd.R_base ho0) hb); have n1_ := Aside0.mk (Kd.R_below (by (with_reducible repeat (first | apply Kd.R_alloc | apply Kd.R_drewN | apply Kd.R_drew)); exact HO196.out) hb); have n2_ := Aside0.mk (Kd.R_lower (Kd.R_new' ho0 (Kd.R_lt (by (with_reducible repeat (first | apply Kd.R_alloc | apply Kd.R_drewN | apply Kd.R_drew)); exact HO192.out))) (below_size (by repeat (first | (with_reducible first | exact HB.out | apply below_alloc | apply pw_below_drewN | apply below_drew1) | exact HB.out)))); have n3_ := Aside0.mk (below_step (by repeat (first | (with_reducible first | exact HB.out | apply below_alloc | apply pw_below_drewN | apply below_drew1) | exact HB.out)) hb); clear HO192; clear HO196; clear HB; have HO192 := n0_; have HO196 := n1_; have HO201 := n2_; have HB := n3_; clear n0_ n1_ n2_ n3_; (try clear hb); (try clear hb2); (try clear hk); (try clear hi); (try clear ho0); obtain ⟨Ao23, co23, eo23⟩ := Kd.R_slice HO201.out; subst eo23) | ((with_reducible refine gate_callee (f := 13) rfl ?_); refine goesL_ (some 49) rfl rfl Try.func13 (by kernel_rfl) rfl #[.slice Ao23 t199.length co23, .slice Ao21 t193.length co21, .int .i64 (Int.tmod (wrap64 ((Int.tmod a1 (l0.length : Int)) + (l0.length : Int))) (l0.length : Int)), .bool a2] rfl (by (try simp only [List.map_toArray, List.map_cons, List.map_nil]); first | done | rfl | (simp only [List.length_drop, List.length_take]; rfl)) ?_; (with_reducible refine (shape_Next.calls _ _ t199 _ _ t193 (Int.tmod (wrap64 ((Int.tmod a1 (l0.length : Int)) + (l0.length : Int))) (l0.length : Int)) a2 t202 _ ?side1 ?side2 ?side3 ?side4 A16.out).mono ?_); (case side1 => repeat (first | exact (Kd.R_reads' HO201.out).2.2 | (with_reducible refine Kd.C_alloc ?_ _) | (with_reducible refine Kd.C_drewN ?_ _) | (with_reducible refine Kd.C_drew ?_))); (case side2 => exact (Kd.R_reads' HO201.out).2.1); (case side3 => repeat (first | exact (Kd.R_reads' HO196.out).2.2 | (with_reducible refine Kd.C_alloc ?_ _) | (with_reducible refine Kd.C_drewN ?_ _) | (with_reducible refine Kd.C_drew ?_))); (case side4 => exact (Kd.R_reads' HO196.out).2.1); rintro e w24 ⟨rfl, hb⟩; refine ⟨_, rfl, ?_⟩; have n0_ := Aside0.mk (Kd.R_below (by (with_reducible repeat (first | apply Kd.R_alloc | apply Kd.R_drewN | apply Kd.R_drew)); exact HO192.out) hb); have n1_ := Aside0.mk (Kd.R_below (by (with_reducible repeat (first | apply Kd.R_alloc | apply Kd.R_drewN | apply Kd.R_drew)); exact HO196.out) hb); have n2_ := Aside0.mk (Kd.R_below (by (with_reducible repeat (first | apply Kd.R_alloc | apply Kd.R_drewN | apply Kd.R_drew)); exact HO201.out) hb); have n3_ := Aside0.mk (below_step (by repeat (first | (with_reducible first | exact HB.out | apply below_alloc | apply pw_below_drewN | apply below_drew1) | exact HB.out)) hb); clear HO192; clear HO196; clear HO201; clear HB; have HO192 := n0_; have HO196 := n1_; have HO201 := n2_; have HB := n3_; clear n0_ n1_ n2_ n3_; (try clear hb); (try clear hb2); (try clear hk); (try clear hi)))
              (try simp only [Act.put, List.setIfInBounds_toArray, List.set_cons_zero, List.set_cons_succ])
              go_cut [58] (fun v58 wc => ∃ (kq : Nat) (x58_16 : Bool), v58 = .bool x58_16 ∧ Aside0 (weighhouselaw06_ShapeWays.j1 kq l0 (Int.tmod (wrap64 ((Int.tmod a1 (l0.length : Int)) + (l0.length : Int))) (l0.length : Int)) t193 t202 x58_16 = some r) ∧ Aside0 (kq ≤ kj3) ∧ Aside0 (Kd.R (Kd.int .i64) 3 wc w.heap.size (fun _ => True) (.slice Ao21 t193.length co21) t193) ∧ Aside0 (Below w.heap.size w wc))
              case first =>
                have H := HC17.out
                clear HC17
                obtain ⟨ji25, hji25⟩ : ∃ j_ : Int, (Int.tmod (wrap64 ((Int.tmod a1 (l0.length : Int)) + (l0.length : Int))) (l0.length : Int)) = j_ := ⟨_, rfl⟩
                replace H : (if 0 ≤ (ji25) then (if (ji25) < (l0.length : Int) then (if ((rd_T31 l0 (ji25)).f0) = 50 then (weighhouselaw06_ShapeWays.j1 kj3 l0 ji25 t193 t202 a2) else (weighhouselaw06_ShapeWays.j1 kj3 l0 ji25 t193 t202 false)) else (none)) else (none)) = some r := by first | (rw [hji25] at H; exact H) | (simp only [hji25] at H ⊢; exact H)
                by_cases c26 : 0 ≤ (ji25)
                · rw [if_pos c26] at H
                  have c26b0 : decide (0 ≤ (ji25)) = true := decide_eq_true c26
                  clear c26
                  (first | rw [c26b0] | (simp only [i64_w, i32_w]; rw [c26b0]) | skip)
                  by_cases c27 : (ji25) < (l0.length : Int)
                  · rw [if_pos c27] at H
                    have c27b0 : decide ((ji25) < (l0.length : Int)) = true := decide_eq_true c27
                    clear c27
                    by_cases c28 : ((rd_T31 l0 (ji25)).f0) = 50
                    · rw [if_pos c28] at H
                      have c28b0 : (((rd_T31 l0 (ji25)).f0) == 50) = true := beq_iff_eq.mpr c28
                      have c28b1 : (((rd_T31 l0 (ji25)).f0) != 50) = false := bne_eq_false_iff_eq.mpr c28
                      clear c28
                      have H' := Aside0.mk H
                      clear H
                      have p203 : 0 ≤ ((ji25) : Int) := of_decide_eq_true (by first | (with_reducible assumption) | assumption)
                      have q203 : (ji25) < (l0.length : Int) := of_decide_eq_true (by first | (with_reducible assumption) | assumption)
                      obtain ⟨ad203, e203, hx203_0, hx203_1⟩ := at_T31 HR0.out (ji25) p203 q203
                      cases e203
                      replace hx203_0 := (HB.out.cell (World.block_lt_of_cell? w _ hx203_0)).trans hx203_0
                      replace hx203_1 := (HB.out.cell (World.block_lt_of_cell? w _ hx203_1)).trans hx203_1
                      replace p203 := eq_true p203
                      replace q203 := eq_true q203
                      go_wp2
                      go_meet
                      case rel => exact ⟨_, (a2), (by first | rfl | (simp; done) | (simp [*]; done)), (by first | exact H' | exact ⟨by rw [hji25]; exact H'.out⟩ | exact ⟨by simp only [hji25]; exact H'.out⟩), ⟨by have := HJ3.out; first | omega | exact Nat.le_refl _⟩, ⟨by (with_reducible repeat (first | apply Kd.R_alloc | apply Kd.R_drewN | apply Kd.R_drew)); exact HO196.out⟩, ⟨by repeat (first | (with_reducible first | exact HB.out | apply below_alloc | apply pw_below_drewN | apply below_drew1) | exact HB.out)⟩⟩
                    · rw [if_neg c28] at H
                      have c28b0 : (((rd_T31 l0 (ji25)).f0) == 50) = false := beq_eq_false_iff_ne.mpr c28
                      have c28b1 : (((rd_T31 l0 (ji25)).f0) != 50) = true := bne_iff_ne.mpr c28
                      have H' := Aside0.mk H
                      clear H
                      have p203 : 0 ≤ ((ji25) : Int) := of_decide_eq_true (by first | (with_reducible assumption) | assumption)
                      have q203 : (ji25) < (l0.length : Int) := of_decide_eq_true (by first | (with_reducible assumption) | assumption)
                      obtain ⟨ad203, e203, hx203_0, hx203_1⟩ := at_T31 HR0.out (ji25) p203 q203
                      cases e203
                      replace hx203_0 := (HB.out.cell (World.block_lt_of_cell? w _ hx203_0)).trans hx203_0
                      replace hx203_1 := (HB.out.cell (World.block_lt_of_cell? w _ hx203_1)).trans hx203_1
                      replace p203 := eq_true p203
                      replace q203 := eq_true q203
                      go_wp2
                      go_meet
                      case rel => exact ⟨_, (false), (by first | rfl | (simp; done) | (simp [*]; done)), (by first | exact H' | exact ⟨by rw [hji25]; exact H'.out⟩ | exact ⟨by simp only [hji25]; exact H'.out⟩), ⟨by have := HJ3.out; first | omega | exact Nat.le_refl _⟩, ⟨by (with_reducible repeat (first | apply Kd.R_alloc | apply Kd.R_drewN | apply Kd.R_drew)); exact HO196.out⟩, ⟨by repeat (first | (with_reducible first | exact HB.out | apply below_alloc | apply pw_below_drewN | apply below_drew1) | exact HB.out)⟩⟩
                  · rw [if_neg c27] at H
                    exact absurd H (by simp)
                · rw [if_neg c26] at H
                  exact absurd H (by simp)
              case rest =>
                clear HC17
                try clear c1
                try clear c2
                try clear p2
                try clear q2
                try clear hx2
                try clear c5
                try clear c5b0
                try clear c5b1
                try clear c5b2
                try clear c6
                try clear p6
                try clear c9
                try clear c10
                try clear c11
                try clear c12
                try clear c12b0
                try clear c12b1
                try clear c13
                try clear c13b0
                try clear c13b1
                try clear c13b2
                try clear c14
                try clear c14b0
                try clear c14b1
                try clear c14b2
                try clear p20
                try clear q20
                try clear hx20
                try clear c26
                try clear c26b0
                try clear c27
                try clear c27b0
                try clear c28
                try clear c28b0
                try clear c28b1
                try clear hx203_0
                try clear hx203_1
                try clear p2
                try clear p203
                try clear q203
                obtain ⟨kq, x58_16, rfl, HA, HJ16, HO_7, HB⟩ := hcut
                cases kq with
                | zero => exact absurd HA.out (by simp [weighhouselaw06_ShapeWays.j1])
                | succ kj16 =>
                  have H := HA.out
                  clear HA
                  simp only [weighhouselaw06_ShapeWays.j1] at H
                  by_cases c29 : x58_16 = true
                  · subst c29
                    have H1 : (if 0 ≤ (Int.tmod (wrap64 ((Int.tmod a1 (l0.length : Int)) + (l0.length : Int))) (l0.length : Int)) then (if (Int.tmod (wrap64 ((Int.tmod a1 (l0.length : Int)) + (l0.length : Int))) (l0.length : Int)) < (t193.length : Int) then (if t202 = (wrap64 ((rd t193 (Int.tmod (wrap64 ((Int.tmod a1 (l0.length : Int)) + (l0.length : Int))) (l0.length : Int))) + 1)) then (if t202 ≤ (Int.tmod (wrap64 ((Int.tmod a1 (l0.length : Int)) + (l0.length : Int))) (l0.length : Int)) then ((weighhouselaw06_knows.f kj16).bind fun t205 => (some t205)) else (some false)) else (some false)) else (none)) else (none)) = some r := by rw [if_pos rfl] at H; exact H
                    clear H
                    have H := H1
                    clear H1
                    obtain ⟨ji30, hji30⟩ : ∃ j_ : Int, (Int.tmod (wrap64 ((Int.tmod a1 (l0.length : Int)) + (l0.length : Int))) (l0.length : Int)) = j_ := ⟨_, rfl⟩
                    replace H : (if 0 ≤ (ji30) then (if (ji30) < (t193.length : Int) then (if t202 = (wrap64 ((rd t193 (ji30)) + 1)) then (if t202 ≤ (ji30) then ((weighhouselaw06_knows.f kj16).bind fun t205 => (some t205)) else (some false)) else (some false)) else (none)) else (none)) = some r := by first | (rw [hji30] at H; exact H) | (simp only [hji30] at H ⊢; exact H)
                    by_cases c31 : 0 ≤ (ji30)
                    · rw [if_pos c31] at H
                      have c31b0 : decide (0 ≤ (ji30)) = true := decide_eq_true c31
                      clear c31
                      by_cases c32 : (ji30) < (t193.length : Int)
                      · rw [if_pos c32] at H
                        have c32b0 : decide ((ji30) < (t193.length : Int)) = true := decide_eq_true c32
                        clear c32
                        by_cases c33 : t202 = (wrap64 ((rd t193 (ji30)) + 1))
                        · rw [if_pos c33] at H
                          have c33b0 : (t202 == (wrap64 ((rd t193 (ji30)) + 1))) = true := beq_iff_eq.mpr c33
                          have c33b1 : (t202 != (wrap64 ((rd t193 (ji30)) + 1))) = false := bne_eq_false_iff_eq.mpr c33
                          clear c33
                          by_cases c34 : t202 ≤ (ji30)
                          · rw [if_pos c34] at H
                            have c34b0 : decide (t202 ≤ (ji30)) = true := decide_eq_true c34
                            clear c34
                            replace H := Option.bind_eq_some_iff.mp H
                            obtain ⟨t205, A350, H⟩ := H
                            replace H : (some t205) = some r := H
                            have A35 := Aside0.mk A350
                            clear A350
                            obtain rfl := Option.some.inj H
                            have p204 : 0 ≤ ((ji30) : Int) := of_decide_eq_true (by first | (with_reducible assumption) | assumption)
                            have q204 : (ji30) < (t193.length : Int) := of_decide_eq_true (by first | (with_reducible assumption) | assumption)
                            obtain ⟨ad204, e204, hx204_0⟩ := Kd.at_int (Kd.R_reads' HO_7.out).2.2 (ji30) p204 q204
                            cases e204
                            replace p204 := eq_true p204
                            replace q204 := eq_true q204
                            go_wp2_with (first | (go_at_call 9; (with_reducible refine (weighhouselaw06_knows.calls kj16  t205 _ A35.out).mono ?_); rintro e w36 ⟨rfl, hb⟩; have n0_ := Aside0.mk (Kd.R_below (by (with_reducible repeat (first | apply Kd.R_alloc | apply Kd.R_drewN | apply Kd.R_drew)); exact HO_7.out) hb); have n1_ := Aside0.mk (below_step (by repeat (first | (with_reducible first | exact HB.out | apply below_alloc | apply pw_below_drewN | apply below_drew1) | exact HB.out)) hb); clear HO_7; clear HB; have HO_7 := n0_; have HB := n1_; clear n0_ n1_; (try clear hb); (try clear hb2); (try clear hk); (try clear hi)))
                            go_ret
                            exact ⟨by first | rfl | (simp [errW_none, errW_some] <;> rfl) | (simp only [← hji30]; first | rfl | (simp [errW_none, errW_some] <;> rfl)) | (simp [*, errW_none, errW_some] <;> rfl), by repeat (first | (with_reducible first | exact HB.out | apply below_alloc | apply pw_below_drewN | apply below_drew1) | exact HB.out)⟩
                          · rw [if_neg c34] at H
                            have c34b0 : decide (t202 ≤ (ji30)) = false := decide_eq_false c34
                            clear c34
                            obtain rfl := Option.some.inj H
                            have p204 : 0 ≤ ((ji30) : Int) := of_decide_eq_true (by first | (with_reducible assumption) | assumption)
                            have q204 : (ji30) < (t193.length : Int) := of_decide_eq_true (by first | (with_reducible assumption) | assumption)
                            obtain ⟨ad204, e204, hx204_0⟩ := Kd.at_int (Kd.R_reads' HO_7.out).2.2 (ji30) p204 q204
                            cases e204
                            replace p204 := eq_true p204
                            replace q204 := eq_true q204
                            go_wp2
                            go_ret
                            exact ⟨by first | rfl | (simp [errW_none, errW_some] <;> rfl) | (simp only [← hji30]; first | rfl | (simp [errW_none, errW_some] <;> rfl)) | (simp [*, errW_none, errW_some] <;> rfl), by repeat (first | (with_reducible first | exact HB.out | apply below_alloc | apply pw_below_drewN | apply below_drew1) | exact HB.out)⟩
                        · rw [if_neg c33] at H
                          have c33b0 : (t202 == (wrap64 ((rd t193 (ji30)) + 1))) = false := beq_eq_false_iff_ne.mpr c33
                          have c33b1 : (t202 != (wrap64 ((rd t193 (ji30)) + 1))) = true := bne_iff_ne.mpr c33
                          obtain rfl := Option.some.inj H
                          have p204 : 0 ≤ ((ji30) : Int) := of_decide_eq_true (by first | (with_reducible assumption) | assumption)
                          have q204 : (ji30) < (t193.length : Int) := of_decide_eq_true (by first | (with_reducible assumption) | assumption)
                          obtain ⟨ad204, e204, hx204_0⟩ := Kd.at_int (Kd.R_reads' HO_7.out).2.2 (ji30) p204 q204
                          cases e204
                          replace p204 := eq_true p204
                          replace q204 := eq_true q204
                          go_wp2
                          go_ret
                          exact ⟨by first | rfl | (simp [errW_none, errW_some] <;> rfl) | (simp only [← hji30]; first | rfl | (simp [errW_none, errW_some] <;> rfl)) | (simp [*, errW_none, errW_some] <;> rfl), by repeat (first | (with_reducible first | exact HB.out | apply below_alloc | apply pw_below_drewN | apply below_drew1) | exact HB.out)⟩
                      · rw [if_neg c32] at H
                        exact absurd H (by simp)
                    · rw [if_neg c31] at H
                      exact absurd H (by simp)
                  · replace c29 := Bool.eq_false_iff.mpr c29
                    subst c29
                    have H1 : (if t202 > (Int.tmod (wrap64 ((Int.tmod a1 (l0.length : Int)) + (l0.length : Int))) (l0.length : Int)) then (if t202 ≤ (l0.length : Int) then ((weighhouselaw06_knows.f kj16).bind fun t206 => (some t206)) else (some false)) else (some false)) = some r := by rw [if_neg (show ¬ (false = true) by decide)] at H; exact H
                    clear H
                    have H := H1
                    clear H1
                    by_cases c37 : t202 > (Int.tmod (wrap64 ((Int.tmod a1 (l0.length : Int)) + (l0.length : Int))) (l0.length : Int))
                    · rw [if_pos c37] at H
                      have c37b0 : decide ((Int.tmod (wrap64 ((Int.tmod a1 (l0.length : Int)) + (l0.length : Int))) (l0.length : Int)) < t202) = true := decide_eq_true c37
                      clear c37
                      by_cases c38 : t202 ≤ (l0.length : Int)
                      · rw [if_pos c38] at H
                        have c38b0 : decide (t202 ≤ (l0.length : Int)) = true := decide_eq_true c38
                        clear c38
                        replace H := Option.bind_eq_some_iff.mp H
                        obtain ⟨t206, A390, H⟩ := H
                        replace H : (some t206) = some r := H
                        have A39 := Aside0.mk A390
                        clear A390
                        obtain rfl := Option.some.inj H
                        go_wp2_with (first | (go_at_call 9; (with_reducible refine (weighhouselaw06_knows.calls kj16  t206 _ A39.out).mono ?_); rintro e w40 ⟨rfl, hb⟩; have n0_ := Aside0.mk (Kd.R_below (by (with_reducible repeat (first | apply Kd.R_alloc | apply Kd.R_drewN | apply Kd.R_drew)); exact HO_7.out) hb); have n1_ := Aside0.mk (below_step (by repeat (first | (with_reducible first | exact HB.out | apply below_alloc | apply pw_below_drewN | apply below_drew1) | exact HB.out)) hb); clear HO_7; clear HB; have HO_7 := n0_; have HB := n1_; clear n0_ n1_; (try clear hb); (try clear hb2); (try clear hk); (try clear hi)))
                        go_ret
                        exact ⟨by first | rfl | (simp [errW_none, errW_some] <;> rfl) | (simp [*, errW_none, errW_some] <;> rfl), by repeat (first | (with_reducible first | exact HB.out | apply below_alloc | apply pw_below_drewN | apply below_drew1) | exact HB.out)⟩
                      · rw [if_neg c38] at H
                        have c38b0 : decide (t202 ≤ (l0.length : Int)) = false := decide_eq_false c38
                        clear c38
                        obtain rfl := Option.some.inj H
                        go_wp2
                        go_ret
                        exact ⟨by first | rfl | (simp [errW_none, errW_some] <;> rfl) | (simp [*, errW_none, errW_some] <;> rfl), by repeat (first | (with_reducible first | exact HB.out | apply below_alloc | apply pw_below_drewN | apply below_drew1) | exact HB.out)⟩
                    · rw [if_neg c37] at H
                      have c37b0 : decide ((Int.tmod (wrap64 ((Int.tmod a1 (l0.length : Int)) + (l0.length : Int))) (l0.length : Int)) < t202) = false := decide_eq_false c37
                      clear c37
                      obtain rfl := Option.some.inj H
                      go_wp2
                      go_ret
                      exact ⟨by first | rfl | (simp [errW_none, errW_some] <;> rfl) | (simp [*, errW_none, errW_some] <;> rfl), by repeat (first | (with_reducible first | exact HB.out | apply below_alloc | apply pw_below_drewN | apply below_drew1) | exact HB.out)⟩
          · rw [if_neg c13] at H
            have c13b0 : ((t193.length : Int) == (l0.length : Int)) = false := beq_eq_false_iff_ne.mpr c13
            have c13b1 : ((t193.length : Int) != (l0.length : Int)) = true := bne_iff_ne.mpr c13
            have c13b2 : (t193.length == l0.length) = false := by first | simpa using c13 | (simp at c13 ⊢; omega)
            obtain rfl := Option.some.inj H
            go_wp2_with (first | ((with_reducible refine gate_callee (f := 11) rfl ?_); refine goesL_ (some 21) rfl rfl Try.func11 (by kernel_rfl) rfl #[.slice A0 l0.length c0] rfl (by (try simp only [List.map_toArray, List.map_cons, List.map_nil]); first | done | rfl | (simp only [List.length_drop, List.length_take]; rfl)) ?_; (with_reducible refine (weighhouselaw06_Own.calls _ _ l0 t190 _ ?side1 ?side2 A9.out).mono ?_); (case side1 => repeat (first | exact (Kd.C_below HR0.out HB.out) | (with_reducible refine Kd.C_alloc ?_ _) | (with_reducible refine Kd.C_drewN ?_ _) | (with_reducible refine Kd.C_drew ?_))); (case side2 => exact HC0.out); rintro e w41 ⟨v191, rfl, ho0, hb⟩; refine ⟨_, rfl, ?_⟩; have n0_ := Aside0.mk (Kd.R_lower ho0 (below_size (by repeat (first | (with_reducible first | exact HB.out | apply below_alloc | apply pw_below_drewN | apply below_drew1) | exact HB.out)))); have n1_ := Aside0.mk (below_step (by repeat (first | (with_reducible first | exact HB.out | apply below_alloc | apply pw_below_drewN | apply below_drew1) | exact HB.out)) hb); clear HB; have HO192 := n0_; have HB := n1_; clear n0_ n1_; (try clear hb); (try clear hb2); (try clear hk); (try clear hi); (try clear ho0); obtain ⟨Ao42, co42, eo42⟩ := Kd.R_slice HO192.out; subst eo42) | ((with_reducible refine gate_callee (f := 10) rfl ?_); refine goesL_ (some 22) rfl rfl Try.func10 (by kernel_rfl) rfl #[.slice Ao42 t190.length co42] rfl (by (try simp only [List.map_toArray, List.map_cons, List.map_nil]); first | done | rfl | (simp only [List.length_drop, List.length_take]; rfl)) ?_; (with_reducible refine (shape_Match.calls _ _ t190 t193 t194 _ ?side1 ?side2 A10.out).mono ?_); (case side1 => repeat (first | exact (Kd.R_reads' HO192.out).2.2 | (with_reducible refine Kd.C_alloc ?_ _) | (with_reducible refine Kd.C_drewN ?_ _) | (with_reducible refine Kd.C_drew ?_))); (case side2 => exact (Kd.R_reads' HO192.out).2.1); rintro e w43 ⟨v195, rfl, ho0, hb⟩; refine ⟨_, rfl, ?_⟩; have n0_ := Aside0.mk (Kd.R_below (by (with_reducible repeat (first | apply Kd.R_alloc | apply Kd.R_drewN | apply Kd.R_drew)); exact HO192.out) hb); have n1_ := Aside0.mk (Kd.R_lower ho0 (below_size (by repeat (first | (with_reducible first | exact HB.out | apply below_alloc | apply pw_below_drewN | apply below_drew1) | exact HB.out)))); have n2_ := Aside0.mk (below_step (by repeat (first | (with_reducible first | exact HB.out | apply below_alloc | apply pw_below_drewN | apply below_drew1) | exact HB.out)) hb); clear HO192; clear HB; have HO192 := n0_; have HO196 := n1_; have HB := n2_; clear n0_ n1_ n2_; (try clear hb); (try clear hb2); (try clear hk); (try clear hi); (try clear ho0)) | ((with_reducible refine gate_callee (f := 12) rfl ?_); refine goesL_ (some 26) rfl rfl Try.func12 (by kernel_rfl) rfl #[.int .i64 t194] rfl (by (try simp only [List.map_toArray, List.map_cons, List.map_nil]); first | done | rfl | (simp only [List.length_drop, List.length_take]; rfl)) ?_; (with_reducible refine (weighhouselaw06_num.calls t194 t197 _ A11.out).mono ?_); rintro e w' ⟨rfl, ⟨nd, rfl⟩⟩; refine ⟨_, rfl, ?_⟩; obtain ⟨Ao44, co44, eo44⟩ := Kd.R_slice HO196.out; subst eo44))
            go_ret
            exact ⟨by first | rfl | (simp [errW_none, errW_some] <;> rfl) | (simp [*, errW_none, errW_some] <;> rfl), by repeat (first | (with_reducible first | exact HB.out | apply below_alloc | apply pw_below_drewN | apply below_drew1) | exact HB.out)⟩
        · rw [if_neg c12] at H
          have c12b0 : (t197 == 0) = false := beq_eq_false_iff_ne.mpr c12
          have c12b1 : (t197 != 0) = true := bne_iff_ne.mpr c12
          replace H := Option.bind_eq_some_iff.mp H
          obtain ⟨t198, A450, H⟩ := H
          replace H : (some t198) = some r := H
          have A45 := Aside0.mk A450
          clear A450
          obtain rfl := Option.some.inj H
          go_wp2_with (first | ((with_reducible refine gate_callee (f := 11) rfl ?_); refine goesL_ (some 21) rfl rfl Try.func11 (by kernel_rfl) rfl #[.slice A0 l0.length c0] rfl (by (try simp only [List.map_toArray, List.map_cons, List.map_nil]); first | done | rfl | (simp only [List.length_drop, List.length_take]; rfl)) ?_; (with_reducible refine (weighhouselaw06_Own.calls _ _ l0 t190 _ ?side1 ?side2 A9.out).mono ?_); (case side1 => repeat (first | exact (Kd.C_below HR0.out HB.out) | (with_reducible refine Kd.C_alloc ?_ _) | (with_reducible refine Kd.C_drewN ?_ _) | (with_reducible refine Kd.C_drew ?_))); (case side2 => exact HC0.out); rintro e w46 ⟨v191, rfl, ho0, hb⟩; refine ⟨_, rfl, ?_⟩; have n0_ := Aside0.mk (Kd.R_lower ho0 (below_size (by repeat (first | (with_reducible first | exact HB.out | apply below_alloc | apply pw_below_drewN | apply below_drew1) | exact HB.out)))); have n1_ := Aside0.mk (below_step (by repeat (first | (with_reducible first | exact HB.out | apply below_alloc | apply pw_below_drewN | apply below_drew1) | exact HB.out)) hb); clear HB; have HO192 := n0_; have HB := n1_; clear n0_ n1_; (try clear hb); (try clear hb2); (try clear hk); (try clear hi); (try clear ho0); obtain ⟨Ao47, co47, eo47⟩ := Kd.R_slice HO192.out; subst eo47) | ((with_reducible refine gate_callee (f := 10) rfl ?_); refine goesL_ (some 22) rfl rfl Try.func10 (by kernel_rfl) rfl #[.slice Ao47 t190.length co47] rfl (by (try simp only [List.map_toArray, List.map_cons, List.map_nil]); first | done | rfl | (simp only [List.length_drop, List.length_take]; rfl)) ?_; (with_reducible refine (shape_Match.calls _ _ t190 t193 t194 _ ?side1 ?side2 A10.out).mono ?_); (case side1 => repeat (first | exact (Kd.R_reads' HO192.out).2.2 | (with_reducible refine Kd.C_alloc ?_ _) | (with_reducible refine Kd.C_drewN ?_ _) | (with_reducible refine Kd.C_drew ?_))); (case side2 => exact (Kd.R_reads' HO192.out).2.1); rintro e w48 ⟨v195, rfl, ho0, hb⟩; refine ⟨_, rfl, ?_⟩; have n0_ := Aside0.mk (Kd.R_below (by (with_reducible repeat (first | apply Kd.R_alloc | apply Kd.R_drewN | apply Kd.R_drew)); exact HO192.out) hb); have n1_ := Aside0.mk (Kd.R_lower ho0 (below_size (by repeat (first | (with_reducible first | exact HB.out | apply below_alloc | apply pw_below_drewN | apply below_drew1) | exact HB.out)))); have n2_ := Aside0.mk (below_step (by repeat (first | (with_reducible first | exact HB.out | apply below_alloc | apply pw_below_drewN | apply below_drew1) | exact HB.out)) hb); clear HO192; clear HB; have HO192 := n0_; have HO196 := n1_; have HB := n2_; clear n0_ n1_ n2_; (try clear hb); (try clear hb2); (try clear hk); (try clear hi); (try clear ho0)) | ((with_reducible refine gate_callee (f := 12) rfl ?_); refine goesL_ (some 26) rfl rfl Try.func12 (by kernel_rfl) rfl #[.int .i64 t194] rfl (by (try simp only [List.map_toArray, List.map_cons, List.map_nil]); first | done | rfl | (simp only [List.length_drop, List.length_take]; rfl)) ?_; (with_reducible refine (weighhouselaw06_num.calls t194 t197 _ A11.out).mono ?_); rintro e w' ⟨rfl, ⟨nd, rfl⟩⟩; refine ⟨_, rfl, ?_⟩) | ((with_reducible refine gate_callee (f := 9) rfl ?_); refine goesL_ (some 28) rfl rfl Try.func9 (by kernel_rfl) rfl #[] rfl (by (try simp only [List.map_toArray, List.map_cons, List.map_nil]); first | done | rfl | (simp only [List.length_drop, List.length_take]; rfl)) ?_; (with_reducible refine (weighhouselaw06_knows.calls kj3  t198 _ A45.out).mono ?_); rintro e w49 ⟨rfl, hb⟩; refine ⟨_, rfl, ?_⟩; have n0_ := Aside0.mk (Kd.R_below (by (with_reducible repeat (first | apply Kd.R_alloc | apply Kd.R_drewN | apply Kd.R_drew)); exact HO192.out) hb); have n1_ := Aside0.mk (Kd.R_below (by (with_reducible repeat (first | apply Kd.R_alloc | apply Kd.R_drewN | apply Kd.R_drew)); exact HO196.out) hb); have n2_ := Aside0.mk (below_step (by repeat (first | (with_reducible first | exact HB.out | apply below_alloc | apply pw_below_drewN | apply below_drew1) | exact HB.out)) hb); clear HO192; clear HO196; clear HB; have HO192 := n0_; have HO196 := n1_; have HB := n2_; clear n0_ n1_ n2_; (try clear hb); (try clear hb2); (try clear hk); (try clear hi)))
          go_ret
          exact ⟨by first | rfl | (simp [errW_none, errW_some] <;> rfl) | (simp [*, errW_none, errW_some] <;> rfl), by repeat (first | (with_reducible first | exact HB.out | apply below_alloc | apply pw_below_drewN | apply below_drew1) | exact HB.out)⟩

end Go.Proofs.Ytbdmbkmokhaflaa.Q
end

section
/- what the readings of the parameters of ShapeWays give -/
set_option linter.unusedVariables false
set_option linter.unusedSimpArgs false
namespace Go.Proofs.Ytbdmbkmokhaflaa.OpShapeWays
open Go.RowKit Go.Proofs.YtbdmbkmokhaflaaW.PrintWords Go.Proofs.YtbdmbkmokhaflaaW.Hb Go.Proofs.YtbdmbkmokhaflaaW.Ho Go.Proofs.Ytbdmbkmokhaflaa.Q

theorem opens_slice' {P : Program} {t : TypeId} {α : Type} {d : Kd α} {e B : Nat} {Q : α → Prop} (ht : P.underlying t = some (.slice e)) (hs : P.cellsOf e = d.sz) (hB : P.bytesOf e = B) (hp : Opens P d e Q) :
    Opens P (Kd.slice e d) t (fun xs => xs.length * B ≤ reachBytes ∧ xs.length ≤ maxLen ∧ ∀ x ∈ xs, Q x) := by
  subst hB
  exact opens_slice ht hs hp
def QS31 (x : S31) : Prop := ((Lit.int .i64 (x.f0)).wf = true) ∧ ((Lit.int .i64 (x.f1)).wf = true)
theorem open_S31 : Opens Try.prog k31 31 QS31 := by
  intro H enc w base spare held fuel cs x h hw
  obtain ⟨xs, n, _, hx, hl, hxl, hf⟩ := DataW.trod_struct Try.underlying31 h
  rw [show Try.prog.cellsOf 31 = 2 from by kernel_rfl] at hl
  obtain ⟨c0, c1, rfl⟩ : ∃ c0 c1, cs = [c0, c1] := by
    clear hf hx h
    match cs, hl with
    | [c0, c1], _ => exact ⟨c0, c1, rfl⟩
  obtain ⟨y0, y1, rfl⟩ : ∃ y0 y1, xs = [y0, y1] := by
    have hxl2 : xs.length = 2 := hxl
    clear hxl hf hx
    match xs, hxl2 with
    | [y0, y1], _ => exact ⟨y0, y1, rfl⟩
  subst hx
  have g0 : DataW.trod enc Try.prog w base spare held n 3 (([c0, c1].drop 0).take (Try.prog.cellsOf 3)) = some y0 := hf 0 _ rfl
  rw [show Try.prog.cellsOf 3 = 1 from by kernel_rfl] at g0
  replace g0 : DataW.trod enc Try.prog w base spare held n 3 [c0] = some y0 := g0
  obtain ⟨v0, K0, q0⟩ := (opens_int Try.underlying3) enc w base spare held n _ _ g0 (fun m hm => hw m (weights_field (j := 0) (tj := 3) Try.underlying31 rfl rfl m hm))
  have g1 : DataW.trod enc Try.prog w base spare held n 3 (([c0, c1].drop 1).take (Try.prog.cellsOf 3)) = some y1 := hf 1 _ rfl
  rw [show Try.prog.cellsOf 3 = 1 from by kernel_rfl] at g1
  replace g1 : DataW.trod enc Try.prog w base spare held n 3 [c1] = some y1 := g1
  obtain ⟨v1, K1, q1⟩ := (opens_int Try.underlying3) enc w base spare held n _ _ g1 (fun m hm => hw m (weights_field (j := 1) (tj := 3) Try.underlying31 rfl rfl m hm))
  exact ⟨⟨v0, v1⟩, ⟨[c0], [c1], rfl, K0, K1⟩, ⟨q0, q1⟩⟩
end Go.Proofs.Ytbdmbkmokhaflaa.OpShapeWays
end

section
/- the pure statement of ShapeWays -/
namespace Go.Proofs.Ytbdmbkmokhaflaa.PuShapeWays
open Go.RowKit Go.Proofs.YtbdmbkmokhaflaaW.PrintWords Go.Proofs.YtbdmbkmokhaflaaW.Hb Go.Proofs.YtbdmbkmokhaflaaW.Ho Go.Proofs.Ytbdmbkmokhaflaa.Q Go.Proofs.Ytbdmbkmokhaflaa.OpShapeWays
def Pure : Prop := ∀ (x0 : List (S31)) (x1 : Int) (x2 : Bool), ((x0).length * 16 ≤ reachBytes ∧ (x0).length ≤ maxLen ∧ ∀ y ∈ (x0), QS31 (y)) → (Lit.int .i64 (x1)).wf = true → True → ∃ k, weighhouselaw06_ShapeWays.f k x0 x1 x2 = some true
end Go.Proofs.Ytbdmbkmokhaflaa.PuShapeWays
end

section
/- layer 6, plain: what closes a block, read from its opener on; the scan with a stack -/
set_option linter.unusedVariables false
set_option linter.unusedSimpArgs false
namespace Go.Shape6

/-- Looking for the end of the block that a opens: running (how deep, its else), or over (its else, its end). -/
inductive CS where
  | run (d : Nat) (x : Int)
  | fin (x e : Int)
  deriving DecidableEq
def isOp (v : Int) : Bool := decide (v = 48) || decide (v = 51)
def clS (o : Nat → Int) (a i : Nat) : CS → CS
  | .fin x e => .fin x e
  | .run d x =>
    if isOp (o i) then .run (d + 1) x
    else if o i = 49 then (if d = 0 then (if 0 ≤ x ∨ o a ≠ 48 then .fin (-1) (-1) else .run 0 i) else .run d x)
    else if o i = 50 then (if d = 0 then .fin x i else .run (d - 1) x)
    else .run d x
/-- Ahead of instruction i. -/
def cl (o : Nat → Int) (a : Nat) : Nat → CS
  | 0 => .run 0 (-1)
  | i + 1 => if i ≤ a then .run 0 (-1) else clS o a i (cl o a i)
theorem cl_start (o : Nat → Int) (a : Nat) : cl o a (a + 1) = .run 0 (-1) := by simp [cl]
theorem cl_succ (o : Nat → Int) (a i : Nat) (h : a < i) : cl o a (i + 1) = clS o a i (cl o a i) := by
  rw [cl, if_neg (by omega)]
theorem cl_fin_mono {o : Nat → Int} {a i j : Nat} {x e : Int} (h : cl o a i = .fin x e) (ha : a < i) (hij : i ≤ j) : cl o a j = .fin x e := by
  induction j with
  | zero => omega
  | succ j ih =>
    rcases Nat.lt_or_ge i (j + 1) with hlt | hge
    · rw [cl_succ o a j (by omega), ih (by omega)]
      rfl
    · obtain rfl : i = j + 1 := by omega
      exact h
/-- What holds while it runs, and when it is over. -/
def clOk (o : Nat → Int) (a i : Nat) : CS → Prop
  | .run d x => x = -1 ∨ ((a : Int) < x ∧ x < i ∧ o x.toNat = 49 ∧ o a = 48)
  | .fin x e => (x = -1 ∧ e = -1) ∨ ((a : Int) < e ∧ e < i ∧ o e.toNat = 50 ∧ (x = -1 ∨ ((a : Int) < x ∧ x < e ∧ o x.toNat = 49 ∧ o a = 48)))
theorem cl_ok (o : Nat → Int) (a i : Nat) (h : a < i) : clOk o a i (cl o a i) := by
  induction i with
  | zero => omega
  | succ i ih =>
    by_cases hai : a < i
    · rw [cl_succ o a i hai]
      have h := ih hai
      cases hc : cl o a i with
      | fin x e =>
        rw [hc] at h
        simp only [clS, clOk] at h ⊢
        rcases h with h | ⟨h1, h2, h3, h4⟩
        · exact .inl h
        · exact .inr ⟨h1, by omega, h3, h4⟩
      | run d x =>
        rw [hc] at h
        simp only [clOk] at h
        have hx : x = -1 ∨ ((a : Int) < x ∧ x < (i + 1 : Nat) ∧ o x.toNat = 49 ∧ o a = 48) := by
          rcases h with h | ⟨h1, h2, h3⟩
          · exact .inl h
          · exact .inr ⟨h1, by omega, h3⟩
        unfold clS
        dsimp only
        split
        · exact hx
        · split
          · split
            · split
              · exact .inl ⟨rfl, rfl⟩
              · rename_i h49 _ hn
                refine .inr ⟨by omega, by omega, by simpa using h49, ?_⟩
                have : ¬ o a ≠ 48 := fun hh => hn (.inr hh)
                omega
            · exact hx
          · split
            · split
              · rename_i h50 _
                refine .inr ⟨by omega, by omega, by simpa using h50, ?_⟩
                rcases h with h | ⟨h1, h2, h3⟩
                · exact .inl h
                · exact .inr ⟨h1, h2, h3⟩
              · exact hx
            · exact hx
    · obtain rfl : i = a := by omega
      rw [cl_start]
      exact .inl rfl
/-- Of two that run, the inner one runs less deep. -/
theorem cl_nest {o : Nat → Int} {a b i : Nat} {d d' : Nat} {x x' : Int} (hab : a < b) (hbi : b < i) (hb : isOp (o b) = true)
    (h : cl o a i = .run d x) (h' : cl o b i = .run d' x') : d' < d := by
  induction i generalizing d d' x x' with
  | zero => omega
  | succ i ih =>
    rw [cl_succ o a i (by omega)] at h
    by_cases hbi' : b < i
    · rw [cl_succ o b i hbi'] at h'
      cases hc : cl o a i with
      | fin _ _ => rw [hc] at h; cases h
      | run e y =>
        cases hc' : cl o b i with
        | fin _ _ => rw [hc'] at h'; cases h'
        | run e' y' =>
          have hi := ih hbi' hc hc'
          rw [hc] at h
          rw [hc'] at h'
          unfold clS at h h'
          dsimp only at h h'
          split at h
          · rename_i ho
            rw [if_pos ho] at h'
            cases h; cases h'
            omega
          · rename_i ho
            rw [if_neg ho] at h'
            split at h
            · rename_i h9
              rw [if_pos h9] at h'
              rw [if_neg (by omega)] at h
              cases h
              split at h'
              · split at h'
                · cases h'
                · cases h'
                  omega
              · cases h'
                omega
            · rename_i h9
              rw [if_neg h9] at h'
              split at h
              · rename_i h0
                rw [if_pos h0] at h'
                rw [if_neg (by omega)] at h
                cases h
                split at h'
                · cases h'
                · cases h'
                  omega
              · rename_i h0
                rw [if_neg h0] at h'
                cases h; cases h'
                omega
    · obtain rfl : b = i := by omega
      rw [cl_start] at h'
      cases h'
      cases hc : cl o a b with
      | fin _ _ => rw [hc] at h; cases h
      | run e y =>
        rw [hc] at h
        unfold clS at h
        dsimp only at h
        rw [if_pos hb] at h
        cases h
        omega
/-- An outer block is not over while an inner one runs: if a is over (with a true end) ahead of i and b > a runs at i, then b was opened behind a's end. -/
theorem cl_over {o : Nat → Int} {a b i : Nat} {d' : Nat} {x e x' : Int} (hab : a < b) (hbi : b < i) (hb : isOp (o b) = true)
    (h : cl o a i = .fin x e) (h' : cl o b i = .run d' x') : cl o a (b + 1) = .fin x e := by
  induction i generalizing d' x' with
  | zero => omega
  | succ i ih =>
    by_cases hbi' : b < i
    · rw [cl_succ o b i hbi'] at h'
      cases hc' : cl o b i with
      | fin _ _ => rw [hc'] at h'; cases h'
      | run e' y' =>
        rw [cl_succ o a i (by omega)] at h
        cases hc : cl o a i with
        | fin _ _ =>
          rw [hc] at h
          cases h
          exact ih hbi' hc hc'
        | run d y =>
          have hn := cl_nest hab hbi' hb hc hc'
          rw [hc] at h
          unfold clS at h
          dsimp only at h
          split at h
          · cases h
          · split at h
            · rw [if_neg (by omega)] at h
              cases h
            · split at h
              · rw [if_neg (by omega)] at h
                cases h
              · cases h
    · obtain rfl : b = i := by omega
      exact h
end Go.Shape6
end

section
/- layer 6: what the stack of the scan says of the closing of blocks -/
set_option linter.unusedVariables false
set_option linter.unusedSimpArgs false
namespace Go.Proofs.Ytbdmbkmokhaflaa.Th
open Go.Shape6 Go.Proofs.Ytbdmbkmokhaflaa.Q

structure L1 (o : Nat → Int) (i : Nat) (g : List (Nat × Int)) : Prop where
  fr : ∀ (j a : Nat) (x : Int), g[j]? = some (a, x) → a < i ∧ isOp (o a) = true ∧ cl o a i = .run (g.length - 1 - j) x
  up : ∀ (j j' a : Nat) (x : Int) (a' : Nat) (x' : Int), j < j' → g[j]? = some (a, x) → g[j']? = some (a', x') → a < a'
  cl_ : ∀ a, a < i → isOp (o a) = true → (∀ (j : Nat) (x : Int), g[j]? ≠ some (a, x)) → ∃ x e, cl o a i = .fin x e ∧ 0 ≤ e
  el : ∀ k : Nat, k < i → o k = 49 → ∃ a, a < k ∧ isOp (o a) = true ∧ ((∃ d, cl o a i = .run d k) ∨ ∃ e, cl o a i = .fin k e ∧ 0 ≤ e)
  en : ∀ k : Nat, k < i → o k = 50 → ∃ a, a < k ∧ isOp (o a) = true ∧ ∃ x, cl o a i = .fin x k
theorem isOp_iff {v : Int} : isOp v = true ↔ v = 48 ∨ v = 51 := by simp [isOp]
theorem isOp_not {v : Int} (h : ¬ (v = 48 ∨ v = 51)) : isOp v = false := by
  cases he : isOp v
  · rfl
  · exact absurd (isOp_iff.1 he) h
variable {o : Nat → Int} {i : Nat} {g : List (Nat × Int)}
theorem lt_of_get {α : Type} {l : List α} {j : Nat} {v : α} (h : l[j]? = some v) : j < l.length := by
  rcases Nat.lt_or_ge j l.length with hl | hl
  · exact hl
  · rw [List.getElem?_eq_none hl] at h
    cases h
/-- An opener that runs is on the stack. -/
theorem L1.run_ (h : L1 o i g) {a d : Nat} {x : Int} (ha : a < i) (ho : isOp (o a) = true) (hc : cl o a i = .run d x) : ∃ j, g[j]? = some (a, x) ∧ d = g.length - 1 - j := by
  by_cases hn : ∃ (j : Nat) (y : Int), g[j]? = some (a, y)
  · obtain ⟨j, y, hj⟩ := hn
    have h1 := (h.fr j a y hj).2.2
    rw [hc] at h1
    injection h1 with h2 h3
    exact ⟨j, by rw [hj, h3], h2⟩
  · obtain ⟨y, e, h1, _⟩ := h.cl_ a ha ho (fun j y hj => hn ⟨j, y, hj⟩)
    rw [hc] at h1
    cases h1
theorem L1.fin_ {a : Nat} {x e : Int} (ha : a < i) (hc : cl o a i = .fin x e) : cl o a (i + 1) = .fin x e := cl_fin_mono hc ha (Nat.le_succ i)
theorem L1.start (o : Nat → Int) : L1 o 0 [] := ⟨fun j a x h => by simp at h, fun j j' a x a' x' _ h => by simp at h, fun a h => absurd h (Nat.not_lt_zero a), fun k h => absurd h (Nat.not_lt_zero k), fun k h => absurd h (Nat.not_lt_zero k)⟩
theorem L1.push (h : L1 o i g) (ho : isOp (o i) = true) : L1 o (i + 1) (g ++ [(i, -1)]) := by
  have hs : ∀ {a d : Nat} {x : Int}, a < i → cl o a i = .run d x → cl o a (i + 1) = .run (d + 1) x := by
    intro a d x ha hc
    rw [cl_succ o a i ha, hc]
    unfold clS
    dsimp only
    rw [if_pos ho]
  have hb := isOp_iff.1 ho
  refine ⟨fun j a x hj => ?_, fun j j' a x a' x' hjj hj hj' => ?_, fun a ha hoa hn => ?_, fun k hk hk9 => ?_, fun k hk hk0 => ?_⟩
  · rw [List.getElem?_append] at hj
    split at hj
    · rename_i hl
      obtain ⟨h1, h2, h3⟩ := h.fr j a x hj
      refine ⟨by omega, h2, ?_⟩
      rw [hs h1 h3]
      congr 1
      simp
      omega
    · rename_i hl
      have h0 := lt_of_get hj
      simp at h0
      have e0 : j - g.length = 0 := by omega
      rw [e0] at hj
      simp at hj
      obtain ⟨rfl, rfl⟩ := hj
      refine ⟨by omega, ho, ?_⟩
      rw [cl_start]
      congr 1
      simp
      omega
  · rw [List.getElem?_append] at hj hj'
    split at hj'
    · rename_i hl
      rw [if_pos (by omega)] at hj
      exact h.up j j' a x a' x' hjj hj hj'
    · rename_i hl
      have h0 := lt_of_get hj'
      simp at h0
      rw [if_pos (by omega)] at hj
      have e0 : j' - g.length = 0 := by omega
      rw [e0] at hj'
      simp at hj'
      obtain ⟨rfl, rfl⟩ := hj'
      exact (h.fr j a x hj).1
  · by_cases hai : a = i
    · subst hai
      exact absurd (by simp) (hn g.length (-1))
    · obtain ⟨x, e, h1, h2⟩ := h.cl_ a (by omega) hoa (fun j x hj => hn j x (by rw [List.getElem?_append_left (lt_of_get hj)]; exact hj))
      exact ⟨x, e, L1.fin_ (by omega) h1, h2⟩
  · by_cases hki : k = i
    · subst hki
      omega
    · obtain ⟨a, h1, h2, h3⟩ := h.el k (by omega) hk9
      refine ⟨a, h1, h2, ?_⟩
      rcases h3 with ⟨d, h3⟩ | ⟨e, h3, h4⟩
      · exact .inl ⟨_, hs (by omega) h3⟩
      · exact .inr ⟨e, L1.fin_ (by omega) h3, h4⟩
  · by_cases hki : k = i
    · subst hki
      omega
    · obtain ⟨a, h1, h2, x, h3⟩ := h.en k (by omega) hk0
      exact ⟨a, h1, h2, x, L1.fin_ (by omega) h3⟩
theorem L1.skip (h : L1 o i g) (h1 : isOp (o i) = false) (h2 : o i ≠ 49) (h3 : o i ≠ 50) : L1 o (i + 1) g := by
  have hs : ∀ {a : Nat} {c : CS}, a < i → cl o a i = c → cl o a (i + 1) = c := by
    intro a c ha hc
    rw [cl_succ o a i ha, hc]
    unfold clS
    cases c
    · dsimp only
      rw [h1, if_neg (by decide), if_neg h2, if_neg h3]
    · rfl
  refine ⟨fun j a x hj => ?_, h.up, fun a ha hoa hn => ?_, fun k hk hk9 => ?_, fun k hk hk0 => ?_⟩
  · obtain ⟨a1, a2, a3⟩ := h.fr j a x hj
    exact ⟨by omega, a2, hs a1 a3⟩
  · by_cases hai : a = i
    · subst hai
      rw [h1] at hoa
      cases hoa
    · obtain ⟨x, e, b1, b2⟩ := h.cl_ a (by omega) hoa hn
      exact ⟨x, e, hs (by omega) b1, b2⟩
  · by_cases hki : k = i
    · subst hki
      exact absurd hk9 h2
    · obtain ⟨a, b1, b2, b3⟩ := h.el k (by omega) hk9
      refine ⟨a, b1, b2, ?_⟩
      rcases b3 with ⟨d, b3⟩ | ⟨e, b3, b4⟩
      · exact .inl ⟨_, hs (by omega) b3⟩
      · exact .inr ⟨e, hs (by omega) b3, b4⟩
  · by_cases hki : k = i
    · subst hki
      exact absurd hk0 h3
    · obtain ⟨a, b1, b2, x, b3⟩ := h.en k (by omega) hk0
      exact ⟨a, b1, b2, x, hs (by omega) b3⟩
theorem L1.else_ (h : L1 o i g) (h9 : o i = 49) {k0 a0 : Nat} {x0 : Int} (hk : g.length = k0 + 1) (hg : g[k0]? = some (a0, x0)) (hx : ¬ 0 ≤ x0) (ho : o a0 = 48) : L1 o (i + 1) (g.set k0 (a0, (i : Int))) := by
  have hni : isOp (o i) = false := isOp_not (by omega)
  have hdeep : ∀ {a d : Nat} {x : Int}, a < i → cl o a i = .run (d + 1) x → cl o a (i + 1) = .run (d + 1) x := by
    intro a d x ha hc
    rw [cl_succ o a i ha, hc]
    unfold clS
    dsimp only
    rw [hni, if_neg (by decide), if_pos h9, if_neg (by omega)]
  obtain ⟨t1, t2, t3⟩ := h.fr k0 a0 x0 hg
  have htop : cl o a0 (i + 1) = .run 0 i := by
    rw [cl_succ o a0 i t1, t3, hk, show k0 + 1 - 1 - k0 = 0 by omega]
    unfold clS
    dsimp only
    rw [hni, if_neg (by decide), if_pos h9, if_pos rfl, if_neg (by omega)]
  have hlow : ∀ {j a : Nat} {x : Int}, j ≠ k0 → g[j]? = some (a, x) → a < i ∧ cl o a (i + 1) = .run (g.length - 1 - j) x := by
    intro j a x hj hgj
    have hl := lt_of_get hgj
    obtain ⟨b1, b2, b3⟩ := h.fr j a x hgj
    obtain ⟨d, hd⟩ : ∃ d, g.length - 1 - j = d + 1 := ⟨g.length - 2 - j, by omega⟩
    rw [hd] at b3 ⊢
    exact ⟨b1, hdeep b1 b3⟩
  refine ⟨fun j a x hj => ?_, fun j j' a x a' x' hjj hj hj' => ?_, fun a ha hoa hn => ?_, fun k hk' hk9 => ?_, fun k hk' hk0 => ?_⟩
  · rw [List.length_set]
    by_cases hjk : j = k0
    · subst hjk
      rw [List.getElem?_set_self (by omega)] at hj
      cases hj
      refine ⟨by omega, t2, ?_⟩
      rw [htop, hk, show j + 1 - 1 - j = 0 by omega]
    · rw [List.getElem?_set_ne (fun e => hjk e.symm)] at hj
      obtain ⟨b1, b2⟩ := hlow hjk hj
      exact ⟨by omega, (h.fr j a x hj).2.1, b2⟩
  · have hx1 : ∃ y, g[j]? = some (a, y) := by
      by_cases hjk : j = k0
      · subst hjk
        rw [List.getElem?_set_self (by omega)] at hj
        cases hj
        exact ⟨_, hg⟩
      · rw [List.getElem?_set_ne (fun e => hjk e.symm)] at hj
        exact ⟨_, hj⟩
    have hx2 : ∃ y, g[j']? = some (a', y) := by
      by_cases hjk : j' = k0
      · subst hjk
        rw [List.getElem?_set_self (by omega)] at hj'
        cases hj'
        exact ⟨_, hg⟩
      · rw [List.getElem?_set_ne (fun e => hjk e.symm)] at hj'
        exact ⟨_, hj'⟩
    obtain ⟨y, hy⟩ := hx1
    obtain ⟨y', hy'⟩ := hx2
    exact h.up j j' a y a' y' hjj hy hy'
  · by_cases hai : a = i
    · subst hai
      rw [hni] at hoa
      cases hoa
    · obtain ⟨x, e, b1, b2⟩ := h.cl_ a (by omega) hoa (fun j x hj => by
        by_cases hjk : j = k0
        · subst hjk
          rw [hg] at hj
          cases hj
          exact hn j i (by rw [List.getElem?_set_self (by omega)])
        · exact hn j x (by rw [List.getElem?_set_ne (fun e => hjk e.symm)]; exact hj))
      exact ⟨x, e, L1.fin_ (by omega) b1, b2⟩
  · by_cases hki : k = i
    · subst hki
      exact ⟨a0, t1, t2, .inl ⟨0, htop⟩⟩
    · obtain ⟨a, b1, b2, b3⟩ := h.el k (by omega) hk9
      refine ⟨a, b1, b2, ?_⟩
      rcases b3 with ⟨d, b3⟩ | ⟨e, b3, b4⟩
      · obtain ⟨j, hj, hd⟩ := h.run_ (by omega) b2 b3
        by_cases hjk : j = k0
        · subst hjk
          rw [hg] at hj
          cases hj
          omega
        · exact .inl ⟨_, (hlow hjk hj).2⟩
      · exact .inr ⟨e, L1.fin_ (by omega) b3, b4⟩
  · by_cases hki : k = i
    · subst hki
      omega
    · obtain ⟨a, b1, b2, x, b3⟩ := h.en k (by omega) hk0
      exact ⟨a, b1, b2, x, L1.fin_ (by omega) b3⟩
theorem L1.end_ (h : L1 o i g) (h0 : o i = 50) {k0 a0 : Nat} {x0 : Int} (hk : g.length = k0 + 1) (hg : g[k0]? = some (a0, x0)) : L1 o (i + 1) (g.take k0) ∧ cl o a0 (i + 1) = .fin x0 i := by
  have hni : isOp (o i) = false := isOp_not (by omega)
  have hdeep : ∀ {a d : Nat} {x : Int}, a < i → cl o a i = .run (d + 1) x → cl o a (i + 1) = .run d x := by
    intro a d x ha hc
    rw [cl_succ o a i ha, hc]
    unfold clS
    dsimp only
    rw [hni, if_neg (by decide), if_neg (by omega), if_pos h0, if_neg (by omega)]
    rfl
  obtain ⟨t1, t2, t3⟩ := h.fr k0 a0 x0 hg
  have htop : cl o a0 (i + 1) = .fin x0 i := by
    rw [cl_succ o a0 i t1, t3, hk, show k0 + 1 - 1 - k0 = 0 by omega]
    unfold clS
    dsimp only
    rw [hni, if_neg (by decide), if_neg (by omega), if_pos h0, if_pos rfl]
  have htk : ∀ {j : Nat} {v : Nat × Int}, (g.take k0)[j]? = some v ↔ j < k0 ∧ g[j]? = some v := by
    intro j v
    rw [List.getElem?_take]
    split
    · rename_i hl
      exact ⟨fun h => ⟨hl, h⟩, fun h => h.2⟩
    · rename_i hl
      exact ⟨fun h => (by cases h), fun h => absurd h.1 hl⟩
  have hlen : (g.take k0).length = k0 := by rw [List.length_take]; omega
  refine ⟨⟨fun j a x hj => ?_, fun j j' a x a' x' hjj hj hj' => h.up j j' a x a' x' hjj (htk.1 hj).2 (htk.1 hj').2, fun a ha hoa hn => ?_, fun k hk' hk9 => ?_, fun k hk' hk0 => ?_⟩, htop⟩
  · obtain ⟨hjl, hj⟩ := htk.1 hj
    obtain ⟨b1, b2, b3⟩ := h.fr j a x hj
    rw [hlen]
    refine ⟨by omega, b2, ?_⟩
    rw [show g.length - 1 - j = (k0 - 1 - j) + 1 by omega] at b3
    exact hdeep b1 b3
  · by_cases hai : a = i
    · subst hai
      rw [hni] at hoa
      cases hoa
    · by_cases ha0 : a = a0
      · subst ha0
        exact ⟨x0, i, htop, by omega⟩
      · obtain ⟨x, e, b1, b2⟩ := h.cl_ a (by omega) hoa (fun j x hj => by
          have hl := lt_of_get hj
          by_cases hjk : j = k0
          · subst hjk
            rw [hg] at hj
            cases hj
            exact ha0 rfl
          · exact hn j x (htk.2 ⟨by omega, hj⟩))
        exact ⟨x, e, L1.fin_ (by omega) b1, b2⟩
  · by_cases hki : k = i
    · subst hki
      omega
    · obtain ⟨a, b1, b2, b3⟩ := h.el k (by omega) hk9
      refine ⟨a, b1, b2, ?_⟩
      rcases b3 with ⟨d, b3⟩ | ⟨e, b3, b4⟩
      · cases d with
        | zero =>
          obtain ⟨j, hj, hd⟩ := h.run_ (by omega) b2 b3
          have hl := lt_of_get hj
          have hjk : j = k0 := by omega
          subst hjk
          rw [hg] at hj
          cases hj
          exact .inr ⟨i, htop, by omega⟩
        | succ d => exact .inl ⟨d, hdeep (by omega) b3⟩
      · exact .inr ⟨e, L1.fin_ (by omega) b3, b4⟩
  · by_cases hki : k = i
    · subst hki
      exact ⟨a0, t1, t2, x0, htop⟩
    · obtain ⟨a, b1, b2, x, b3⟩ := h.en k (by omega) hk0
      exact ⟨a, b1, b2, x, L1.fin_ (by omega) b3⟩
end Go.Proofs.Ytbdmbkmokhaflaa.Th
end

section
/- layer 6: the scan, read: the stack, and where instructions lead -/
set_option linter.unusedVariables false
set_option linter.unusedSimpArgs false
namespace Go.Proofs.Ytbdmbkmokhaflaa.Th
open Go.Shape6 Go.Proofs.Ytbdmbkmokhaflaa.Q

def pr (b : Fr) : Nat × Int := (b.a, b.o)
abbrev opc (cs : List Ins) : Nat → Int := Q.opAt cs
/-- The loop that a Leave at k leaves. -/
def Tgt (cs : List Ins) (k a : Nat) : Prop := ∃ m0 fs0 j b, scanTo cs k = some (m0, fs0) ∧ topLoop cs (fs0.map Fr.a) = some j ∧ fs0[j]? = some b ∧ b.a = a
theorem Tgt.det {cs : List Ins} {k a a' : Nat} (h : Tgt cs k a) (h' : Tgt cs k a') : a = a' := by
  obtain ⟨m, fs, j, b, h1, h2, h3, h4⟩ := h
  obtain ⟨m', fs', j', b', h1', h2', h3', h4'⟩ := h'
  rw [h1] at h1'
  cases h1'
  rw [h2] at h2'
  cases h2'
  rw [h3] at h3'
  cases h3'
  rw [← h4, ← h4']
theorem last_get {α : Type} {l : List α} {b : α} (h : l.getLast? = some b) : ∃ k, l.length = k + 1 ∧ l[k]? = some b := by
  rw [List.getLast?_eq_getElem?] at h
  have := lt_of_get h
  exact ⟨l.length - 1, by omega, h⟩
theorem map_set_same {fs : List Fr} {j : Nat} {b b' : Fr} (h : fs[j]? = some b) (he : pr b' = pr b) : (fs.set j b').map pr = fs.map pr := by
  apply List.ext_getElem?
  intro q
  rw [List.getElem?_map, List.getElem?_map, List.getElem?_set]
  split
  · rename_i e
    subst e
    rw [if_pos (lt_of_get h), h]
    simp [he]
  · rfl
theorem setAll_get (m l : List Int) (x : Int) (k : Nat) (h0 : ∀ q ∈ l, 0 ≤ q) : (setAll m l x)[k]? = if (k : Int) ∈ l ∧ k < m.length then some x else m[k]? := by
  unfold setAll
  induction l generalizing m with
  | nil => simp
  | cons q l ih =>
    rw [List.foldl_cons, ih _ (fun y hy => h0 y (List.mem_cons_of_mem _ hy)), List.length_set, List.getElem?_set]
    have hq := h0 q (List.mem_cons_self ..)
    by_cases h1 : (k : Int) ∈ l ∧ k < m.length
    · rw [if_pos h1, if_pos ⟨List.mem_cons_of_mem _ h1.1, h1.2⟩]
    · rw [if_neg h1]
      by_cases h2 : q.toNat = k
      · rw [if_pos h2]
        by_cases h3 : k < m.length
        · rw [if_pos (by omega), if_pos ⟨by rw [List.mem_cons]; exact .inl (by omega), h3⟩]
        · rw [if_neg (by omega), if_neg (fun h => h3 h.2), List.getElem?_eq_none (by omega)]
      · rw [if_neg h2, if_neg]
        rintro ⟨h3, h4⟩
        rcases List.mem_cons.1 h3 with h3 | h3
        · omega
        · exact h1 ⟨h3, h4⟩
/-- Where the else of a block was read, it was read at depth 0. -/
theorem cl_else {o : Nat → Int} {a i : Nat} (ha : a < i) : (∀ d (x : Nat), cl o a i = .run d x → a < x ∧ x < i ∧ cl o a x = .run 0 (-1)) ∧ (∀ (x : Nat) (e : Int), 0 ≤ e → cl o a i = .fin x e → a < x ∧ x < i ∧ cl o a x = .run 0 (-1)) := by
  induction i with
  | zero => omega
  | succ i ih =>
    by_cases hai : a < i
    · obtain ⟨ih1, ih2⟩ := ih hai
      have hok := cl_ok o a i hai
      rw [cl_succ o a i hai]
      cases hc : cl o a i with
      | fin x e =>
        refine ⟨fun d x' h => (by cases h), fun x' e' he' h => ?_⟩
        cases h
        obtain ⟨h1, h2, h3⟩ := ih2 _ _ he' hc
        exact ⟨h1, by omega, h3⟩
      | run d x =>
        rw [hc] at hok
        have ih1' : ∀ x' : Nat, x = x' → a < x' ∧ x' < i + 1 ∧ cl o a x' = .run 0 (-1) := by
          intro x' hx
          subst hx
          obtain ⟨h1, h2, h3⟩ := ih1 d x' hc
          exact ⟨h1, by omega, h3⟩
        unfold clS
        dsimp only
        constructor
        · intro d' x' h
          split at h
          · cases h
            exact ih1' x' rfl
          · split at h
            · split at h
              · split at h
                · cases h
                · rename_i hd hx
                  have hxm : x = -1 := by
                    rcases hok with h5 | h5
                    · exact h5
                    · omega
                  cases h
                  exact ⟨hai, by omega, by rw [hc, hd, hxm]⟩
              · cases h
                exact ih1' x' rfl
            · split at h
              · split at h
                · cases h
                · cases h
                  exact ih1' x' rfl
              · cases h
                exact ih1' x' rfl
        · intro x' e' he' h
          split at h
          · cases h
          · split at h
            · split at h
              · split at h
                · cases h
                · cases h
              · cases h
            · split at h
              · split at h
                · cases h
                  exact ih1' x' rfl
                · cases h
              · cases h
    · obtain rfl : a = i := by omega
      rw [cl_start]
      exact ⟨fun d x h => (by injection h with h1 h2; omega), fun x e _ h => (by cases h)⟩
/-- Ahead of its end a block ran at depth 0. -/
theorem cl_end {o : Nat → Int} {a i : Nat} (ha : a < i) (x : Int) (e : Nat) (h : cl o a i = .fin x e) : a < e ∧ e < i ∧ cl o a e = .run 0 x := by
  induction i with
  | zero => omega
  | succ i ih =>
    by_cases hai : a < i
    · rw [cl_succ o a i hai] at h
      cases hc : cl o a i with
      | fin y z =>
        rw [hc] at h
        cases h
        obtain ⟨h1, h2, h3⟩ := ih hai hc
        exact ⟨h1, by omega, h3⟩
      | run d y =>
        rw [hc] at h
        unfold clS at h
        dsimp only at h
        split at h
        · cases h
        · split at h
          · split at h
            · split at h
              · injection h with h1 h2
                omega
              · cases h
            · cases h
          · split at h
            · split at h
              · rename_i hd
                injection h with h1 h2
                have : i = e := by omega
                subst this
                exact ⟨hai, by omega, by rw [hc, hd, h1]⟩
              · cases h
            · cases h
    · obtain rfl : a = i := by omega
      rw [cl_start] at h
      cases h
theorem run0_inj {o : Nat → Int} {a b k : Nat} {x y : Int} (hoa : isOp (o a) = true) (hob : isOp (o b) = true) (ha : a < k) (hb : b < k) (h1 : cl o a k = .run 0 x) (h2 : cl o b k = .run 0 y) : a = b := by
  rcases Nat.lt_trichotomy a b with h | h | h
  · have := cl_nest h hb hob h1 h2
    omega
  · exact h
  · have := cl_nest h ha hoa h2 h1
    omega
theorem scan_L1 {cs : List Ins} {i : Nat} {m : List Int} {fs : List Fr} (h : scanTo cs i = some (m, fs)) : L1 (opc cs) i (fs.map pr) := by
  induction i generalizing m fs with
  | zero =>
    cases h
    exact L1.start _
  | succ i ih =>
    obtain ⟨⟨m1, fs1⟩, h1, h2⟩ := Option.bind_eq_some_iff.1 h
    have hL := ih h1
    have h2 : scanStep cs i m1 fs1 = some (m, fs) := h2
    unfold scanStep at h2
    split at h2
    · rename_i ho
      split at h2
      · cases h2
        have := hL.push (isOp_iff.2 ho)
        rw [List.map_append]
        exact this
      · cases h2
    · rename_i ho
      split at h2
      · rename_i h9
        split at h2
        · cases h2
        · rename_i b hb
          split at h2
          · cases h2
          · rename_i hx
            cases h2
            obtain ⟨k0, hk, hg⟩ := last_get hb
            have e1 : fs1.length - 1 = k0 := by omega
            have hx1 : ¬ 0 ≤ b.o := fun hh => hx (.inl hh)
            have hx2 : opc cs b.a = 48 := Classical.byContradiction (fun hh => hx (.inr hh))
            have := hL.else_ h9 (k0 := k0) (a0 := b.a) (x0 := b.o) (by rw [List.length_map]; exact hk) (by rw [List.getElem?_map, hg]; rfl) hx1 hx2
            rw [e1, List.map_set]
            exact this
      · rename_i h9
        split at h2
        · rename_i h0
          split at h2
          · cases h2
          · rename_i b hb
            cases h2
            obtain ⟨k0, hk, hg⟩ := last_get hb
            have e1 : fs1.length - 1 = k0 := by omega
            have := (hL.end_ h0 (k0 := k0) (a0 := b.a) (x0 := b.o) (by rw [List.length_map]; exact hk) (by rw [List.getElem?_map, hg]; rfl)).1
            rw [e1, List.map_take]
            exact this
        · rename_i h0
          split at h2
          · split at h2
            · cases h2
            · rename_i j hj
              cases h2
              have hl := topLoop_lt hj
              rw [List.length_map] at hl
              rw [map_set_same (List.getElem?_eq_getElem hl) (by rw [List.getElem?_eq_getElem hl]; rfl)]
              exact hL.skip (isOp_not ho) h9 h0
          · cases h2
            exact hL.skip (isOp_not ho) h9 h0
end Go.Proofs.Ytbdmbkmokhaflaa.Th
end

section
/- layer 6: the scan, read: where instructions lead -/
set_option linter.unusedVariables false
set_option linter.unusedSimpArgs false
namespace Go.Proofs.Ytbdmbkmokhaflaa.Th
open Go.Shape6 Go.Proofs.Ytbdmbkmokhaflaa.Q

def val : CS → Int
  | .run _ x => x
  | .fin x e => if 0 ≤ x then x else e
def special (v : Int) : Prop := v = 48 ∨ v = 49 ∨ v = 50 ∨ v = 51 ∨ v = 52
theorem cl_keep {o : Nat → Int} {a i : Nat} (ha : a < i) (h : ∀ x, cl o a i = .run 0 x → o i ≠ 49 ∧ o i ≠ 50) :
    val (cl o a (i + 1)) = val (cl o a i) ∧ ∀ x e, cl o a (i + 1) = .fin x e → cl o a i = .fin x e := by
  rw [cl_succ o a i ha]
  cases hc : cl o a i with
  | fin x e => exact ⟨rfl, fun _ _ h => h⟩
  | run d x =>
    have h0 : d = 0 → o i ≠ 49 ∧ o i ≠ 50 := fun hd => h x (by rw [hc, hd])
    unfold clS
    dsimp only
    split
    · exact ⟨rfl, fun _ _ h => (by cases h)⟩
    · split
      · split
        · rename_i h9 hd
          exact absurd h9 (h0 hd).1
        · exact ⟨rfl, fun _ _ h => (by cases h)⟩
      · split
        · split
          · rename_i h5 hd
            exact absurd h5 (h0 hd).2
          · exact ⟨rfl, fun _ _ h => (by cases h)⟩
        · exact ⟨rfl, fun _ _ h => (by cases h)⟩
structure L2 (cs : List Ins) (i : Nat) (m : List Int) (fs : List Fr) : Prop where
  m1 : ∀ a, a < i → isOp (opc cs a) = true → m[a]? = some (val (cl (opc cs) a i))
  m2 : ∀ (a : Nat) (x : Int) (e : Nat), a < i → isOp (opc cs a) = true → cl (opc cs) a i = .fin x e → m[e]? = some (a : Int) ∧ (0 ≤ x → m[x.toNat]? = some (e : Int))
  m4 : ∀ k : Nat, k < i → opc cs k = 52 → ∃ a, Tgt cs k a ∧ ((∃ b ∈ fs, b.a = a ∧ (k : Int) ∈ b.l) ∨ ∃ (x : Int) (e : Nat), cl (opc cs) a i = .fin x e ∧ m[k]? = some (e : Int))
  m5 : ∀ k, k < cs.length → ¬ special (opc cs k) → m[k]? = some (-1)
  m6 : ∀ k, i ≤ k → k < cs.length → m[k]? = some (-1)
  lv : ∀ b ∈ fs, ∀ q ∈ b.l, ∃ k : Nat, q = (k : Int) ∧ k < i ∧ opc cs k = 52 ∧ Tgt cs k b.a
theorem Tgt.ok {cs : List Ins} {k a : Nat} (h : Tgt cs k a) : a < k ∧ opc cs a = 51 ∧ ∃ d x, cl (opc cs) a k = .run d x := by
  obtain ⟨m, fs, j, b, h1, h2, h3, h4⟩ := h
  have hL := scan_L1 h1
  have hf := hL.fr j b.a b.o (by rw [List.getElem?_map, h3]; rfl)
  have hl : loopAt cs (fs.map Fr.a) j = true := by
    have h2' := List.find?_some h2
    exact h2'
  have ho : opc cs b.a = 51 := by
    have := of_decide_eq_true hl
    rw [List.getElem?_map, h3] at this
    exact this
  rw [← h4]
  exact ⟨hf.1, ho, _, _, hf.2.2⟩
theorem fin_facts {cs : List Ins} {a i : Nat} {x : Int} {e : Nat} (ha : a < i) (h : cl (opc cs) a i = .fin x e) : a < e ∧ e < i ∧ opc cs e = 50 ∧ (x = -1 ∨ ((a : Int) < x ∧ x < e ∧ opc cs x.toNat = 49 ∧ opc cs a = 48)) := by
  have := cl_ok (opc cs) a i ha
  rw [h] at this
  rcases this with ⟨h1, h2⟩ | ⟨h1, h2, h3, h4⟩
  · omega
  · rw [Int.toNat_natCast] at h3
    exact ⟨by omega, by omega, h3, h4⟩
theorem run_facts {cs : List Ins} {a i d : Nat} {x : Int} (ha : a < i) (h : cl (opc cs) a i = .run d x) : x = -1 ∨ ((a : Int) < x ∧ x < i ∧ opc cs x.toNat = 49 ∧ opc cs a = 48) := by
  have := cl_ok (opc cs) a i ha
  rw [h] at this
  exact this
theorem L2.same {cs : List Ins} {i : Nat} {m : List Int} {fs fs' : List Fr} (h : L2 cs i m fs) (hi : i < cs.length) (hk : ∀ a, a < i → ∀ x, cl (opc cs) a i = .run 0 x → opc cs i ≠ 49 ∧ opc cs i ≠ 50) (hfs : ∀ b ∈ fs, ∃ b' ∈ fs', b'.a = b.a ∧ ∀ q ∈ b.l, q ∈ b'.l)
    (h4 : opc cs i = 52 → ∃ a, Tgt cs i a ∧ ∃ b ∈ fs', b.a = a ∧ (i : Int) ∈ b.l) (hlv : ∀ b ∈ fs', ∀ q ∈ b.l, ∃ k : Nat, q = (k : Int) ∧ k < i + 1 ∧ opc cs k = 52 ∧ Tgt cs k b.a) : L2 cs (i + 1) m fs' := by
  refine ⟨fun a ha ho => ?_, fun a x e ha ho hc => ?_, fun k hk' hk2 => ?_, h.m5, fun k hk1 hk2 => h.m6 k (by omega) hk2, hlv⟩
  · by_cases hai : a = i
    · subst hai
      rw [cl_start]
      exact h.m6 a (Nat.le_refl _) hi
    · rw [h.m1 a (by omega) ho, (cl_keep (by omega) (hk a (by omega))).1]
  · by_cases hai : a = i
    · subst hai
      rw [cl_start] at hc
      cases hc
    · exact h.m2 a x e (by omega) ho ((cl_keep (by omega) (hk a (by omega))).2 x e hc)
  · by_cases hki : k = i
    · subst hki
      obtain ⟨a, h1, h2⟩ := h4 hk2
      exact ⟨a, h1, .inl h2⟩
    · obtain ⟨a, h1, h2⟩ := h.m4 k (by omega) hk2
      refine ⟨a, h1, ?_⟩
      rcases h2 with ⟨b, hb, hb2, hb3⟩ | ⟨x, e, hc, hm⟩
      · obtain ⟨b', hb', e1, e2⟩ := hfs b hb
        exact .inl ⟨b', hb', e1.trans hb2, e2 _ hb3⟩
      · exact .inr ⟨x, e, cl_fin_mono hc (by have := h1.ok.1; omega) (Nat.le_succ i), hm⟩
theorem scan_L2 {cs : List Ins} {i : Nat} {m : List Int} {fs : List Fr} (hn : i ≤ cs.length) (h : scanTo cs i = some (m, fs)) : L2 cs i m fs := by
  induction i generalizing m fs with
  | zero =>
    cases h
    have hr : ∀ k, k < cs.length → (List.replicate cs.length (-1 : Int))[k]? = some (-1) := fun k hk => by rw [List.getElem?_replicate, if_pos hk]
    exact ⟨fun a ha => absurd ha (Nat.not_lt_zero a), fun a x e ha => absurd ha (Nat.not_lt_zero a), fun k hk => absurd hk (Nat.not_lt_zero k), fun k hk _ => hr k hk, fun k _ hk => hr k hk, fun b hb => (by cases hb)⟩
  | succ i ih =>
    obtain ⟨⟨m1, fs1⟩, h1, h2⟩ := Option.bind_eq_some_iff.1 h
    have hL := scan_L1 h1
    have hI := ih (by omega) h1
    have hok := scanTo_ok h1
    have h2 : scanStep cs i m1 fs1 = some (m, fs) := h2
    have hlv' : ∀ b ∈ fs1, ∀ q ∈ b.l, ∃ k : Nat, q = (k : Int) ∧ k < i + 1 ∧ opc cs k = 52 ∧ Tgt cs k b.a := fun b hb q hq => by
      obtain ⟨k, e1, e2, e3⟩ := hI.lv b hb q hq
      exact ⟨k, e1, by omega, e3⟩
    unfold scanStep at h2
    split at h2
    · rename_i ho
      have ho : opc cs i = 48 ∨ opc cs i = 51 := ho
      split at h2
      · cases h2
        refine hI.same (by omega) (fun a _ x _ => by omega) (fun b hb => ⟨b, List.mem_append_left _ hb, rfl, fun _ h => h⟩) (fun h => by omega) (fun b hb q hq => ?_)
        rcases List.mem_append.1 hb with hb | hb
        · exact hlv' b hb q hq
        · rw [List.mem_singleton.1 hb] at hq
          cases hq
      · cases h2
    · rename_i ho
      have ho : ¬ (opc cs i = 48 ∨ opc cs i = 51) := ho
      split at h2
      · rename_i h9
        have h9 : opc cs i = 49 := h9
        split at h2
        · cases h2
        · rename_i b hb
          split at h2
          · cases h2
          · rename_i hx
            cases h2
            obtain ⟨k0, hk, hg⟩ := last_get hb
            have e1 : fs1.length - 1 = k0 := by omega
            have hgm : (fs1.map pr)[k0]? = some (b.a, b.o) := by rw [List.getElem?_map, hg]; rfl
            have hlm : (fs1.map pr).length = k0 + 1 := by rw [List.length_map]; exact hk
            have hx1 : ¬ 0 ≤ b.o := fun hh => hx (.inl hh)
            have hx2 : opc cs b.a = 48 := Classical.byContradiction (fun hh => hx (.inr hh))
            obtain ⟨t1, t2, t3⟩ := hL.fr k0 b.a b.o hgm
            rw [hlm, show k0 + 1 - 1 - k0 = 0 by omega] at t3
            have htop : cl (opc cs) b.a (i + 1) = .run 0 i := by
              have h3 := (hL.else_ h9 hlm hgm hx1 hx2).fr k0 b.a i (by rw [List.getElem?_set_self (by omega)])
              rw [List.length_set, hlm, show k0 + 1 - 1 - k0 = 0 by omega] at h3
              exact h3.2.2
            have hkeep : ∀ a, a < i → isOp (opc cs a) = true → a ≠ b.a → val (cl (opc cs) a (i + 1)) = val (cl (opc cs) a i) ∧ ∀ x e, cl (opc cs) a (i + 1) = .fin x e → cl (opc cs) a i = .fin x e := fun a ha hoa hne => cl_keep ha (fun x hx => absurd (run0_inj hoa t2 ha t1 hx t3) hne)
            have hmem : b ∈ fs1 := getLast_mem' hb
            have hset : ∀ k, k ≠ b.a → (m1.set b.a (i : Int))[k]? = m1[k]? := fun k hk => List.getElem?_set_ne (fun e => hk e.symm)
            have hset0 : (m1.set b.a (i : Int))[b.a]? = some (i : Int) := List.getElem?_set_self (by rw [hok.1]; omega)
            rw [e1]
            refine ⟨fun a ha hoa => ?_, fun a x e ha hoa hc => ?_, fun k hk' hk2 => ?_, fun k hk1 hk2 => ?_, fun k hk1 hk2 => ?_, fun b' hb' q hq => ?_⟩
            · by_cases hab : a = b.a
              · subst hab
                rw [hset0, htop]
                rfl
              · by_cases hai : a = i
                · subst hai
                  exact absurd (isOp_iff.1 hoa) ho
                · rw [hset a hab, hI.m1 a (by omega) hoa, (hkeep a (by omega) hoa hab).1]
            · by_cases hab : a = b.a
              · subst hab
                rw [htop] at hc
                cases hc
              · by_cases hai : a = i
                · subst hai
                  exact absurd (isOp_iff.1 hoa) ho
                · have hc' := (hkeep a (by omega) hoa hab).2 x e hc
                  obtain ⟨f1, f2, f3, f4⟩ := fin_facts (by omega) hc'
                  obtain ⟨g1, g2⟩ := hI.m2 a x e (by omega) hoa hc'
                  refine ⟨by rw [hset e (fun hh => by rw [hh] at f3; omega)]; exact g1, fun h0 => ?_⟩
                  rw [hset x.toNat (fun hh => by
                    rcases f4 with f4 | f4
                    · omega
                    · rw [hh] at f4
                      omega)]
                  exact g2 h0
            · by_cases hki : k = i
              · subst hki
                omega
              · obtain ⟨a, h3, h4⟩ := hI.m4 k (by omega) hk2
                refine ⟨a, h3, ?_⟩
                rcases h4 with ⟨b', hb', hb2, hb3⟩ | ⟨x, e, hc, hm⟩
                · obtain ⟨q, hq, hqe⟩ := List.getElem_of_mem hb'
                  by_cases hqk : q = k0
                  · subst hqk
                    rw [List.getElem?_eq_getElem hq] at hg
                    have hbb : b' = b := by rw [← hqe]; exact Option.some.inj hg
                    exact .inl ⟨⟨b.a, i, b.l⟩, List.mem_set hq _, by rw [← hb2, hbb], by rw [← hbb]; exact hb3⟩
                  · exact .inl ⟨b', List.mem_iff_getElem?.2 ⟨q, by rw [List.getElem?_set_ne (fun e => hqk e.symm), List.getElem?_eq_getElem hq, hqe]⟩, hb2, hb3⟩
                · refine .inr ⟨x, e, cl_fin_mono hc (by have := h3.ok.1; omega) (Nat.le_succ i), ?_⟩
                  rw [hset k (fun hh => by rw [hh] at hk2; omega)]
                  exact hm
            · rw [hset k (fun hh => hk2 (by rw [hh]; exact .inl hx2))]
              exact hI.m5 k hk1 hk2
            · rw [hset k (by omega)]
              exact hI.m6 k (by omega) hk2
            · rcases List.mem_or_eq_of_mem_set hb' with hb' | hb'
              · exact hlv' b' hb' q hq
              · rw [hb'] at hq ⊢
                exact hlv' b hmem q hq
      · rename_i h9
        have h9 : opc cs i ≠ 49 := h9
        split at h2
        · rename_i h0
          have h0 : opc cs i = 50 := h0
          split at h2
          · cases h2
          · rename_i b hb
            cases h2
            obtain ⟨k0, hk, hg⟩ := last_get hb
            have e1 : fs1.length - 1 = k0 := by omega
            have hgm : (fs1.map pr)[k0]? = some (b.a, b.o) := by rw [List.getElem?_map, hg]; rfl
            have hlm : (fs1.map pr).length = k0 + 1 := by rw [List.length_map]; exact hk
            obtain ⟨t1, t2, t3⟩ := hL.fr k0 b.a b.o hgm
            rw [hlm, show k0 + 1 - 1 - k0 = 0 by omega] at t3
            have htop := (hL.end_ h0 hlm hgm).2
            have hkeep : ∀ a, a < i → isOp (opc cs a) = true → a ≠ b.a → val (cl (opc cs) a (i + 1)) = val (cl (opc cs) a i) ∧ ∀ x e, cl (opc cs) a (i + 1) = .fin x e → cl (opc cs) a i = .fin x e := fun a ha hoa hne => cl_keep ha (fun x hx => absurd (run0_inj hoa t2 ha t1 hx t3) hne)
            have hmem : b ∈ fs1 := getLast_mem' hb
            have hrf := run_facts t1 t3
            have hix : ∃ ix : Nat, (if 0 ≤ b.o then b.o.toNat else b.a) = ix ∧ ix < i ∧ (0 ≤ b.o → (ix : Int) = b.o ∧ opc cs ix = 49) ∧ (¬ 0 ≤ b.o → ix = b.a) := by
              by_cases hbo : 0 ≤ b.o
              · rw [if_pos hbo]
                rcases hrf with h3 | ⟨h3, h4, h5, h6⟩
                · omega
                · exact ⟨_, rfl, by omega, fun _ => ⟨by omega, h5⟩, fun h => absurd hbo h⟩
              · rw [if_neg hbo]
                exact ⟨_, rfl, t1, fun h => absurd h hbo, fun _ => rfl⟩
            obtain ⟨ix, hixe, hix1, hix2, hix3⟩ := hix
            rw [hixe, e1]
            have hml := hok.1
            have hl0 : ∀ q ∈ b.l, 0 ≤ q := fun q hq => ((hok.2.2 b hmem).2.2.2 q hq).1
            have hnl : ∀ k : Nat, opc cs k ≠ 52 → (k : Int) ∉ b.l := fun k hk2 hkl => by
              obtain ⟨k', f1, f2, f3, f4⟩ := hI.lv b hmem _ hkl
              have : k = k' := by omega
              rw [this] at hk2
              exact hk2 f3
            have hget : ∀ k : Nat, (k : Int) ∉ b.l → k ≠ i → k ≠ ix → (setAll ((m1.set i (b.a : Int)).set ix (i : Int)) b.l (i : Int))[k]? = m1[k]? := fun k g1 g2 g3 => by
              rw [setAll_get _ _ _ _ hl0, if_neg (fun hh => g1 hh.1), List.getElem?_set_ne (fun e => g3 e.symm), List.getElem?_set_ne (fun e => g2 e.symm)]
            have hgeti : (setAll ((m1.set i (b.a : Int)).set ix (i : Int)) b.l (i : Int))[i]? = some (b.a : Int) := by
              rw [setAll_get _ _ _ _ hl0, if_neg (fun hh => hnl i (by omega) hh.1), List.getElem?_set_ne (by omega), List.getElem?_set_self (by omega)]
            have hgetx : opc cs ix ≠ 52 → (setAll ((m1.set i (b.a : Int)).set ix (i : Int)) b.l (i : Int))[ix]? = some (i : Int) := fun hne => by
              rw [setAll_get _ _ _ _ hl0, if_neg (fun hh => hnl ix hne hh.1), List.getElem?_set_self (by rw [List.length_set]; omega)]
            have hgetl : ∀ k : Nat, (k : Int) ∈ b.l → (setAll ((m1.set i (b.a : Int)).set ix (i : Int)) b.l (i : Int))[k]? = some (i : Int) := fun k hkl => by
              rw [setAll_get _ _ _ _ hl0, if_pos ⟨hkl, by rw [List.length_set, List.length_set]; have := (hok.2.2 b hmem).2.2.2 _ hkl; omega⟩]
            have hba2 : opc cs b.a = 48 ∨ opc cs b.a = 51 := isOp_iff.1 t2
            refine ⟨fun a ha hoa => ?_, fun a x e ha hoa hc => ?_, fun k hk' hk2 => ?_, fun k hk1 hk2 => ?_, fun k hk1 hk2 => ?_, fun b' hb' q hq => hlv' b' (List.mem_of_mem_take hb') q hq⟩
            · have hoa2 := isOp_iff.1 hoa
              by_cases hai : a = i
              · subst hai
                exact absurd hoa2 ho
              · by_cases hab : a = b.a
                · rw [hab, htop]
                  show _ = some (if 0 ≤ b.o then b.o else (i : Int))
                  by_cases hbo : 0 ≤ b.o
                  · rw [if_pos hbo, hget b.a (hnl b.a (by omega)) (by omega) (fun hh => by have := (hix2 hbo).2; rw [← hh] at this; omega), hI.m1 b.a t1 t2, t3]
                    rfl
                  · have h7 := hgetx (by rw [hix3 hbo]; omega)
                    have e7 := hix3 hbo
                    rw [if_neg hbo]
                    rw [e7] at h7 ⊢
                    exact h7
                · rw [hget a (hnl a (by omega)) hai (fun hh => by
                    by_cases hbo : 0 ≤ b.o
                    · have := (hix2 hbo).2
                      rw [← hh] at this
                      omega
                    · exact hab (hh.trans (hix3 hbo))), hI.m1 a (by omega) hoa, (hkeep a (by omega) hoa hab).1]
            · have hoa2 := isOp_iff.1 hoa
              by_cases hai : a = i
              · subst hai
                exact absurd hoa2 ho
              · by_cases hab : a = b.a
                · subst hab
                  rw [htop] at hc
                  injection hc with hc1 hc2
                  have : e = i := by omega
                  subst this
                  refine ⟨hgeti, fun hx0 => ?_⟩
                  rw [← hc1] at hx0 ⊢
                  have h3 := hix2 hx0
                  rw [show b.o.toNat = ix by omega]
                  exact hgetx (by omega)
                · have hc' := (hkeep a (by omega) hoa hab).2 x e hc
                  obtain ⟨f1, f2, f3, f4⟩ := fin_facts (by omega) hc'
                  obtain ⟨g1, g2⟩ := hI.m2 a x e (by omega) hoa hc'
                  have hixe2 : opc cs ix ≠ 50 := by
                    by_cases hbo : 0 ≤ b.o
                    · have := (hix2 hbo).2
                      omega
                    · rw [hix3 hbo]
                      omega
                  refine ⟨by rw [hget e (hnl e (by omega)) (by omega) (fun hh => hixe2 (by rw [← hh]; exact f3))]; exact g1, fun hx0 => ?_⟩
                  rcases f4 with f4 | ⟨f4, f5, f6, f7⟩
                  · omega
                  · rw [hget x.toNat (hnl _ (by omega)) (by omega) (fun hh => by
                      by_cases hbo : 0 ≤ b.o
                      · obtain ⟨h3, h4⟩ := hix2 hbo
                        have p1 := (cl_else (o := opc cs) t1).1 0 ix (by rw [h3]; exact t3)
                        have p2 := (cl_else (o := opc cs) (by omega : a < i)).2 ix e (by omega) (by rw [← hh, show ((x.toNat : Nat) : Int) = x by omega]; exact hc')
                        exact hab (run0_inj hoa t2 p2.1 p1.1 p2.2.2 p1.2.2)
                      · rw [hh, hix3 hbo] at f6
                        omega)]
                    exact g2 hx0
            · by_cases hki : k = i
              · subst hki
                omega
              · obtain ⟨a, h3, h4⟩ := hI.m4 k (by omega) hk2
                refine ⟨a, h3, ?_⟩
                rcases h4 with ⟨b', hb', hb2, hb3⟩ | ⟨x, e, hc, hm⟩
                · obtain ⟨q, hq, hqe⟩ := List.getElem_of_mem hb'
                  by_cases hqk : q = k0
                  · subst hqk
                    rw [List.getElem?_eq_getElem hq] at hg
                    have hbb : b' = b := by rw [← hqe]; exact Option.some.inj hg
                    exact .inr ⟨b.o, i, by rw [← hb2, hbb]; exact htop, hgetl k (by rw [← hbb]; exact hb3)⟩
                  · exact .inl ⟨b', List.mem_iff_getElem?.2 ⟨q, by rw [List.getElem?_take, if_pos (by omega), List.getElem?_eq_getElem hq, hqe]⟩, hb2, hb3⟩
                · refine .inr ⟨x, e, cl_fin_mono hc (by have := h3.ok.1; omega) (Nat.le_succ i), ?_⟩
                  rw [hget k (fun hkl => by
                    obtain ⟨k', f1, f2, f3, f4⟩ := hI.lv b hmem _ hkl
                    have hkk : k = k' := by omega
                    subst hkk
                    have := Tgt.det f4 h3
                    rw [← this, t3] at hc
                    cases hc) hki (fun hh => by
                      by_cases hbo : 0 ≤ b.o
                      · have := (hix2 hbo).2
                        rw [← hh] at this
                        omega
                      · rw [hh, hix3 hbo] at hk2
                        omega)]
                  exact hm
            · have hsp : ∀ v, v = 48 ∨ v = 51 ∨ v = 49 ∨ v = 50 ∨ v = 52 → special v := fun v hv => by unfold special; omega
              rw [hget k (hnl k (fun hh => hk2 (hsp _ (by omega)))) (fun hh => hk2 (hsp _ (by rw [hh]; omega))) (fun hh => hk2 (hsp _ (by
                rw [hh]
                by_cases hbo : 0 ≤ b.o
                · have := (hix2 hbo).2
                  omega
                · rw [hix3 hbo]
                  omega)))]
              exact hI.m5 k hk1 hk2
            · rw [hget k (fun hkl => by have := (hok.2.2 b hmem).2.2.2 _ hkl; omega) (by omega) (by omega)]
              exact hI.m6 k (by omega) hk2
        · rename_i h0
          have h0 : opc cs i ≠ 50 := h0
          split at h2
          · rename_i h52
            split at h2
            · cases h2
            · rename_i j hj
              cases h2
              have hl := topLoop_lt hj
              rw [List.length_map] at hl
              have hgj := List.getElem?_eq_getElem hl
              rw [hgj, Option.getD_some]
              have htg : Tgt cs i fs1[j].a := ⟨m, fs1, j, fs1[j], h1, hj, hgj, rfl⟩
              refine hI.same (by omega) (fun a _ x _ => ⟨h9, h0⟩) (fun b hb => ?_) (fun _ => ⟨_, htg, ⟨fs1[j].a, fs1[j].o, fs1[j].l ++ [(i : Int)]⟩, List.mem_set hl _, rfl, by simp⟩) (fun b hb q hq => ?_)
              · obtain ⟨p, hp, hpe⟩ := List.getElem_of_mem hb
                by_cases hpj : p = j
                · subst hpj
                  refine ⟨_, List.mem_set hl _, by rw [← hpe], fun q hq => ?_⟩
                  rw [← hpe] at hq
                  exact List.mem_append_left _ hq
                · exact ⟨b, List.mem_iff_getElem?.2 ⟨p, by rw [List.getElem?_set_ne (fun e => hpj e.symm), List.getElem?_eq_getElem hp, hpe]⟩, rfl, fun _ h => h⟩
              · rcases List.mem_or_eq_of_mem_set hb with hb | hb
                · exact hlv' b hb q hq
                · rw [hb] at hq ⊢
                  rcases List.mem_append.1 hq with hq | hq
                  · exact hlv' fs1[j] (List.getElem_mem hl) q hq
                  · rw [List.mem_singleton.1 hq]
                    exact ⟨i, rfl, by omega, h52, htg⟩
          · rename_i h52
            cases h2
            exact hI.same (by omega) (fun a _ x _ => ⟨h9, h0⟩) (fun b hb => ⟨b, hb, rfl, fun _ h => h⟩) (fun h => absurd h h52) hlv'
end Go.Proofs.Ytbdmbkmokhaflaa.Th
end

section
/- layer 6: what the laws' small functions come to: rows of numbers compared, own instructions, what must come -/
set_option linter.unusedVariables false
set_option linter.unusedSimpArgs false
namespace Go.Proofs.Ytbdmbkmokhaflaa.Th
open Go.RowKit Go.Proofs.YtbdmbkmokhaflaaW.PrintWords Go.Proofs.YtbdmbkmokhaflaaW.Hb Go.Proofs.Ytbdmbkmokhaflaa.Q

theorem w64 {x : Int} (h0 : -9223372036854775808 ≤ x) (h1 : x ≤ 9223372036854775807) : wrap64 x = x := by unfold wrap64; omega
theorem rdN (l : List Int) (i : Nat) (hi : i < l.length) : rd l (i : Int) = l[i] := by simp [rd, List.getD_eq_getElem?_getD, hi]
theorem ints_l0 (a b : List Int) (hl : a.length = b.length) (hm : a.length ≤ 4611686018427387904) (d : Nat) : ∀ i : Nat, a.length - i = d → i ≤ a.length → Ev (fun k => weighhouselaw03_Ints.l0 k a b (i : Int)) (decide (a.drop i = b.drop i)) := by
  induction d with
  | zero =>
    intro i hd hi
    have e1 : a.drop i = b.drop i := by rw [List.drop_eq_nil_of_le (by omega), List.drop_eq_nil_of_le (by omega)]
    rw [decide_eq_true e1]
    refine Ev.step (f := fun _ => some true) (fun k => ?_) (Ev.now _)
    simp only [weighhouselaw03_Ints.l0]
    rw [if_neg (by omega)]
  | succ d ih =>
    intro i hd hi
    have ha : i < a.length := by omega
    have hb : i < b.length := by omega
    by_cases he : a[i] = b[i]
    · have e1 : decide (a.drop i = b.drop i) = decide (a.drop (i + 1) = b.drop (i + 1)) := by
        rw [List.drop_eq_getElem_cons ha, List.drop_eq_getElem_cons hb, he]
        exact decide_eq_decide.2 ⟨fun h => (List.cons.inj h).2, fun h => by rw [h]⟩
      rw [e1]
      refine Ev.step (f := fun k => weighhouselaw03_Ints.l0 k a b ((i + 1 : Nat) : Int)) (fun k => ?_) (ih (i + 1) (by omega) (by omega))
      simp only [weighhouselaw03_Ints.l0]
      rw [if_pos (by omega), if_pos (by omega), if_pos (by omega), rdN a i ha, rdN b i hb, if_pos he, w64 (by omega) (by omega)]
      rfl
    · have e1 : decide (a.drop i = b.drop i) = false := by
        rw [List.drop_eq_getElem_cons ha, List.drop_eq_getElem_cons hb]
        exact decide_eq_false (fun h => he (List.cons.inj h).1)
      rw [e1]
      refine Ev.step (f := fun _ => some false) (fun k => ?_) (Ev.now _)
      simp only [weighhouselaw03_Ints.l0]
      rw [if_pos (by omega), if_pos (by omega), if_pos (by omega), rdN a i ha, rdN b i hb, if_neg he]
theorem ints_ev (a b : List Int) (hm : a.length ≤ 4611686018427387904) : Ev (fun k => weighhouselaw03_Ints.f k a b) (decide (a = b)) := by
  by_cases hl : a.length = b.length
  · refine Ev.congr (f := fun k => weighhouselaw03_Ints.l0 k a b ((0 : Nat) : Int)) (fun k => ?_) ?_
    · unfold weighhouselaw03_Ints.f
      rw [if_pos (by omega)]
      rfl
    · have h := ints_l0 a b hl hm a.length 0 (by omega) (by omega)
      simpa using h
  · have e : decide (a = b) = false := decide_eq_false (fun e => hl (by rw [e]))
    rw [e]
    refine Ev.congr (f := fun _ => some false) (fun k => ?_) (Ev.now _)
    unfold weighhouselaw03_Ints.f
    rw [if_neg (by omega)]
theorem own_f (l : List Ins) (h : l.length ≤ 1048576) : weighhouselaw06_Own.f l = some l := by
  unfold weighhouselaw06_Own.f
  rw [Option.bind_some, if_pos (by simp; omega)]
  rfl
theorem match_none {l : List Ins} (hl : l.length ≤ 1048576) (h : scanAll l = none) : shape_Match.f l = some ([], 31) := by
  unfold shape_Match.f
  rw [if_pos hl, h]
theorem match_some {l : List Ins} {m : List Int} (hl : l.length ≤ 1048576) (h : scanAll l = some m) : shape_Match.f l = some (m, 0) := by
  unfold shape_Match.f
  rw [if_pos hl, h]
theorem knows_ev : Ev (fun k => weighhouselaw06_knows.f k) true := by
  have h1 : shape_Match.f (([(⟨48, 0⟩ : Ins), (⟨49, 0⟩ : Ins), (⟨50, 0⟩ : Ins)] : List Ins)) = some ([1, 2, 0], 0) := match_some (by decide) (by decide +kernel)
  have h2 : shape_Match.f (([(⟨51, 1⟩ : Ins), (⟨52, 0⟩ : Ins), (⟨50, 0⟩ : Ins)] : List Ins)) = some ([2, 2, 0], 0) := match_some (by decide) (by decide +kernel)
  refine Ev.congr (f := fun k => (weighhouselaw03_Ints.f k [1, 2, 0] [1, 2, 0]).bind fun t122 => (if t122 = true then ((weighhouselaw03_Ints.f k [2, 2, 0] [2, 2, 0]).bind fun t126 => (some t126)) else (some false))) (fun k => ?_) ?_
  · unfold weighhouselaw06_knows.f
    rw [h1, Option.bind_some, h2, Option.bind_some]
    show ((weighhouselaw06_num.f 0).bind fun t117 => (weighhouselaw06_num.f 0).bind fun t118 => _) = _
    rw [show weighhouselaw06_num.f 0 = some 0 from rfl, Option.bind_some, Option.bind_some, if_pos (by rw [w64 (by omega) (by omega)]; rfl)]
  · refine Ev.bind (a := true) (ints_ev [1, 2, 0] [1, 2, 0] (by decide)) ?_
    refine Ev.congr (f := fun k => (weighhouselaw03_Ints.f k [2, 2, 0] [2, 2, 0]).bind fun t126 => (some t126)) (fun k => if_pos rfl) ?_
    exact Ev.bind (a := true) (ints_ev [2, 2, 0] [2, 2, 0] (by decide)) (Ev.now _)
end Go.Proofs.Ytbdmbkmokhaflaa.Th
end

section
-- written by hprint.py (a program of these sessions) out of the translation; Lean checks it
namespace Go.Proofs.Ytbdmbkmokhaflaa.Q
open Go.RowKit Go.Proofs.YtbdmbkmokhaflaaW.Hb Go.Proofs.YtbdmbkmokhaflaaW.PrintWords Go.Proofs.YtbdmbkmokhaflaaW.PrintLast Go.Proofs.YtbdmbkmokhaflaaW.PrintMore
attribute [local go_sem] max2_int min2_int max_two min_two max_three min_three max_four min_four   -- for this text's walks alone
set_option linter.unusedVariables false
set_option linter.unusedSimpArgs false

/-! ### weighhouseref06_closes: function 23 -/
mutual
def weighhouseref06_closes.l0 : Nat → List (S31) → Int → Int → Int → Int → Option (Int × Int)
  | 0, _, _, _, _, _ => none
  | k + 1, x0, x1, x6, x7, x8 => if x8 < (x0.length : Int) then (if 0 ≤ x8 then (if ((rd_T31 x0 x8).f0) = 48 then (weighhouseref06_closes.j1 k x0 x1 x6 x7 x8 ((rd_T31 x0 x8).f0) (((rd_T31 x0 x8).f0) == 48)) else (weighhouseref06_closes.j1 k x0 x1 x6 x7 x8 ((rd_T31 x0 x8).f0) (((rd_T31 x0 x8).f0) == 51))) else (none)) else (some (x7, (-1)))
def weighhouseref06_closes.j1 : Nat → List (S31) → Int → Int → Int → Int → Int → Bool → Option (Int × Int)
  | 0, _, _, _, _, _, _, _ => none
  | k + 1, x0, x1, x6, x7, x8, x21, x22 => if x22 = true then (weighhouseref06_closes.l0 k x0 x1 (wrap64 (x6 + 1)) x7 (wrap64 (x8 + 1))) else (if x21 = 49 then (if x6 = 0 then (if x7 ≥ 0 then (weighhouseref06_closes.j2 k x0 x1 x6 x7 x8 true) else (if 0 ≤ x1 then (if x1 < (x0.length : Int) then (weighhouseref06_closes.j2 k x0 x1 x6 x7 x8 (((rd_T31 x0 x1).f0) != 48)) else (none)) else (none))) else (weighhouseref06_closes.j2 k x0 x1 x6 x7 x8 false)) else (if x21 = 50 then (if x6 = 0 then (some (x7, x8)) else (weighhouseref06_closes.l0 k x0 x1 (wrap64 (x6 - 1)) x7 (wrap64 (x8 + 1)))) else (weighhouseref06_closes.l0 k x0 x1 x6 x7 (wrap64 (x8 + 1)))))
def weighhouseref06_closes.j2 : Nat → List (S31) → Int → Int → Int → Int → Bool → Option (Int × Int)
  | 0, _, _, _, _, _, _ => none
  | k + 1, x0, x1, x6, x7, x8, x42 => if x42 = true then (some ((-1), (-1))) else (if x6 = 0 then (weighhouseref06_closes.l0 k x0 x1 x6 x8 (wrap64 (x8 + 1))) else (weighhouseref06_closes.l0 k x0 x1 x6 x7 (wrap64 (x8 + 1))))
end
def weighhouseref06_closes.f (k : Nat) (l0 : List (S31)) (a1 : Int) : Option (Int × Int) := weighhouseref06_closes.l0 k l0 a1 0 (-1) (wrap64 (a1 + 1))
theorem weighhouseref06_closes.mono_l : ∀ k, (∀ y0 y1 y2 y3 y4, LeO (weighhouseref06_closes.l0 k y0 y1 y2 y3 y4) (weighhouseref06_closes.l0 (k + 1) y0 y1 y2 y3 y4)) ∧ (∀ y0 y1 y2 y3 y4 y5 y6, LeO (weighhouseref06_closes.j1 k y0 y1 y2 y3 y4 y5 y6) (weighhouseref06_closes.j1 (k + 1) y0 y1 y2 y3 y4 y5 y6)) ∧ (∀ y0 y1 y2 y3 y4 y5, LeO (weighhouseref06_closes.j2 k y0 y1 y2 y3 y4 y5) (weighhouseref06_closes.j2 (k + 1) y0 y1 y2 y3 y4 y5))
  | 0 => ⟨fun _ _ _ _ _ r h => by simp [weighhouseref06_closes.l0] at h, fun _ _ _ _ _ _ _ r h => by simp [weighhouseref06_closes.j1] at h, fun _ _ _ _ _ _ r h => by simp [weighhouseref06_closes.j2] at h⟩
  | k + 1 => by
    obtain ⟨ih0, ih1, ih2⟩ := weighhouseref06_closes.mono_l k
    refine ⟨?_, ?_, ?_⟩
    · intro y0 y1 y2 y3 y4
      unfold weighhouseref06_closes.l0
      repeat' first
      | (with_reducible exact ih0 _ _ _ _ _)
      | (with_reducible exact ih1 _ _ _ _ _ _ _)
      | (with_reducible exact ih2 _ _ _ _ _ _)
      | (with_reducible exact LeO.refl _)
      | (with_reducible exact LeO.none _)
      | (with_reducible refine LeO.ite ?_ ?_)
      | (with_reducible refine LeO.bind ?_ (fun _ => ?_))
      | exact ih0 _ _ _ _ _
      | exact ih1 _ _ _ _ _ _ _
      | exact ih2 _ _ _ _ _ _
      | exact LeO.none _
      | refine LeO.ite ?_ ?_
      | refine LeO.bind ?_ (fun _ => ?_)
    · intro y0 y1 y2 y3 y4 y5 y6
      unfold weighhouseref06_closes.j1
      repeat' first
      | (with_reducible exact ih0 _ _ _ _ _)
      | (with_reducible exact ih1 _ _ _ _ _ _ _)
      | (with_reducible exact ih2 _ _ _ _ _ _)
      | (with_reducible exact LeO.refl _)
      | (with_reducible exact LeO.none _)
      | (with_reducible refine LeO.ite ?_ ?_)
      | (with_reducible refine LeO.bind ?_ (fun _ => ?_))
      | exact ih0 _ _ _ _ _
      | exact ih1 _ _ _ _ _ _ _
      | exact ih2 _ _ _ _ _ _
      | exact LeO.none _
      | refine LeO.ite ?_ ?_
      | refine LeO.bind ?_ (fun _ => ?_)
    · intro y0 y1 y2 y3 y4 y5
      unfold weighhouseref06_closes.j2
      repeat' first
      | (with_reducible exact ih0 _ _ _ _ _)
      | (with_reducible exact ih1 _ _ _ _ _ _ _)
      | (with_reducible exact ih2 _ _ _ _ _ _)
      | (with_reducible exact LeO.refl _)
      | (with_reducible exact LeO.none _)
      | (with_reducible refine LeO.ite ?_ ?_)
      | (with_reducible refine LeO.bind ?_ (fun _ => ?_))
      | exact ih0 _ _ _ _ _
      | exact ih1 _ _ _ _ _ _ _
      | exact ih2 _ _ _ _ _ _
      | exact LeO.none _
      | refine LeO.ite ?_ ?_
      | refine LeO.bind ?_ (fun _ => ?_)
theorem weighhouseref06_closes.mono : ∀ a0 a1 k, LeO (weighhouseref06_closes.f k a0 a1) (weighhouseref06_closes.f (k + 1) a0 a1) := by
  intro a0 a1 k
  obtain ⟨ih0, ih1, ih2⟩ := weighhouseref06_closes.mono_l k
  unfold weighhouseref06_closes.f
  repeat' first
      | (with_reducible exact ih0 _ _ _ _ _)
      | (with_reducible exact ih1 _ _ _ _ _ _ _)
      | (with_reducible exact ih2 _ _ _ _ _ _)
      | (with_reducible exact LeO.refl _)
      | (with_reducible exact LeO.none _)
      | (with_reducible refine LeO.ite ?_ ?_)
      | (with_reducible refine LeO.bind ?_ (fun _ => ?_))
      | exact ih0 _ _ _ _ _
      | exact ih1 _ _ _ _ _ _ _
      | exact ih2 _ _ _ _ _ _
      | exact LeO.none _
      | refine LeO.ite ?_ ?_
      | refine LeO.bind ?_ (fun _ => ?_)
set_option maxHeartbeats 8000000 in
set_option maxRecDepth 100000 in
theorem weighhouseref06_closes.calls (k : Nat) (A0 : Option Addr) (c0 : Nat) (l0 : List (S31)) (a1 : Int) (r1 : Int) (r2 : Int) (w : World) (hr0 : Kd.C k31 w A0 l0.length l0) (hc0 : l0.length ≤ c0) (h : weighhouseref06_closes.f k l0 a1 = some (r1, r2)) :
    Calls Try.prog 23 #[.slice A0 l0.length c0, .int .i64 a1] w fun e w' => e = .returned (.tuple #[.int .i64 r1, .int .i64 r2]) ∧ Drawn0 w w' := by
  have HR0 := Aside0.mk hr0
  have HC0 := Aside0.mk hc0
  clear hr0 hc0
  have H : (weighhouseref06_closes.l0 k l0 a1 0 (-1) (wrap64 (a1 + 1))) = some (r1, r2) := h
  clear h
  have H' := Aside0.mk H
  clear H
  go_enter Try.func23, Try.ntmps23
  go_wp2
  go_loopg [6, 7, 8] k (fun kq v6 v7 v8 w' => ∃ (x6_1 : Int) (x7_1 : Int) (x8_1 : Int), v6 = .int .i64 x6_1 ∧ v7 = .int .i64 x7_1 ∧ v8 = .int .i64 x8_1 ∧ Aside0 (weighhouseref06_closes.l0 kq l0 a1 x6_1 x7_1 x8_1 = some (r1, r2)) ∧ Aside0 (kq ≤ k) ∧ Drawn0 w w')
  case atStart => exact ⟨(0), ((-1)), (wrap64 (a1 + 1)), (by first | rfl | (simp; done) | (simp [*]; done)), (by first | rfl | (simp; done) | (simp [*]; done)), (by first | rfl | (simp; done) | (simp [*]; done)), H', ⟨Nat.le_refl _⟩, by repeat (first | exact Drawn0.refl _ | apply Drawn0.step)⟩
  case round =>
    clear H'
    try clear c2
    try clear p2
    obtain ⟨x6_1, x7_1, x8_1, rfl, rfl, rfl, HA, HK1, ⟨m1, rfl⟩⟩ := hrel
    cases gk with
    | zero => exact absurd HA.out (by simp [weighhouseref06_closes.l0])
    | succ k1 =>
      have H := HA.out
      clear HA
      simp only [weighhouseref06_closes.l0] at H
      by_cases c3 : x8_1 < (l0.length : Int)
      · rw [if_pos c3] at H
        have c3b0 : decide (x8_1 < (l0.length : Int)) = true := decide_eq_true c3
        clear c3
        by_cases c4 : 0 ≤ x8_1
        · rw [if_pos c4] at H
          have c4b0 : decide (0 ≤ x8_1) = true := decide_eq_true c4
          clear c4
          have HC5 := Aside0.mk H
          clear H
          have p207 : 0 ≤ (x8_1 : Int) := of_decide_eq_true (by first | (with_reducible assumption) | assumption)
          have q207 : x8_1 < (l0.length : Int) := of_decide_eq_true (by first | (with_reducible assumption) | assumption)
          obtain ⟨ad207, e207, hx207_0, hx207_1⟩ := at_T31 HR0.out x8_1 p207 q207
          cases e207
          replace p207 := eq_true p207
          replace q207 := eq_true q207
          go_upto_if 22 with (fail)
          go_cut [22] (fun v22 wc => ∃ (kq : Nat) (x22_4 : Bool), v22 = .bool x22_4 ∧ Aside0 (weighhouseref06_closes.j1 kq l0 a1 x6_1 x7_1 x8_1 ((rd_T31 l0 x8_1).f0) x22_4 = some (r1, r2)) ∧ Aside0 (kq ≤ k1) ∧ Drawn0 w wc)
          case first =>
            have H := HC5.out
            clear HC5
            by_cases c6 : ((rd_T31 l0 x8_1).f0) = 48
            · rw [if_pos c6] at H
              have c6b0 : (((rd_T31 l0 x8_1).f0) == 48) = true := beq_iff_eq.mpr c6
              have c6b1 : (((rd_T31 l0 x8_1).f0) != 48) = false := bne_eq_false_iff_eq.mpr c6
              clear c6
              (first | rw [c6b0] | (simp only [i64_w, i32_w]; rw [c6b0]) | skip)
              have H' := Aside0.mk H
              clear H
              go_wp2
              go_meet
              case rel => exact ⟨_, ((((rd_T31 l0 x8_1).f0) == 48)), (by first | rfl | (simp; done) | (simp [*]; done)), H', ⟨by have := HK1.out; first | omega | exact Nat.le_refl _⟩, by repeat (first | exact Drawn0.refl _ | apply Drawn0.step)⟩
            · rw [if_neg c6] at H
              have c6b0 : (((rd_T31 l0 x8_1).f0) == 48) = false := beq_eq_false_iff_ne.mpr c6
              have c6b1 : (((rd_T31 l0 x8_1).f0) != 48) = true := bne_iff_ne.mpr c6
              (first | rw [c6b0] | (simp only [i64_w, i32_w]; rw [c6b0]) | skip)
              have H' := Aside0.mk H
              clear H
              go_wp2
              go_meet
              case rel => exact ⟨_, ((((rd_T31 l0 x8_1).f0) == 51)), (by first | rfl | (simp; done) | (simp [*]; done)), H', ⟨by have := HK1.out; first | omega | exact Nat.le_refl _⟩, by repeat (first | exact Drawn0.refl _ | apply Drawn0.step)⟩
          case rest =>
            clear HC5
            try clear c2
            try clear p2
            try clear q2
            try clear hx2
            try clear c3
            try clear c3b0
            try clear c4
            try clear c4b0
            try clear c6
            try clear c6b0
            try clear c6b1
            try clear p6
            try clear hx207_0
            try clear hx207_1
            try clear p2
            try clear p207
            try clear q207
            obtain ⟨kq, x22_4, rfl, HA, HJ4, ⟨mc4, rfl⟩⟩ := hcut
            cases kq with
            | zero => exact absurd HA.out (by simp [weighhouseref06_closes.j1])
            | succ kj4 =>
              have H := HA.out
              clear HA
              simp only [weighhouseref06_closes.j1] at H
              by_cases c7 : x22_4 = true
              · subst c7
                have H1 : (weighhouseref06_closes.l0 kj4 l0 a1 (wrap64 (x6_1 + 1)) x7_1 (wrap64 (x8_1 + 1))) = some (r1, r2) := by rw [if_pos rfl] at H; exact H
                clear H
                have H := H1
                clear H1
                have H' := Aside0.mk H
                clear H
                go_wp2
                go_roundg kj4
                case measure => have := HK1.out; have := HJ4.out; omega
                case rel => exact ⟨(wrap64 (x6_1 + 1)), (x7_1), (wrap64 (x8_1 + 1)), (by first | rfl | (simp; done) | (simp [*]; done)), (by first | rfl | (simp; done) | (simp [*]; done)), (by first | rfl | (simp; done) | (simp [*]; done)), H', ⟨by have := HK1.out; have := HJ4.out; omega⟩, by repeat (first | exact Drawn0.refl _ | apply Drawn0.step)⟩
              · replace c7 := Bool.eq_false_iff.mpr c7
                subst c7
                have H1 : (if ((rd_T31 l0 x8_1).f0) = 49 then (if x6_1 = 0 then (if x7_1 ≥ 0 then (weighhouseref06_closes.j2 kj4 l0 a1 x6_1 x7_1 x8_1 true) else (if 0 ≤ a1 then (if a1 < (l0.length : Int) then (weighhouseref06_closes.j2 kj4 l0 a1 x6_1 x7_1 x8_1 (((rd_T31 l0 a1).f0) != 48)) else (none)) else (none))) else (weighhouseref06_closes.j2 kj4 l0 a1 x6_1 x7_1 x8_1 false)) else (if ((rd_T31 l0 x8_1).f0) = 50 then (if x6_1 = 0 then (some (x7_1, x8_1)) else (weighhouseref06_closes.l0 kj4 l0 a1 (wrap64 (x6_1 - 1)) x7_1 (wrap64 (x8_1 + 1)))) else (weighhouseref06_closes.l0 kj4 l0 a1 x6_1 x7_1 (wrap64 (x8_1 + 1))))) = some (r1, r2) := by rw [if_neg (show ¬ (false = true) by decide)] at H; exact H
                clear H
                have H := H1
                clear H1
                by_cases c8 : ((rd_T31 l0 x8_1).f0) = 49
                · rw [if_pos c8] at H
                  have c8b0 : (((rd_T31 l0 x8_1).f0) == 49) = true := beq_iff_eq.mpr c8
                  have c8b1 : (((rd_T31 l0 x8_1).f0) != 49) = false := bne_eq_false_iff_eq.mpr c8
                  clear c8
                  have HC9 := Aside0.mk H
                  clear H
                  go_upto_region 11 with (fail)
                  go_cut [42] (fun v42 wc => ∃ (kq : Nat) (x42_8 : Bool), v42 = .bool x42_8 ∧ Aside0 (weighhouseref06_closes.j2 kq l0 a1 x6_1 x7_1 x8_1 x42_8 = some (r1, r2)) ∧ Aside0 (kq ≤ kj4) ∧ Drawn0 w wc)
                  case first =>
                    have H := HC9.out
                    clear HC9
                    by_cases c10 : x6_1 = 0
                    · rw [if_pos c10] at H
                      have c10b0 : (x6_1 == 0) = true := beq_iff_eq.mpr c10
                      have c10b1 : (x6_1 != 0) = false := bne_eq_false_iff_eq.mpr c10
                      clear c10
                      (first | rw [c10b0] | (simp only [i64_w, i32_w]; rw [c10b0]) | skip)
                      by_cases c11 : x7_1 ≥ 0
                      · rw [if_pos c11] at H
                        have c11b0 : decide (0 ≤ x7_1) = true := decide_eq_true c11
                        clear c11
                        have H' := Aside0.mk H
                        clear H
                        go_wp2
                        go_meet
                        case rel => exact ⟨_, (true), (by first | rfl | (simp; done) | (simp [*]; done)), H', ⟨by have := HK1.out; have := HJ4.out; first | omega | exact Nat.le_refl _⟩, by repeat (first | exact Drawn0.refl _ | apply Drawn0.step)⟩
                      · rw [if_neg c11] at H
                        have c11b0 : decide (0 ≤ x7_1) = false := decide_eq_false c11
                        clear c11
                        by_cases c12 : 0 ≤ a1
                        · rw [if_pos c12] at H
                          have c12b0 : decide (0 ≤ a1) = true := decide_eq_true c12
                          clear c12
                          by_cases c13 : a1 < (l0.length : Int)
                          · rw [if_pos c13] at H
                            have c13b0 : decide (a1 < (l0.length : Int)) = true := decide_eq_true c13
                            clear c13
                            have H' := Aside0.mk H
                            clear H
                            have p208 : 0 ≤ (a1 : Int) := of_decide_eq_true (by first | (with_reducible assumption) | assumption)
                            have q208 : a1 < (l0.length : Int) := of_decide_eq_true (by first | (with_reducible assumption) | assumption)
                            obtain ⟨ad208, e208, hx208_0, hx208_1⟩ := at_T31 HR0.out a1 p208 q208
                            obtain rfl : ad207 = ad208 := (by injection e208)
                            replace p208 := eq_true p208
                            replace q208 := eq_true q208
                            go_wp2
                            go_meet
                            case rel => exact ⟨_, ((((rd_T31 l0 a1).f0) != 48)), (by first | rfl | (simp; done) | (simp [*]; done)), H', ⟨by have := HK1.out; have := HJ4.out; first | omega | exact Nat.le_refl _⟩, by repeat (first | exact Drawn0.refl _ | apply Drawn0.step)⟩
                          · rw [if_neg c13] at H
                            exact absurd H (by simp)
                        · rw [if_neg c12] at H
                          exact absurd H (by simp)
                    · rw [if_neg c10] at H
                      have c10b0 : (x6_1 == 0) = false := beq_eq_false_iff_ne.mpr c10
                      have c10b1 : (x6_1 != 0) = true := bne_iff_ne.mpr c10
                      (first | rw [c10b0] | (simp only [i64_w, i32_w]; rw [c10b0]) | skip)
                      have H' := Aside0.mk H
                      clear H
                      go_wp2
                      go_meet
                      case rel => exact ⟨_, (false), (by first | rfl | (simp; done) | (simp [*]; done)), H', ⟨by have := HK1.out; have := HJ4.out; first | omega | exact Nat.le_refl _⟩, by repeat (first | exact Drawn0.refl _ | apply Drawn0.step)⟩
                  case rest =>
                    clear HC9
                    try clear c1
                    try clear c2
                    try clear p2
                    try clear q2
                    try clear hx2
                    try clear c3
                    try clear c3b0
                    try clear c4
                    try clear c4b0
                    try clear c6
                    try clear c6b0
                    try clear c6b1
                    try clear p6
                    try clear c7
                    try clear c8
                    try clear c8b0
                    try clear c8b1
                    try clear c10
                    try clear c10b0
                    try clear c10b1
                    try clear c11
                    try clear c11b0
                    try clear c12
                    try clear c12b0
                    try clear c13
                    try clear c13b0
                    try clear hx207_0
                    try clear hx207_1
                    try clear hx208_0
                    try clear hx208_1
                    try clear p2
                    try clear p207
                    try clear p208
                    try clear p6
                    try clear q2
                    try clear q207
                    try clear q208
                    obtain ⟨kq, x42_8, rfl, HA, HJ8, ⟨mc8, rfl⟩⟩ := hcut
                    cases kq with
                    | zero => exact absurd HA.out (by simp [weighhouseref06_closes.j2])
                    | succ kj8 =>
                      have H := HA.out
                      clear HA
                      simp only [weighhouseref06_closes.j2] at H
                      by_cases c14 : x42_8 = true
                      · subst c14
                        have H1 : (some ((-1), (-1))) = some (r1, r2) := by rw [if_pos rfl] at H; exact H
                        clear H
                        have H := H1
                        clear H1
                        simp only [Option.some.injEq, Prod.mk.injEq] at H
                        obtain ⟨rfl, rfl⟩ := H
                        go_wp2
                        go_ret2
                        exact ⟨by first | rfl | (simp; done) | (simp [*]; done), by repeat (first | exact Drawn0.refl _ | apply Drawn0.step)⟩
                      · replace c14 := Bool.eq_false_iff.mpr c14
                        subst c14
                        have H1 : (if x6_1 = 0 then (weighhouseref06_closes.l0 kj8 l0 a1 x6_1 x8_1 (wrap64 (x8_1 + 1))) else (weighhouseref06_closes.l0 kj8 l0 a1 x6_1 x7_1 (wrap64 (x8_1 + 1)))) = some (r1, r2) := by rw [if_neg (show ¬ (false = true) by decide)] at H; exact H
                        clear H
                        have H := H1
                        clear H1
                        by_cases c15 : x6_1 = 0
                        · rw [if_pos c15] at H
                          have c15b0 : (x6_1 == 0) = true := beq_iff_eq.mpr c15
                          have c15b1 : (x6_1 != 0) = false := bne_eq_false_iff_eq.mpr c15
                          clear c15
                          have H' := Aside0.mk H
                          clear H
                          go_wp2
                          go_roundg kj8
                          case measure => have := HK1.out; have := HJ4.out; have := HJ8.out; omega
                          case rel => exact ⟨(x6_1), (x8_1), (wrap64 (x8_1 + 1)), (by first | rfl | (simp; done) | (simp [*]; done)), (by first | rfl | (simp; done) | (simp [*]; done)), (by first | rfl | (simp; done) | (simp [*]; done)), H', ⟨by have := HK1.out; have := HJ4.out; have := HJ8.out; omega⟩, by repeat (first | exact Drawn0.refl _ | apply Drawn0.step)⟩
                        · rw [if_neg c15] at H
                          have c15b0 : (x6_1 == 0) = false := beq_eq_false_iff_ne.mpr c15
                          have c15b1 : (x6_1 != 0) = true := bne_iff_ne.mpr c15
                          have H' := Aside0.mk H
                          clear H
                          go_wp2
                          go_roundg kj8
                          case measure => have := HK1.out; have := HJ4.out; have := HJ8.out; omega
                          case rel => exact ⟨(x6_1), (x7_1), (wrap64 (x8_1 + 1)), (by first | rfl | (simp; done) | (simp [*]; done)), (by first | rfl | (simp; done) | (simp [*]; done)), (by first | rfl | (simp; done) | (simp [*]; done)), H', ⟨by have := HK1.out; have := HJ4.out; have := HJ8.out; omega⟩, by repeat (first | exact Drawn0.refl _ | apply Drawn0.step)⟩
                · rw [if_neg c8] at H
                  have c8b0 : (((rd_T31 l0 x8_1).f0) == 49) = false := beq_eq_false_iff_ne.mpr c8
                  have c8b1 : (((rd_T31 l0 x8_1).f0) != 49) = true := bne_iff_ne.mpr c8
                  by_cases c16 : ((rd_T31 l0 x8_1).f0) = 50
                  · rw [if_pos c16] at H
                    have c16b0 : (((rd_T31 l0 x8_1).f0) == 50) = true := beq_iff_eq.mpr c16
                    have c16b1 : (((rd_T31 l0 x8_1).f0) != 50) = false := bne_eq_false_iff_eq.mpr c16
                    clear c16
                    by_cases c17 : x6_1 = 0
                    · rw [if_pos c17] at H
                      have c17b0 : (x6_1 == 0) = true := beq_iff_eq.mpr c17
                      have c17b1 : (x6_1 != 0) = false := bne_eq_false_iff_eq.mpr c17
                      clear c17
                      simp only [Option.some.injEq, Prod.mk.injEq] at H
                      obtain ⟨rfl, rfl⟩ := H
                      go_wp2
                      go_ret2
                      exact ⟨by first | rfl | (simp; done) | (simp [*]; done), by repeat (first | exact Drawn0.refl _ | apply Drawn0.step)⟩
                    · rw [if_neg c17] at H
                      have c17b0 : (x6_1 == 0) = false := beq_eq_false_iff_ne.mpr c17
                      have c17b1 : (x6_1 != 0) = true := bne_iff_ne.mpr c17
                      have H' := Aside0.mk H
                      clear H
                      go_wp2
                      go_roundg kj4
                      case measure => have := HK1.out; have := HJ4.out; omega
                      case rel => exact ⟨(wrap64 (x6_1 - 1)), (x7_1), (wrap64 (x8_1 + 1)), (by first | rfl | (simp; done) | (simp [*]; done)), (by first | rfl | (simp; done) | (simp [*]; done)), (by first | rfl | (simp; done) | (simp [*]; done)), H', ⟨by have := HK1.out; have := HJ4.out; omega⟩, by repeat (first | exact Drawn0.refl _ | apply Drawn0.step)⟩
                  · rw [if_neg c16] at H
                    have c16b0 : (((rd_T31 l0 x8_1).f0) == 50) = false := beq_eq_false_iff_ne.mpr c16
                    have c16b1 : (((rd_T31 l0 x8_1).f0) != 50) = true := bne_iff_ne.mpr c16
                    have H' := Aside0.mk H
                    clear H
                    go_wp2
                    go_roundg kj4
                    case measure => have := HK1.out; have := HJ4.out; omega
                    case rel => exact ⟨(x6_1), (x7_1), (wrap64 (x8_1 + 1)), (by first | rfl | (simp; done) | (simp [*]; done)), (by first | rfl | (simp; done) | (simp [*]; done)), (by first | rfl | (simp; done) | (simp [*]; done)), H', ⟨by have := HK1.out; have := HJ4.out; omega⟩, by repeat (first | exact Drawn0.refl _ | apply Drawn0.step)⟩
        · rw [if_neg c4] at H
          exact absurd H (by simp)
      · rw [if_neg c3] at H
        have c3b0 : decide (x8_1 < (l0.length : Int)) = false := decide_eq_false c3
        clear c3
        simp only [Option.some.injEq, Prod.mk.injEq] at H
        obtain ⟨rfl, rfl⟩ := H
        go_wp2
        go_ret2
        exact ⟨by first | rfl | (simp; done) | (simp [*]; done), by repeat (first | exact Drawn0.refl _ | apply Drawn0.step)⟩

end Go.Proofs.Ytbdmbkmokhaflaa.Q
end

section
-- written by hprint.py (a program of these sessions) out of the translation; Lean checks it
namespace Go.Proofs.Ytbdmbkmokhaflaa.Q
open Go.RowKit Go.Proofs.YtbdmbkmokhaflaaW.Hb Go.Proofs.YtbdmbkmokhaflaaW.PrintWords Go.Proofs.YtbdmbkmokhaflaaW.PrintLast Go.Proofs.YtbdmbkmokhaflaaW.PrintMore
attribute [local go_sem] max2_int min2_int max_two min_two max_three min_three max_four min_four   -- for this text's walks alone
set_option linter.unusedVariables false
set_option linter.unusedSimpArgs false

/-! ### weighhouseref06_last: function 31 -/
def weighhouseref06_last.f (l0 : List (S31)) (l1 : List Int) (a2 : Int) : Option (Int) := if 0 ≤ a2 then (if a2 < (l1.length : Int) then (if 0 ≤ (rd l1 a2) then (if (rd l1 a2) < (l0.length : Int) then (if ((rd_T31 l0 (rd l1 a2)).f0) = 49 then (if (rd l1 a2) < (l1.length : Int) then (some (rd l1 (rd l1 a2))) else (none)) else (some (rd l1 a2))) else (none)) else (none)) else (none)) else (none)
set_option maxHeartbeats 8000000 in
set_option maxRecDepth 100000 in
theorem weighhouseref06_last.calls (A0 : Option Addr) (c0 : Nat) (l0 : List (S31)) (A1 : Option Addr) (c1 : Nat) (l1 : List Int) (a2 : Int) (r : Int) (w : World) (hr0 : Kd.C k31 w A0 l0.length l0) (hc0 : l0.length ≤ c0) (hr1 : Kd.C (Kd.int .i64) w A1 l1.length l1) (hc1 : l1.length ≤ c1) (h : weighhouseref06_last.f l0 l1 a2 = some r) :
    Calls Try.prog 31 #[.slice A0 l0.length c0, .slice A1 l1.length c1, .int .i64 a2] w fun e w' => e = .returned (.int .i64 r) ∧ Drawn0 w w' := by
  have HR0 := Aside0.mk hr0
  have HC0 := Aside0.mk hc0
  clear hr0 hc0
  have HR1 := Aside0.mk hr1
  have HC1 := Aside0.mk hc1
  clear hr1 hc1
  have H : (if 0 ≤ a2 then (if a2 < (l1.length : Int) then (if 0 ≤ (rd l1 a2) then (if (rd l1 a2) < (l0.length : Int) then (if ((rd_T31 l0 (rd l1 a2)).f0) = 49 then (if (rd l1 a2) < (l1.length : Int) then (some (rd l1 (rd l1 a2))) else (none)) else (some (rd l1 a2))) else (none)) else (none)) else (none)) else (none)) = some r := h
  clear h
  by_cases c4 : 0 ≤ a2
  · rw [if_pos c4] at H
    have c4b0 : decide (0 ≤ a2) = true := decide_eq_true c4
    clear c4
    by_cases c5 : a2 < (l1.length : Int)
    · rw [if_pos c5] at H
      have c5b0 : decide (a2 < (l1.length : Int)) = true := decide_eq_true c5
      clear c5
      by_cases c6 : 0 ≤ (rd l1 a2)
      · rw [if_pos c6] at H
        have c6b0 : decide (0 ≤ (rd l1 a2)) = true := decide_eq_true c6
        clear c6
        by_cases c7 : (rd l1 a2) < (l0.length : Int)
        · rw [if_pos c7] at H
          have c7b0 : decide ((rd l1 a2) < (l0.length : Int)) = true := decide_eq_true c7
          clear c7
          by_cases c8 : ((rd_T31 l0 (rd l1 a2)).f0) = 49
          · rw [if_pos c8] at H
            have c8b0 : (((rd_T31 l0 (rd l1 a2)).f0) == 49) = true := beq_iff_eq.mpr c8
            have c8b1 : (((rd_T31 l0 (rd l1 a2)).f0) != 49) = false := bne_eq_false_iff_eq.mpr c8
            clear c8
            by_cases c9 : (rd l1 a2) < (l1.length : Int)
            · rw [if_pos c9] at H
              have c9b0 : decide ((rd l1 a2) < (l1.length : Int)) = true := decide_eq_true c9
              clear c9
              obtain rfl := Option.some.inj H
              have p209 : 0 ≤ (a2 : Int) := of_decide_eq_true (by first | (with_reducible assumption) | assumption)
              have q209 : a2 < (l1.length : Int) := of_decide_eq_true (by first | (with_reducible assumption) | assumption)
              obtain ⟨ad209, e209, hx209_0⟩ := Kd.at_int HR1.out a2 p209 q209
              cases e209
              replace p209 := eq_true p209
              replace q209 := eq_true q209
              have p210 : 0 ≤ ((rd l1 a2) : Int) := of_decide_eq_true (by first | (with_reducible assumption) | assumption)
              have q210 : (rd l1 a2) < (l0.length : Int) := of_decide_eq_true (by first | (with_reducible assumption) | assumption)
              obtain ⟨ad210, e210, hx210_0, hx210_1⟩ := at_T31 HR0.out (rd l1 a2) p210 q210
              cases e210
              replace p210 := eq_true p210
              replace q210 := eq_true q210
              have p211 : 0 ≤ (a2 : Int) := of_decide_eq_true (by first | (with_reducible assumption) | assumption)
              have q211 : a2 < (l1.length : Int) := of_decide_eq_true (by first | (with_reducible assumption) | assumption)
              obtain ⟨ad211, e211, hx211_0⟩ := Kd.at_int HR1.out a2 p211 q211
              obtain rfl : ad209 = ad211 := (by injection e211)
              replace p211 := eq_true p211
              replace q211 := eq_true q211
              have p212 : 0 ≤ ((rd l1 a2) : Int) := of_decide_eq_true (by first | (with_reducible assumption) | assumption)
              have q212 : (rd l1 a2) < (l1.length : Int) := of_decide_eq_true (by first | (with_reducible assumption) | assumption)
              obtain ⟨ad212, e212, hx212_0⟩ := Kd.at_int HR1.out (rd l1 a2) p212 q212
              obtain rfl : ad209 = ad212 := (by injection e212)
              replace p212 := eq_true p212
              replace q212 := eq_true q212
              go_enter Try.func31, Try.ntmps31
              go_wp2
              go_ret
              exact ⟨by first | rfl | (simp; done) | (simp [*]; done), by repeat (first | exact Drawn0.refl _ | apply Drawn0.step)⟩
            · rw [if_neg c9] at H
              exact absurd H (by simp)
          · rw [if_neg c8] at H
            have c8b0 : (((rd_T31 l0 (rd l1 a2)).f0) == 49) = false := beq_eq_false_iff_ne.mpr c8
            have c8b1 : (((rd_T31 l0 (rd l1 a2)).f0) != 49) = true := bne_iff_ne.mpr c8
            obtain rfl := Option.some.inj H
            have p209 : 0 ≤ (a2 : Int) := of_decide_eq_true (by first | (with_reducible assumption) | assumption)
            have q209 : a2 < (l1.length : Int) := of_decide_eq_true (by first | (with_reducible assumption) | assumption)
            obtain ⟨ad209, e209, hx209_0⟩ := Kd.at_int HR1.out a2 p209 q209
            cases e209
            replace p209 := eq_true p209
            replace q209 := eq_true q209
            have p210 : 0 ≤ ((rd l1 a2) : Int) := of_decide_eq_true (by first | (with_reducible assumption) | assumption)
            have q210 : (rd l1 a2) < (l0.length : Int) := of_decide_eq_true (by first | (with_reducible assumption) | assumption)
            obtain ⟨ad210, e210, hx210_0, hx210_1⟩ := at_T31 HR0.out (rd l1 a2) p210 q210
            cases e210
            replace p210 := eq_true p210
            replace q210 := eq_true q210
            have p213 : 0 ≤ (a2 : Int) := of_decide_eq_true (by first | (with_reducible assumption) | assumption)
            have q213 : a2 < (l1.length : Int) := of_decide_eq_true (by first | (with_reducible assumption) | assumption)
            obtain ⟨ad213, e213, hx213_0⟩ := Kd.at_int HR1.out a2 p213 q213
            obtain rfl : ad209 = ad213 := (by injection e213)
            replace p213 := eq_true p213
            replace q213 := eq_true q213
            go_enter Try.func31, Try.ntmps31
            go_wp2
            go_ret
            exact ⟨by first | rfl | (simp; done) | (simp [*]; done), by repeat (first | exact Drawn0.refl _ | apply Drawn0.step)⟩
        · rw [if_neg c7] at H
          exact absurd H (by simp)
      · rw [if_neg c6] at H
        exact absurd H (by simp)
    · rw [if_neg c5] at H
      exact absurd H (by simp)
  · rw [if_neg c4] at H
    exact absurd H (by simp)

end Go.Proofs.Ytbdmbkmokhaflaa.Q
end

section
-- written by hprint.py (a program of these sessions) out of the translation; Lean checks it
namespace Go.Proofs.Ytbdmbkmokhaflaa.Q
open Go.RowKit Go.Proofs.YtbdmbkmokhaflaaW.Hb Go.Proofs.YtbdmbkmokhaflaaW.PrintWords Go.Proofs.YtbdmbkmokhaflaaW.PrintLast Go.Proofs.YtbdmbkmokhaflaaW.PrintMore
attribute [local go_sem] max2_int min2_int max_two min_two max_three min_three max_four min_four   -- for this text's walks alone
set_option linter.unusedVariables false
set_option linter.unusedSimpArgs false

/-! ### weighhouseref06_opened: function 24 -/
def weighhouseref06_opened.l0 : Nat → List (S31) → List Int → Int → List Int → Int → Option (List Int)
  | 0, _, _, _, _, _ => none
  | k + 1, x0, x1, x2, x7, x8 => if x8 < x2 then (if 0 ≤ x8 then (if x8 < (x0.length : Int) then (if ((rd_T31 x0 x8).f0) = 48 then ((weighhouseref06_last.f x0 x1 x8).bind fun t215 => (if t215 ≥ x2 then (if x7.length < 17592186044416 then (weighhouseref06_opened.l0 k x0 x1 x2 (x7 ++ [x8]) (wrap64 (x8 + 1))) else (none)) else (weighhouseref06_opened.l0 k x0 x1 x2 x7 (wrap64 (x8 + 1))))) else (if ((rd_T31 x0 x8).f0) = 51 then ((weighhouseref06_last.f x0 x1 x8).bind fun t220 => (if t220 ≥ x2 then (if x7.length < 17592186044416 then (weighhouseref06_opened.l0 k x0 x1 x2 (x7 ++ [x8]) (wrap64 (x8 + 1))) else (none)) else (weighhouseref06_opened.l0 k x0 x1 x2 x7 (wrap64 (x8 + 1))))) else (weighhouseref06_opened.l0 k x0 x1 x2 x7 (wrap64 (x8 + 1))))) else (none)) else (none)) else (some x7)
def weighhouseref06_opened.f (k : Nat) (l0 : List (S31)) (l1 : List Int) (a2 : Int) : Option (List Int) := weighhouseref06_opened.l0 k l0 l1 a2 ([] : List Int) 0
theorem weighhouseref06_opened.mono_l : ∀ k, (∀ y0 y1 y2 y3 y4, LeO (weighhouseref06_opened.l0 k y0 y1 y2 y3 y4) (weighhouseref06_opened.l0 (k + 1) y0 y1 y2 y3 y4))
  | 0 => fun _ _ _ _ _ r h => by simp [weighhouseref06_opened.l0] at h
  | k + 1 => by
    have ih0 := weighhouseref06_opened.mono_l k
    · intro y0 y1 y2 y3 y4
      unfold weighhouseref06_opened.l0
      repeat' first
      | (with_reducible exact ih0 _ _ _ _ _)
      | (with_reducible exact LeO.refl _)
      | (with_reducible exact LeO.none _)
      | (with_reducible refine LeO.ite ?_ ?_)
      | (with_reducible refine LeO.bind ?_ (fun _ => ?_))
      | exact ih0 _ _ _ _ _
      | exact LeO.none _
      | refine LeO.ite ?_ ?_
      | refine LeO.bind ?_ (fun _ => ?_)
theorem weighhouseref06_opened.mono : ∀ a0 a1 a2 k, LeO (weighhouseref06_opened.f k a0 a1 a2) (weighhouseref06_opened.f (k + 1) a0 a1 a2) := by
  intro a0 a1 a2 k
  have ih0 := weighhouseref06_opened.mono_l k
  unfold weighhouseref06_opened.f
  repeat' first
      | (with_reducible exact ih0 _ _ _ _ _)
      | (with_reducible exact LeO.refl _)
      | (with_reducible exact LeO.none _)
      | (with_reducible refine LeO.ite ?_ ?_)
      | (with_reducible refine LeO.bind ?_ (fun _ => ?_))
      | exact ih0 _ _ _ _ _
      | exact LeO.none _
      | refine LeO.ite ?_ ?_
      | refine LeO.bind ?_ (fun _ => ?_)
set_option maxHeartbeats 8000000 in
set_option maxRecDepth 100000 in
theorem weighhouseref06_opened.calls (k : Nat) (A0 : Option Addr) (c0 : Nat) (l0 : List (S31)) (A1 : Option Addr) (c1 : Nat) (l1 : List Int) (a2 : Int) (r : List Int) (w : World) (hr0 : Kd.C k31 w A0 l0.length l0) (hc0 : l0.length ≤ c0) (hr1 : Kd.C (Kd.int .i64) w A1 l1.length l1) (hc1 : l1.length ≤ c1) (h : weighhouseref06_opened.f k l0 l1 a2 = some r) :
    Calls Try.prog 24 #[.slice A0 l0.length c0, .slice A1 l1.length c1, .int .i64 a2] w fun e w' => ∃ v0_ : Value, e = .returned (v0_) ∧ Kd.R (Kd.int .i64) 3 w' w.heap.size (fun _ => True) v0_ r ∧ Below w.heap.size w w' := by
  have HR0 := Aside0.mk hr0
  have HC0 := Aside0.mk hc0
  clear hr0 hc0
  have HR1 := Aside0.mk hr1
  have HC1 := Aside0.mk hc1
  clear hr1 hc1
  have HB := Aside0.mk (Below.refl w.heap.size w)
  have H : (weighhouseref06_opened.l0 k l0 l1 a2 ([] : List Int) 0) = some r := h
  clear h
  have H' := Aside0.mk H
  clear H
  go_enter Try.func24, Try.ntmps24
  go_wp2
  go_loopg [7, 8] k (fun kq v7 v8 w' => ∃ (x7_1 : List Int) (x8_1 : Int), v8 = .int .i64 x8_1 ∧ Aside0 (weighhouseref06_opened.l0 kq l0 l1 a2 x7_1 x8_1 = some r) ∧ Aside0 (kq ≤ k) ∧ Aside0 (Kd.R (Kd.int .i64) 3 w' w.heap.size (fun _ => True) v7 x7_1) ∧ Aside0 (Below w.heap.size w w'))
  case atStart => exact ⟨(([] : List Int)), (0), (by first | rfl | (simp; done) | (simp [*]; done)), H', ⟨Nat.le_refl _⟩, ⟨by first | exact Kd.R_nil _ _ _ _ _ | exact Kd.N_nil _ _ _ _ _ | exact Kd.V_nil _ _ _ _ _ | exact Kd.Q_nil _ _ _ _ _ | exact Kd.S_nil _ _ _ _ _⟩, ⟨by repeat (first | (with_reducible first | exact HB.out | apply below_alloc | apply pw_below_drewN | apply below_drew1) | exact HB.out)⟩⟩
  case round =>
    clear H'
    try clear c1
    try clear c2
    try clear p2
    obtain ⟨x7_1, x8_1, rfl, HA, HK1, HO_7, HB⟩ := hrel
    cases gk with
    | zero => exact absurd HA.out (by simp [weighhouseref06_opened.l0])
    | succ k1 =>
      have H := HA.out
      clear HA
      simp only [weighhouseref06_opened.l0] at H
      by_cases c4 : x8_1 < a2
      · rw [if_pos c4] at H
        have c4b0 : decide (x8_1 < a2) = true := decide_eq_true c4
        clear c4
        by_cases c5 : 0 ≤ x8_1
        · rw [if_pos c5] at H
          have c5b0 : decide (0 ≤ x8_1) = true := decide_eq_true c5
          clear c5
          by_cases c6 : x8_1 < (l0.length : Int)
          · rw [if_pos c6] at H
            have c6b0 : decide (x8_1 < (l0.length : Int)) = true := decide_eq_true c6
            clear c6
            by_cases c7 : ((rd_T31 l0 x8_1).f0) = 48
            · rw [if_pos c7] at H
              have c7b0 : (((rd_T31 l0 x8_1).f0) == 48) = true := beq_iff_eq.mpr c7
              have c7b1 : (((rd_T31 l0 x8_1).f0) != 48) = false := bne_eq_false_iff_eq.mpr c7
              clear c7
              replace H := Option.bind_eq_some_iff.mp H
              obtain ⟨t215, A80, H⟩ := H
              replace H : (if t215 ≥ a2 then (if x7_1.length < 17592186044416 then (weighhouseref06_opened.l0 k1 l0 l1 a2 (x7_1 ++ [x8_1]) (wrap64 (x8_1 + 1))) else (none)) else (weighhouseref06_opened.l0 k1 l0 l1 a2 x7_1 (wrap64 (x8_1 + 1)))) = some r := H
              have A8 := Aside0.mk A80
              clear A80
              by_cases c9 : t215 ≥ a2
              · rw [if_pos c9] at H
                have c9b0 : decide (a2 ≤ t215) = true := decide_eq_true c9
                clear c9
                by_cases c10 : x7_1.length < 17592186044416
                · rw [if_pos c10] at H
                  have LMc10 := Aside0.mk c10
                  clear c10
                  obtain ⟨y216, hy216⟩ : ∃ y_ : List Int, y_ = (x7_1 ++ [x8_1]) := ⟨_, rfl⟩
                  replace H : (weighhouseref06_opened.l0 k1 l0 l1 a2 y216 (wrap64 (x8_1 + 1))) = some r := by first | (rw [hy216]; with_reducible exact H) | (have H2_ := (Option.bind_some _ _).symm.trans H; rw [hy216]; with_reducible exact H2_) | (have H2_ := (Option.bind_some _ _).symm.trans H; with_reducible exact H2_) | with_reducible exact H | (rw [hy216]; exact H) | exact H
                  have Ny216 := Aside0.mk hy216
                  clear hy216
                  have H' := Aside0.mk H
                  clear H
                  have p214 : 0 ≤ (x8_1 : Int) := of_decide_eq_true (by first | (with_reducible assumption) | assumption)
                  have q214 : x8_1 < (l0.length : Int) := of_decide_eq_true (by first | (with_reducible assumption) | assumption)
                  obtain ⟨ad214, e214, hx214_0, hx214_1⟩ := at_T31 HR0.out x8_1 p214 q214
                  cases e214
                  replace hx214_0 := (HB.out.cell (World.block_lt_of_cell? w _ hx214_0)).trans hx214_0
                  replace hx214_1 := (HB.out.cell (World.block_lt_of_cell? w _ hx214_1)).trans hx214_1
                  replace p214 := eq_true p214
                  replace q214 := eq_true q214
                  go_wp2_with (first | (go_at_call 31; (with_reducible refine (weighhouseref06_last.calls _ _ l0 _ _ l1 x8_1 t215 _ ?side1 ?side2 ?side3 ?side4 A8.out).mono ?_); (case side1 => repeat (first | exact (Kd.C_below HR0.out HB.out) | (with_reducible refine Kd.C_alloc ?_ _) | (with_reducible refine Kd.C_drewN ?_ _) | (with_reducible refine Kd.C_drew ?_))); (case side2 => exact HC0.out); (case side3 => repeat (first | exact (Kd.C_below HR1.out HB.out) | (with_reducible refine Kd.C_alloc ?_ _) | (with_reducible refine Kd.C_drewN ?_ _) | (with_reducible refine Kd.C_drew ?_))); (case side4 => exact HC1.out); rintro e w' ⟨rfl, ⟨nd, rfl⟩⟩) | ((with_reducible refine gate_builtin (b := .append) (xs := #[.tmp 36, .tmp 38]) rfl ?_); at_builtin; refine Kd.R_append (Kd.int .i64) (w0 := w) w.heap.size rfl (.tmp 36) (.tmp 38) 24 3 (.int .i64 0) 8 rfl Try.underlying24 info3 rfl (by decide) (by omega) u7 x7_1 x8_1 [.int .i64 x8_1] (fun _ => True) (fun _ => False) rfl rfl ?aP (fun _ hk => hk.elim) ?aF ?aO ?aB ?aS ?aL ?_; (case aP => exact rfl); (case aB => exact (by repeat (first | (with_reducible first | exact HB.out | apply below_alloc | apply pw_below_drewN | apply below_drew1) | exact HB.out))); (case aF => exact (fun _ _ => trivial)); (case aO => exact (by (with_reducible repeat (first | apply Kd.R_alloc | apply Kd.R_drewN | apply Kd.R_drew)); exact HO_7.out)); (case aS => exact (below_size (by repeat (first | (with_reducible first | exact HB.out | apply below_alloc | apply pw_below_drewN | apply below_drew1) | exact HB.out)))); (case aL => have := LMc10.out; omega); intro v217 w11 ho hb hg hat; rw [← Ny216.out] at ho; have n0_ := Aside0.mk (hb); have n1_ := Aside0.mk (ho); clear HB; clear HO_7; have HB := n0_; have HO218 := n1_; clear n0_ n1_; clear ho hb hg hat))
                  go_roundg k1
                  case measure => have := HK1.out; omega
                  case rel => exact ⟨(y216), (wrap64 (x8_1 + 1)), (by first | rfl | (simp; done) | (simp [*]; done)), H', ⟨by have := HK1.out; omega⟩, ⟨by (with_reducible repeat (first | apply Kd.R_alloc | apply Kd.R_drewN | apply Kd.R_drew)); exact HO218.out⟩, ⟨by repeat (first | (with_reducible first | exact HB.out | apply below_alloc | apply pw_below_drewN | apply below_drew1) | exact HB.out)⟩⟩
                · rw [if_neg c10] at H
                  exact absurd H (by simp)
              · rw [if_neg c9] at H
                have c9b0 : decide (a2 ≤ t215) = false := decide_eq_false c9
                clear c9
                have H' := Aside0.mk H
                clear H
                have p214 : 0 ≤ (x8_1 : Int) := of_decide_eq_true (by first | (with_reducible assumption) | assumption)
                have q214 : x8_1 < (l0.length : Int) := of_decide_eq_true (by first | (with_reducible assumption) | assumption)
                obtain ⟨ad214, e214, hx214_0, hx214_1⟩ := at_T31 HR0.out x8_1 p214 q214
                cases e214
                replace hx214_0 := (HB.out.cell (World.block_lt_of_cell? w _ hx214_0)).trans hx214_0
                replace hx214_1 := (HB.out.cell (World.block_lt_of_cell? w _ hx214_1)).trans hx214_1
                replace p214 := eq_true p214
                replace q214 := eq_true q214
                go_wp2_with (first | (go_at_call 31; (with_reducible refine (weighhouseref06_last.calls _ _ l0 _ _ l1 x8_1 t215 _ ?side1 ?side2 ?side3 ?side4 A8.out).mono ?_); (case side1 => repeat (first | exact (Kd.C_below HR0.out HB.out) | (with_reducible refine Kd.C_alloc ?_ _) | (with_reducible refine Kd.C_drewN ?_ _) | (with_reducible refine Kd.C_drew ?_))); (case side2 => exact HC0.out); (case side3 => repeat (first | exact (Kd.C_below HR1.out HB.out) | (with_reducible refine Kd.C_alloc ?_ _) | (with_reducible refine Kd.C_drewN ?_ _) | (with_reducible refine Kd.C_drew ?_))); (case side4 => exact HC1.out); rintro e w' ⟨rfl, ⟨nd, rfl⟩⟩))
                go_roundg k1
                case measure => have := HK1.out; omega
                case rel => exact ⟨(x7_1), (wrap64 (x8_1 + 1)), (by first | rfl | (simp; done) | (simp [*]; done)), H', ⟨by have := HK1.out; omega⟩, ⟨by (with_reducible repeat (first | apply Kd.R_alloc | apply Kd.R_drewN | apply Kd.R_drew)); exact HO_7.out⟩, ⟨by repeat (first | (with_reducible first | exact HB.out | apply below_alloc | apply pw_below_drewN | apply below_drew1) | exact HB.out)⟩⟩
            · rw [if_neg c7] at H
              have c7b0 : (((rd_T31 l0 x8_1).f0) == 48) = false := beq_eq_false_iff_ne.mpr c7
              have c7b1 : (((rd_T31 l0 x8_1).f0) != 48) = true := bne_iff_ne.mpr c7
              by_cases c12 : ((rd_T31 l0 x8_1).f0) = 51
              · rw [if_pos c12] at H
                have c12b0 : (((rd_T31 l0 x8_1).f0) == 51) = true := beq_iff_eq.mpr c12
                have c12b1 : (((rd_T31 l0 x8_1).f0) != 51) = false := bne_eq_false_iff_eq.mpr c12
                clear c12
                replace H := Option.bind_eq_some_iff.mp H
                obtain ⟨t220, A130, H⟩ := H
                replace H : (if t220 ≥ a2 then (if x7_1.length < 17592186044416 then (weighhouseref06_opened.l0 k1 l0 l1 a2 (x7_1 ++ [x8_1]) (wrap64 (x8_1 + 1))) else (none)) else (weighhouseref06_opened.l0 k1 l0 l1 a2 x7_1 (wrap64 (x8_1 + 1)))) = some r := H
                have A13 := Aside0.mk A130
                clear A130
                by_cases c14 : t220 ≥ a2
                · rw [if_pos c14] at H
                  have c14b0 : decide (a2 ≤ t220) = true := decide_eq_true c14
                  clear c14
                  by_cases c15 : x7_1.length < 17592186044416
                  · rw [if_pos c15] at H
                    have LMc15 := Aside0.mk c15
                    clear c15
                    obtain ⟨y221, hy221⟩ : ∃ y_ : List Int, y_ = (x7_1 ++ [x8_1]) := ⟨_, rfl⟩
                    replace H : (weighhouseref06_opened.l0 k1 l0 l1 a2 y221 (wrap64 (x8_1 + 1))) = some r := by first | (rw [hy221]; with_reducible exact H) | (have H2_ := (Option.bind_some _ _).symm.trans H; rw [hy221]; with_reducible exact H2_) | (have H2_ := (Option.bind_some _ _).symm.trans H; with_reducible exact H2_) | with_reducible exact H | (rw [hy221]; exact H) | exact H
                    have Ny221 := Aside0.mk hy221
                    clear hy221
                    have H' := Aside0.mk H
                    clear H
                    have p214 : 0 ≤ (x8_1 : Int) := of_decide_eq_true (by first | (with_reducible assumption) | assumption)
                    have q214 : x8_1 < (l0.length : Int) := of_decide_eq_true (by first | (with_reducible assumption) | assumption)
                    obtain ⟨ad214, e214, hx214_0, hx214_1⟩ := at_T31 HR0.out x8_1 p214 q214
                    cases e214
                    replace hx214_0 := (HB.out.cell (World.block_lt_of_cell? w _ hx214_0)).trans hx214_0
                    replace hx214_1 := (HB.out.cell (World.block_lt_of_cell? w _ hx214_1)).trans hx214_1
                    replace p214 := eq_true p214
                    replace q214 := eq_true q214
                    have p219 : 0 ≤ (x8_1 : Int) := of_decide_eq_true (by first | (with_reducible assumption) | assumption)
                    have q219 : x8_1 < (l0.length : Int) := of_decide_eq_true (by first | (with_reducible assumption) | assumption)
                    obtain ⟨ad219, e219, hx219_0, hx219_1⟩ := at_T31 HR0.out x8_1 p219 q219
                    obtain rfl : ad214 = ad219 := (by injection e219)
                    replace hx219_0 := (HB.out.cell (World.block_lt_of_cell? w _ hx219_0)).trans hx219_0
                    replace hx219_1 := (HB.out.cell (World.block_lt_of_cell? w _ hx219_1)).trans hx219_1
                    replace p219 := eq_true p219
                    replace q219 := eq_true q219
                    go_wp2_with (first | (go_at_call 31; (with_reducible refine (weighhouseref06_last.calls _ _ l0 _ _ l1 x8_1 t220 _ ?side1 ?side2 ?side3 ?side4 A13.out).mono ?_); (case side1 => repeat (first | exact (Kd.C_below HR0.out HB.out) | (with_reducible refine Kd.C_alloc ?_ _) | (with_reducible refine Kd.C_drewN ?_ _) | (with_reducible refine Kd.C_drew ?_))); (case side2 => exact HC0.out); (case side3 => repeat (first | exact (Kd.C_below HR1.out HB.out) | (with_reducible refine Kd.C_alloc ?_ _) | (with_reducible refine Kd.C_drewN ?_ _) | (with_reducible refine Kd.C_drew ?_))); (case side4 => exact HC1.out); rintro e w' ⟨rfl, ⟨nd, rfl⟩⟩) | ((with_reducible refine gate_builtin (b := .append) (xs := #[.tmp 36, .tmp 38]) rfl ?_); at_builtin; refine Kd.R_append (Kd.int .i64) (w0 := w) w.heap.size rfl (.tmp 36) (.tmp 38) 24 3 (.int .i64 0) 8 rfl Try.underlying24 info3 rfl (by decide) (by omega) u7 x7_1 x8_1 [.int .i64 x8_1] (fun _ => True) (fun _ => False) rfl rfl ?aP (fun _ hk => hk.elim) ?aF ?aO ?aB ?aS ?aL ?_; (case aP => exact rfl); (case aB => exact (by repeat (first | (with_reducible first | exact HB.out | apply below_alloc | apply pw_below_drewN | apply below_drew1) | exact HB.out))); (case aF => exact (fun _ _ => trivial)); (case aO => exact (by (with_reducible repeat (first | apply Kd.R_alloc | apply Kd.R_drewN | apply Kd.R_drew)); exact HO_7.out)); (case aS => exact (below_size (by repeat (first | (with_reducible first | exact HB.out | apply below_alloc | apply pw_below_drewN | apply below_drew1) | exact HB.out)))); (case aL => have := LMc15.out; omega); intro v222 w16 ho hb hg hat; rw [← Ny221.out] at ho; have n0_ := Aside0.mk (hb); have n1_ := Aside0.mk (ho); clear HB; clear HO_7; have HB := n0_; have HO223 := n1_; clear n0_ n1_; clear ho hb hg hat))
                    go_roundg k1
                    case measure => have := HK1.out; omega
                    case rel => exact ⟨(y221), (wrap64 (x8_1 + 1)), (by first | rfl | (simp; done) | (simp [*]; done)), H', ⟨by have := HK1.out; omega⟩, ⟨by (with_reducible repeat (first | apply Kd.R_alloc | apply Kd.R_drewN | apply Kd.R_drew)); exact HO223.out⟩, ⟨by repeat (first | (with_reducible first | exact HB.out | apply below_alloc | apply pw_below_drewN | apply below_drew1) | exact HB.out)⟩⟩
                  · rw [if_neg c15] at H
                    exact absurd H (by simp)
                · rw [if_neg c14] at H
                  have c14b0 : decide (a2 ≤ t220) = false := decide_eq_false c14
                  clear c14
                  have H' := Aside0.mk H
                  clear H
                  have p214 : 0 ≤ (x8_1 : Int) := of_decide_eq_true (by first | (with_reducible assumption) | assumption)
                  have q214 : x8_1 < (l0.length : Int) := of_decide_eq_true (by first | (with_reducible assumption) | assumption)
                  obtain ⟨ad214, e214, hx214_0, hx214_1⟩ := at_T31 HR0.out x8_1 p214 q214
                  cases e214
                  replace hx214_0 := (HB.out.cell (World.block_lt_of_cell? w _ hx214_0)).trans hx214_0
                  replace hx214_1 := (HB.out.cell (World.block_lt_of_cell? w _ hx214_1)).trans hx214_1
                  replace p214 := eq_true p214
                  replace q214 := eq_true q214
                  have p219 : 0 ≤ (x8_1 : Int) := of_decide_eq_true (by first | (with_reducible assumption) | assumption)
                  have q219 : x8_1 < (l0.length : Int) := of_decide_eq_true (by first | (with_reducible assumption) | assumption)
                  obtain ⟨ad219, e219, hx219_0, hx219_1⟩ := at_T31 HR0.out x8_1 p219 q219
                  obtain rfl : ad214 = ad219 := (by injection e219)
                  replace hx219_0 := (HB.out.cell (World.block_lt_of_cell? w _ hx219_0)).trans hx219_0
                  replace hx219_1 := (HB.out.cell (World.block_lt_of_cell? w _ hx219_1)).trans hx219_1
                  replace p219 := eq_true p219
                  replace q219 := eq_true q219
                  go_wp2_with (first | (go_at_call 31; (with_reducible refine (weighhouseref06_last.calls _ _ l0 _ _ l1 x8_1 t220 _ ?side1 ?side2 ?side3 ?side4 A13.out).mono ?_); (case side1 => repeat (first | exact (Kd.C_below HR0.out HB.out) | (with_reducible refine Kd.C_alloc ?_ _) | (with_reducible refine Kd.C_drewN ?_ _) | (with_reducible refine Kd.C_drew ?_))); (case side2 => exact HC0.out); (case side3 => repeat (first | exact (Kd.C_below HR1.out HB.out) | (with_reducible refine Kd.C_alloc ?_ _) | (with_reducible refine Kd.C_drewN ?_ _) | (with_reducible refine Kd.C_drew ?_))); (case side4 => exact HC1.out); rintro e w' ⟨rfl, ⟨nd, rfl⟩⟩))
                  go_roundg k1
                  case measure => have := HK1.out; omega
                  case rel => exact ⟨(x7_1), (wrap64 (x8_1 + 1)), (by first | rfl | (simp; done) | (simp [*]; done)), H', ⟨by have := HK1.out; omega⟩, ⟨by (with_reducible repeat (first | apply Kd.R_alloc | apply Kd.R_drewN | apply Kd.R_drew)); exact HO_7.out⟩, ⟨by repeat (first | (with_reducible first | exact HB.out | apply below_alloc | apply pw_below_drewN | apply below_drew1) | exact HB.out)⟩⟩
              · rw [if_neg c12] at H
                have c12b0 : (((rd_T31 l0 x8_1).f0) == 51) = false := beq_eq_false_iff_ne.mpr c12
                have c12b1 : (((rd_T31 l0 x8_1).f0) != 51) = true := bne_iff_ne.mpr c12
                have H' := Aside0.mk H
                clear H
                have p214 : 0 ≤ (x8_1 : Int) := of_decide_eq_true (by first | (with_reducible assumption) | assumption)
                have q214 : x8_1 < (l0.length : Int) := of_decide_eq_true (by first | (with_reducible assumption) | assumption)
                obtain ⟨ad214, e214, hx214_0, hx214_1⟩ := at_T31 HR0.out x8_1 p214 q214
                cases e214
                replace hx214_0 := (HB.out.cell (World.block_lt_of_cell? w _ hx214_0)).trans hx214_0
                replace hx214_1 := (HB.out.cell (World.block_lt_of_cell? w _ hx214_1)).trans hx214_1
                replace p214 := eq_true p214
                replace q214 := eq_true q214
                have p219 : 0 ≤ (x8_1 : Int) := of_decide_eq_true (by first | (with_reducible assumption) | assumption)
                have q219 : x8_1 < (l0.length : Int) := of_decide_eq_true (by first | (with_reducible assumption) | assumption)
                obtain ⟨ad219, e219, hx219_0, hx219_1⟩ := at_T31 HR0.out x8_1 p219 q219
                obtain rfl : ad214 = ad219 := (by injection e219)
                replace hx219_0 := (HB.out.cell (World.block_lt_of_cell? w _ hx219_0)).trans hx219_0
                replace hx219_1 := (HB.out.cell (World.block_lt_of_cell? w _ hx219_1)).trans hx219_1
                replace p219 := eq_true p219
                replace q219 := eq_true q219
                go_wp2
                go_roundg k1
                case measure => have := HK1.out; omega
                case rel => exact ⟨(x7_1), (wrap64 (x8_1 + 1)), (by first | rfl | (simp; done) | (simp [*]; done)), H', ⟨by have := HK1.out; omega⟩, ⟨by (with_reducible repeat (first | apply Kd.R_alloc | apply Kd.R_drewN | apply Kd.R_drew)); exact HO_7.out⟩, ⟨by repeat (first | (with_reducible first | exact HB.out | apply below_alloc | apply pw_below_drewN | apply below_drew1) | exact HB.out)⟩⟩
          · rw [if_neg c6] at H
            exact absurd H (by simp)
        · rw [if_neg c5] at H
          exact absurd H (by simp)
      · rw [if_neg c4] at H
        have c4b0 : decide (x8_1 < a2) = false := decide_eq_false c4
        clear c4
        obtain rfl := Option.some.inj H
        go_wp2
        go_ret
        exact ⟨_, by first | rfl | (simp [errW_none, errW_some] <;> rfl) | (simp [*, errW_none, errW_some] <;> rfl), by (with_reducible repeat (first | apply Kd.R_alloc | apply Kd.R_drewN | apply Kd.R_drew)); exact HO_7.out, by repeat (first | (with_reducible first | exact HB.out | apply below_alloc | apply pw_below_drewN | apply below_drew1) | exact HB.out)⟩

end Go.Proofs.Ytbdmbkmokhaflaa.Q
end
