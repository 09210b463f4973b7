/- texts of one claim, merged: each in a section of its own -/
import Derived.Test.YtbdmbkmokhaflaaMShapeNest3
section
-- written by hprint.py (a program of these sessions) out of the translation; Lean checks it
namespace Go.Proofs.Ytbdmbkmokhaflaa.Q
open Go.RowKit Go.Proofs.YtbdmbkmokhaflaaW.Hb Go.Proofs.YtbdmbkmokhaflaaW.PrintWords Go.Proofs.YtbdmbkmokhaflaaW.PrintLast Go.Proofs.YtbdmbkmokhaflaaW.PrintMore
attribute [local go_sem] max2_int min2_int max_two min_two max_three min_three max_four min_four   -- for this text's walks alone
set_option linter.unusedVariables false
set_option linter.unusedSimpArgs false

/-! ### weighhouselaw06_knows: function 9 -/
def weighhouselaw06_knows.f (k : Nat)  : Option (Bool) := (shape_Match.f (([(⟨48, 0⟩ : S31), (⟨49, 0⟩ : S31), (⟨50, 0⟩ : S31)] : List (S31)))).bind fun bt106 => ((shape_Match.f (([(⟨51, 1⟩ : S31), (⟨52, 0⟩ : S31), (⟨50, 0⟩ : S31)] : List (S31)))).bind fun bt113 => ((weighhouselaw06_num.f bt106.2).bind fun t117 => ((weighhouselaw06_num.f bt113.2).bind fun t118 => (if (wrap64 (t117 + t118)) = 0 then ((weighhouselaw03_Ints.f k bt106.1 (([1, 2, 0] : List Int))).bind fun t122 => (if t122 = true then ((weighhouselaw03_Ints.f k bt113.1 (([2, 2, 0] : List Int))).bind fun t126 => (some t126)) else (some false))) else (some false)))))
theorem weighhouselaw06_knows.mono : ∀ k, LeO (weighhouselaw06_knows.f k ) (weighhouselaw06_knows.f (k + 1) ) := by
  intro  k
  unfold weighhouselaw06_knows.f
  repeat' first
      | (with_reducible exact weighhouselaw03_Ints.mono _ _ _)
      | (with_reducible exact LeO.refl _)
      | (with_reducible exact LeO.none _)
      | (with_reducible refine LeO.ite ?_ ?_)
      | (with_reducible refine LeO.bind ?_ (fun _ => ?_))
      | exact weighhouselaw03_Ints.mono _ _ _
      | exact LeO.none _
      | refine LeO.ite ?_ ?_
      | refine LeO.bind ?_ (fun _ => ?_)
set_option maxHeartbeats 8000000 in
set_option maxRecDepth 100000 in
theorem weighhouselaw06_knows.calls (k : Nat)  (r : Bool) (w : World) (h : weighhouselaw06_knows.f k  = some r) :
    Calls Try.prog 9 #[] w fun e w' => e = .returned (.bool r) ∧ Below w.heap.size w w' := by
  have hu31 := Try.underlying31
  have HB := Aside0.mk (Below.refl w.heap.size w)
  have H : ((shape_Match.f (([(⟨48, 0⟩ : S31), (⟨49, 0⟩ : S31), (⟨50, 0⟩ : S31)] : List (S31)))).bind fun bt106 => ((shape_Match.f (([(⟨51, 1⟩ : S31), (⟨52, 0⟩ : S31), (⟨50, 0⟩ : S31)] : List (S31)))).bind fun bt113 => ((weighhouselaw06_num.f bt106.2).bind fun t117 => ((weighhouselaw06_num.f bt113.2).bind fun t118 => (if (wrap64 (t117 + t118)) = 0 then ((weighhouselaw03_Ints.f k bt106.1 (([1, 2, 0] : List Int))).bind fun t122 => (if t122 = true then ((weighhouselaw03_Ints.f k bt113.1 (([2, 2, 0] : List Int))).bind fun t126 => (some t126)) else (some false))) else (some false)))))) = some r := h
  clear h
  obtain ⟨y103, hy103⟩ : ∃ y_ : List (S31), y_ = (([(⟨48, 0⟩ : S31), (⟨49, 0⟩ : S31), (⟨50, 0⟩ : S31)] : List (S31))) := ⟨_, rfl⟩
  replace H : ((shape_Match.f y103).bind fun bt106 => ((shape_Match.f (([(⟨51, 1⟩ : S31), (⟨52, 0⟩ : S31), (⟨50, 0⟩ : S31)] : List (S31)))).bind fun bt113 => ((weighhouselaw06_num.f bt106.2).bind fun t117 => ((weighhouselaw06_num.f bt113.2).bind fun t118 => (if (wrap64 (t117 + t118)) = 0 then ((weighhouselaw03_Ints.f k bt106.1 (([1, 2, 0] : List Int))).bind fun t122 => (if t122 = true then ((weighhouselaw03_Ints.f k bt113.1 (([2, 2, 0] : List Int))).bind fun t126 => (some t126)) else (some false))) else (some false)))))) = some r := by first | (rw [hy103]; with_reducible exact H) | (have H2_ := (Option.bind_some _ _).symm.trans H; rw [hy103]; with_reducible exact H2_) | (have H2_ := (Option.bind_some _ _).symm.trans H; with_reducible exact H2_) | with_reducible exact H | (rw [hy103]; exact H) | exact H
  have Ny103 := Aside0.mk hy103
  clear hy103
  replace H := Option.bind_eq_some_iff.mp H
  obtain ⟨⟨t106, t107⟩, A10, H⟩ := H
  replace H : ((shape_Match.f (([(⟨51, 1⟩ : S31), (⟨52, 0⟩ : S31), (⟨50, 0⟩ : S31)] : List (S31)))).bind fun bt113 => ((weighhouselaw06_num.f t107).bind fun t117 => ((weighhouselaw06_num.f bt113.2).bind fun t118 => (if (wrap64 (t117 + t118)) = 0 then ((weighhouselaw03_Ints.f k t106 (([1, 2, 0] : List Int))).bind fun t122 => (if t122 = true then ((weighhouselaw03_Ints.f k bt113.1 (([2, 2, 0] : List Int))).bind fun t126 => (some t126)) else (some false))) else (some false))))) = some r := H
  have A1 := Aside0.mk A10
  clear A10
  obtain ⟨y110, hy110⟩ : ∃ y_ : List (S31), y_ = (([(⟨51, 1⟩ : S31), (⟨52, 0⟩ : S31), (⟨50, 0⟩ : S31)] : List (S31))) := ⟨_, rfl⟩
  replace H : ((shape_Match.f y110).bind fun bt113 => ((weighhouselaw06_num.f t107).bind fun t117 => ((weighhouselaw06_num.f bt113.2).bind fun t118 => (if (wrap64 (t117 + t118)) = 0 then ((weighhouselaw03_Ints.f k t106 (([1, 2, 0] : List Int))).bind fun t122 => (if t122 = true then ((weighhouselaw03_Ints.f k bt113.1 (([2, 2, 0] : List Int))).bind fun t126 => (some t126)) else (some false))) else (some false))))) = some r := by first | (rw [hy110]; with_reducible exact H) | (have H2_ := (Option.bind_some _ _).symm.trans H; rw [hy110]; with_reducible exact H2_) | (have H2_ := (Option.bind_some _ _).symm.trans H; with_reducible exact H2_) | with_reducible exact H | (rw [hy110]; exact H) | exact H
  have Ny110 := Aside0.mk hy110
  clear hy110
  replace H := Option.bind_eq_some_iff.mp H
  obtain ⟨⟨t113, t114⟩, A20, H⟩ := H
  replace H : ((weighhouselaw06_num.f t107).bind fun t117 => ((weighhouselaw06_num.f t114).bind fun t118 => (if (wrap64 (t117 + t118)) = 0 then ((weighhouselaw03_Ints.f k t106 (([1, 2, 0] : List Int))).bind fun t122 => (if t122 = true then ((weighhouselaw03_Ints.f k t113 (([2, 2, 0] : List Int))).bind fun t126 => (some t126)) else (some false))) else (some false)))) = some r := H
  have A2 := Aside0.mk A20
  clear A20
  replace H := Option.bind_eq_some_iff.mp H
  obtain ⟨t117, A30, H⟩ := H
  replace H : ((weighhouselaw06_num.f t114).bind fun t118 => (if (wrap64 (t117 + t118)) = 0 then ((weighhouselaw03_Ints.f k t106 (([1, 2, 0] : List Int))).bind fun t122 => (if t122 = true then ((weighhouselaw03_Ints.f k t113 (([2, 2, 0] : List Int))).bind fun t126 => (some t126)) else (some false))) else (some false))) = some r := H
  have A3 := Aside0.mk A30
  clear A30
  replace H := Option.bind_eq_some_iff.mp H
  obtain ⟨t118, A40, H⟩ := H
  replace H : (if (wrap64 (t117 + t118)) = 0 then ((weighhouselaw03_Ints.f k t106 (([1, 2, 0] : List Int))).bind fun t122 => (if t122 = true then ((weighhouselaw03_Ints.f k t113 (([2, 2, 0] : List Int))).bind fun t126 => (some t126)) else (some false))) else (some false)) = some r := H
  have A4 := Aside0.mk A40
  clear A40
  by_cases c5 : (wrap64 (t117 + t118)) = 0
  · rw [if_pos c5] at H
    have c5b0 : ((wrap64 (t117 + t118)) == 0) = true := beq_iff_eq.mpr c5
    have c5b1 : ((wrap64 (t117 + t118)) != 0) = false := bne_eq_false_iff_eq.mpr c5
    clear c5
    obtain ⟨y119, hy119⟩ : ∃ y_ : List Int, y_ = (([1, 2, 0] : List Int)) := ⟨_, rfl⟩
    replace H : ((weighhouselaw03_Ints.f k t106 y119).bind fun t122 => (if t122 = true then ((weighhouselaw03_Ints.f k t113 (([2, 2, 0] : List Int))).bind fun t126 => (some t126)) else (some false))) = some r := by first | (rw [hy119]; with_reducible exact H) | (have H2_ := (Option.bind_some _ _).symm.trans H; rw [hy119]; with_reducible exact H2_) | (have H2_ := (Option.bind_some _ _).symm.trans H; with_reducible exact H2_) | with_reducible exact H | (rw [hy119]; exact H) | exact H
    have Ny119 := Aside0.mk hy119
    clear hy119
    replace H := Option.bind_eq_some_iff.mp H
    obtain ⟨t122, A60, H⟩ := H
    replace H : (if t122 = true then ((weighhouselaw03_Ints.f k t113 (([2, 2, 0] : List Int))).bind fun t126 => (some t126)) else (some false)) = some r := H
    have A6 := Aside0.mk A60
    clear A60
    by_cases c7 : t122 = true
    · subst c7
      have H1 : ((weighhouselaw03_Ints.f k t113 (([2, 2, 0] : List Int))).bind fun t126 => (some t126)) = some r := by rw [if_pos rfl] at H; exact H
      clear H
      have H := H1
      clear H1
      obtain ⟨y123, hy123⟩ : ∃ y_ : List Int, y_ = (([2, 2, 0] : List Int)) := ⟨_, rfl⟩
      replace H : ((weighhouselaw03_Ints.f k t113 y123).bind fun t126 => (some t126)) = some r := by first | (rw [hy123]; with_reducible exact H) | (have H2_ := (Option.bind_some _ _).symm.trans H; rw [hy123]; with_reducible exact H2_) | (have H2_ := (Option.bind_some _ _).symm.trans H; with_reducible exact H2_) | with_reducible exact H | (rw [hy123]; exact H) | exact H
      have Ny123 := Aside0.mk hy123
      clear hy123
      replace H := Option.bind_eq_some_iff.mp H
      obtain ⟨t126, A80, H⟩ := H
      replace H : (some t126) = some r := H
      have A8 := Aside0.mk A80
      clear A80
      obtain rfl := Option.some.inj H
      go_enter Try.func9, Try.ntmps9
      go_wp2_with (first | ((with_reducible refine gate_dst (N := 9) rfl ?_); (try (refine gate_guard (by rfl) ?_; dsimp only)); refine Kd.R_lit k31 _ 31 ?hg (N := 9) ?hd (xs := ([(⟨48, 0⟩ : S31), (⟨49, 0⟩ : S31), (⟨50, 0⟩ : S31)] : List (S31))) (inner := [.int .i64 48, .int .i64 0, .int .i64 49, .int .i64 0, .int .i64 50, .int .i64 0]) (ok := fun _ => True) (okp := fun _ => True) ?hr ?hp (fun _ hk => hk) trivial (Below.refl _ _) (Nat.le_refl _) (by simp) ?_; (case hd => rfl); (case hg => rfl); (case hr => first | (go_simp; done) | (go_simp; rfl)); (case hp => exact (Reps.c2 (show Kd.M k31 _ _ _ (⟨48, 0⟩ : S31) [.int .i64 48, .int .i64 0] from (k31_mkM _ _ _ (⟨48, 0⟩ : S31) )) (Reps.c2 (show Kd.M k31 _ _ _ (⟨49, 0⟩ : S31) [.int .i64 49, .int .i64 0] from (k31_mkM _ _ _ (⟨49, 0⟩ : S31) )) (Reps.c2 (show Kd.M k31 _ _ _ (⟨50, 0⟩ : S31) [.int .i64 50, .int .i64 0] from (k31_mkM _ _ _ (⟨50, 0⟩ : S31) )) (Reps.none _ _))))); intro v104 w9 ho10 hb hg_ hnew_; clear hg_ hnew_; (first | rw [← Ny103.out] at ho10 | (simp only [Int.reduceToNat] at ho10; rw [← Ny103.out] at ho10)); have n0_ := Aside0.mk (Kd.R_lower ho10 (below_size (by repeat (first | (with_reducible first | exact HB.out | apply below_alloc | apply pw_below_drewN | apply below_drew1) | exact HB.out)))); have n1_ := Aside0.mk (below_step (by repeat (first | (with_reducible first | exact HB.out | apply below_alloc | apply pw_below_drewN | apply below_drew1) | exact HB.out)) hb); clear HB; have HO105 := n0_; have HB := n1_; clear n0_ n1_; clear hb ho10; obtain ⟨Ao11, co11, eo11⟩ := Kd.R_slice HO105.out; subst eo11) | ((with_reducible refine gate_callee (f := 10) rfl ?_); refine goesL_ (some 10) rfl rfl Try.func10 (by kernel_rfl) rfl #[.slice Ao11 y103.length co11] rfl (by (try simp only [List.map_toArray, List.map_cons, List.map_nil]); first | done | rfl | (simp only [List.length_drop, List.length_take]; rfl)) ?_; (with_reducible refine (shape_Match.calls _ _ y103 t106 t107 _ ?side1 ?side2 A1.out).mono ?_); (case side1 => repeat (first | exact (Kd.R_reads' HO105.out).2.2 | (with_reducible refine Kd.C_alloc ?_ _) | (with_reducible refine Kd.C_drewN ?_ _) | (with_reducible refine Kd.C_drew ?_))); (case side2 => exact (Kd.R_reads' HO105.out).2.1); rintro e w12 ⟨v108, rfl, ho0, hb⟩; refine ⟨_, rfl, ?_⟩; have n0_ := Aside0.mk (Kd.R_below (by (with_reducible repeat (first | apply Kd.R_alloc | apply Kd.R_drewN | apply Kd.R_drew)); exact HO105.out) hb); have n1_ := Aside0.mk (Kd.R_lower ho0 (below_size (by repeat (first | (with_reducible first | exact HB.out | apply below_alloc | apply pw_below_drewN | apply below_drew1) | exact HB.out)))); have n2_ := Aside0.mk (below_step (by repeat (first | (with_reducible first | exact HB.out | apply below_alloc | apply pw_below_drewN | apply below_drew1) | exact HB.out)) hb); clear HO105; clear HB; have HO105 := n0_; have HO109 := n1_; have HB := n2_; clear n0_ n1_ n2_; (try clear hb); (try clear hb2); (try clear hk); (try clear hi); (try clear ho0)) | ((with_reducible refine gate_dst (N := 17) rfl ?_); (try (refine gate_guard (by rfl) ?_; dsimp only)); refine Kd.R_lit k31 _ 31 ?hg (N := 17) ?hd (xs := ([(⟨51, 1⟩ : S31), (⟨52, 0⟩ : S31), (⟨50, 0⟩ : S31)] : List (S31))) (inner := [.int .i64 51, .int .i64 1, .int .i64 52, .int .i64 0, .int .i64 50, .int .i64 0]) (ok := fun _ => True) (okp := fun _ => True) ?hr ?hp (fun _ hk => hk) trivial (Below.refl _ _) (Nat.le_refl _) (by simp) ?_; (case hd => rfl); (case hg => rfl); (case hr => first | (go_simp; done) | (go_simp; rfl)); (case hp => exact (Reps.c2 (show Kd.M k31 _ _ _ (⟨51, 1⟩ : S31) [.int .i64 51, .int .i64 1] from (k31_mkM _ _ _ (⟨51, 1⟩ : S31) )) (Reps.c2 (show Kd.M k31 _ _ _ (⟨52, 0⟩ : S31) [.int .i64 52, .int .i64 0] from (k31_mkM _ _ _ (⟨52, 0⟩ : S31) )) (Reps.c2 (show Kd.M k31 _ _ _ (⟨50, 0⟩ : S31) [.int .i64 50, .int .i64 0] from (k31_mkM _ _ _ (⟨50, 0⟩ : S31) )) (Reps.none _ _))))); intro v111 w13 ho14 hb hg_ hnew_; clear hg_ hnew_; (first | rw [← Ny110.out] at ho14 | (simp only [Int.reduceToNat] at ho14; rw [← Ny110.out] at ho14)); have n0_ := Aside0.mk (Kd.R_elder' (by (with_reducible repeat (first | apply Kd.R_alloc | apply Kd.R_drewN | apply Kd.R_drew)); exact HO105.out) (Kd.R_base ho14) hb); have n1_ := Aside0.mk (Kd.R_below (by (with_reducible repeat (first | apply Kd.R_alloc | apply Kd.R_drewN | apply Kd.R_drew)); exact HO109.out) hb); have n2_ := Aside0.mk (Kd.R_lower (Kd.R_new' ho14 (Kd.R_lt (by (with_reducible repeat (first | apply Kd.R_alloc | apply Kd.R_drewN | apply Kd.R_drew)); exact HO105.out))) (below_size (by repeat (first | (with_reducible first | exact HB.out | apply below_alloc | apply pw_below_drewN | apply below_drew1) | exact HB.out)))); have n3_ := Aside0.mk (below_step (by repeat (first | (with_reducible first | exact HB.out | apply below_alloc | apply pw_below_drewN | apply below_drew1) | exact HB.out)) hb); clear HO105; clear HO109; clear HB; have HO105 := n0_; have HO109 := n1_; have HO112 := n2_; have HB := n3_; clear n0_ n1_ n2_ n3_; clear hb ho14; obtain ⟨Ao15, co15, eo15⟩ := Kd.R_slice HO112.out; subst eo15) | ((with_reducible refine gate_callee (f := 10) rfl ?_); refine goesL_ (some 18) rfl rfl Try.func10 (by kernel_rfl) rfl #[.slice Ao15 y110.length co15] rfl (by (try simp only [List.map_toArray, List.map_cons, List.map_nil]); first | done | rfl | (simp only [List.length_drop, List.length_take]; rfl)) ?_; (with_reducible refine (shape_Match.calls _ _ y110 t113 t114 _ ?side1 ?side2 A2.out).mono ?_); (case side1 => repeat (first | exact (Kd.R_reads' HO112.out).2.2 | (with_reducible refine Kd.C_alloc ?_ _) | (with_reducible refine Kd.C_drewN ?_ _) | (with_reducible refine Kd.C_drew ?_))); (case side2 => exact (Kd.R_reads' HO112.out).2.1); rintro e w16 ⟨v115, rfl, ho0, hb⟩; refine ⟨_, rfl, ?_⟩; have n0_ := Aside0.mk (Kd.R_below (by (with_reducible repeat (first | apply Kd.R_alloc | apply Kd.R_drewN | apply Kd.R_drew)); exact HO105.out) hb); have n1_ := Aside0.mk (Kd.R_elder' (by (with_reducible repeat (first | apply Kd.R_alloc | apply Kd.R_drewN | apply Kd.R_drew)); exact HO109.out) (Kd.R_base ho0) hb); have n2_ := Aside0.mk (Kd.R_below (by (with_reducible repeat (first | apply Kd.R_alloc | apply Kd.R_drewN | apply Kd.R_drew)); exact HO112.out) hb); have n3_ := Aside0.mk (Kd.R_lower (Kd.R_new' ho0 (Kd.R_lt (by (with_reducible repeat (first | apply Kd.R_alloc | apply Kd.R_drewN | apply Kd.R_drew)); exact HO109.out))) (below_size (by repeat (first | (with_reducible first | exact HB.out | apply below_alloc | apply pw_below_drewN | apply below_drew1) | exact HB.out)))); have n4_ := Aside0.mk (below_step (by repeat (first | (with_reducible first | exact HB.out | apply below_alloc | apply pw_below_drewN | apply below_drew1) | exact HB.out)) hb); clear HO105; clear HO109; clear HO112; clear HB; have HO105 := n0_; have HO109 := n1_; have HO112 := n2_; have HO116 := n3_; have HB := n4_; clear n0_ n1_ n2_ n3_ n4_; (try clear hb); (try clear hb2); (try clear hk); (try clear hi); (try clear ho0)) | ((with_reducible refine gate_callee (f := 12) rfl ?_); refine goesL_ (some 22) rfl rfl Try.func12 (by kernel_rfl) rfl #[.int .i64 t107] rfl (by (try simp only [List.map_toArray, List.map_cons, List.map_nil]); first | done | rfl | (simp only [List.length_drop, List.length_take]; rfl)) ?_; (with_reducible refine (weighhouselaw06_num.calls t107 t117 _ A3.out).mono ?_); rintro e w' ⟨rfl, ⟨nd, rfl⟩⟩; refine ⟨_, rfl, ?_⟩) | ((with_reducible refine gate_callee (f := 12) rfl ?_); refine goesL_ (some 24) rfl rfl Try.func12 (by kernel_rfl) rfl #[.int .i64 t114] rfl (by (try simp only [List.map_toArray, List.map_cons, List.map_nil]); first | done | rfl | (simp only [List.length_drop, List.length_take]; rfl)) ?_; (with_reducible refine (weighhouselaw06_num.calls t114 t118 _ A4.out).mono ?_); rintro e w' ⟨rfl, ⟨nd, rfl⟩⟩; refine ⟨_, rfl, ?_⟩) | ((with_reducible refine gate_dst (N := 29) rfl ?_); (try (refine gate_guard (by rfl) ?_; dsimp only)); refine Kd.R_lit (Kd.int .i64) _ 3 ?hg (N := 29) ?hd (xs := ([1, 2, 0] : List Int)) (inner := [.int .i64 1, .int .i64 2, .int .i64 0]) (ok := fun _ => True) (okp := fun _ => True) ?hr ?hp (fun _ hk => hk) trivial (Below.refl _ _) (Nat.le_refl _) (by simp) ?_; (case hd => rfl); (case hg => rfl); (case hr => first | (go_simp; done) | (go_simp; rfl)); (case hp => exact (Reps.one (show Kd.M (Kd.int .i64) _ _ _ 1 [.int .i64 1] from rfl) (Reps.one (show Kd.M (Kd.int .i64) _ _ _ 2 [.int .i64 2] from rfl) (Reps.one (show Kd.M (Kd.int .i64) _ _ _ 0 [.int .i64 0] from rfl) (Reps.none _ _))))); intro v120 w17 ho18 hb hg_ hnew_; clear hg_ hnew_; (first | rw [← Ny119.out] at ho18 | (simp only [Int.reduceToNat] at ho18; rw [← Ny119.out] at ho18)); have n0_ := Aside0.mk (Kd.R_below (by (with_reducible repeat (first | apply Kd.R_alloc | apply Kd.R_drewN | apply Kd.R_drew)); exact HO105.out) hb); have n1_ := Aside0.mk (Kd.R_elder' (by (with_reducible repeat (first | apply Kd.R_alloc | apply Kd.R_drewN | apply Kd.R_drew)); exact HO109.out) (Kd.R_base ho18) hb); have n2_ := Aside0.mk (Kd.R_below (by (with_reducible repeat (first | apply Kd.R_alloc | apply Kd.R_drewN | apply Kd.R_drew)); exact HO112.out) hb); have n3_ := Aside0.mk (Kd.R_elder' (by (with_reducible repeat (first | apply Kd.R_alloc | apply Kd.R_drewN | apply Kd.R_drew)); exact HO116.out) (Kd.R_base ho18) hb); have n4_ := Aside0.mk (Kd.R_lower (Kd.R_new' (Kd.R_new' ho18 (Kd.R_lt (by (with_reducible repeat (first | apply Kd.R_alloc | apply Kd.R_drewN | apply Kd.R_drew)); exact HO109.out))) (Kd.R_lt (by (with_reducible repeat (first | apply Kd.R_alloc | apply Kd.R_drewN | apply Kd.R_drew)); exact HO116.out))) (below_size (by repeat (first | (with_reducible first | exact HB.out | apply below_alloc | apply pw_below_drewN | apply below_drew1) | exact HB.out)))); have n5_ := Aside0.mk (below_step (by repeat (first | (with_reducible first | exact HB.out | apply below_alloc | apply pw_below_drewN | apply below_drew1) | exact HB.out)) hb); clear HO105; clear HO109; clear HO112; clear HO116; clear HB; have HO105 := n0_; have HO109 := n1_; have HO112 := n2_; have HO116 := n3_; have HO121 := n4_; have HB := n5_; clear n0_ n1_ n2_ n3_ n4_ n5_; clear hb ho18; obtain ⟨Ao19, co19, eo19⟩ := Kd.R_slice HO109.out; subst eo19; obtain ⟨Ao20, co20, eo20⟩ := Kd.R_slice HO121.out; subst eo20) | (go_at_call 18; (with_reducible refine (weighhouselaw03_Ints.calls k _ _ t106 _ _ y119 true _ ?side1 ?side2 ?side3 ?side4 A6.out).mono ?_); (case side1 => repeat (first | exact (Kd.R_reads' HO109.out).2.2 | (with_reducible refine Kd.C_alloc ?_ _) | (with_reducible refine Kd.C_drewN ?_ _) | (with_reducible refine Kd.C_drew ?_))); (case side2 => exact (Kd.R_reads' HO109.out).2.1); (case side3 => repeat (first | exact (Kd.R_reads' HO121.out).2.2 | (with_reducible refine Kd.C_alloc ?_ _) | (with_reducible refine Kd.C_drewN ?_ _) | (with_reducible refine Kd.C_drew ?_))); (case side4 => exact (Kd.R_reads' HO121.out).2.1); rintro e w' ⟨rfl, ⟨nd, rfl⟩⟩) | ((with_reducible refine gate_dst (N := 34) rfl ?_); (try (refine gate_guard (by rfl) ?_; dsimp only)); refine Kd.R_lit (Kd.int .i64) _ 3 ?hg (N := 34) ?hd (xs := ([2, 2, 0] : List Int)) (inner := [.int .i64 2, .int .i64 2, .int .i64 0]) (ok := fun _ => True) (okp := fun _ => True) ?hr ?hp (fun _ hk => hk) trivial (Below.refl _ _) (Nat.le_refl _) (by simp) ?_; (case hd => rfl); (case hg => rfl); (case hr => first | (go_simp; done) | (go_simp; rfl)); (case hp => exact (Reps.one (show Kd.M (Kd.int .i64) _ _ _ 2 [.int .i64 2] from rfl) (Reps.one (show Kd.M (Kd.int .i64) _ _ _ 2 [.int .i64 2] from rfl) (Reps.one (show Kd.M (Kd.int .i64) _ _ _ 0 [.int .i64 0] from rfl) (Reps.none _ _))))); intro v124 w21 ho22 hb hg_ hnew_; clear hg_ hnew_; (first | rw [← Ny123.out] at ho22 | (simp only [Int.reduceToNat] at ho22; rw [← Ny123.out] at ho22)); have n0_ := Aside0.mk (Kd.R_below (by (with_reducible repeat (first | apply Kd.R_alloc | apply Kd.R_drewN | apply Kd.R_drew)); exact HO105.out) hb); have n1_ := Aside0.mk (Kd.R_elder' (by (with_reducible repeat (first | apply Kd.R_alloc | apply Kd.R_drewN | apply Kd.R_drew)); exact HO109.out) (Kd.R_base ho22) hb); have n2_ := Aside0.mk (Kd.R_below (by (with_reducible repeat (first | apply Kd.R_alloc | apply Kd.R_drewN | apply Kd.R_drew)); exact HO112.out) hb); have n3_ := Aside0.mk (Kd.R_elder' (by (with_reducible repeat (first | apply Kd.R_alloc | apply Kd.R_drewN | apply Kd.R_drew)); exact HO116.out) (Kd.R_base ho22) hb); have n4_ := Aside0.mk (Kd.R_elder' (by (with_reducible repeat (first | apply Kd.R_alloc | apply Kd.R_drewN | apply Kd.R_drew)); exact HO121.out) (Kd.R_base ho22) hb); have n5_ := Aside0.mk (Kd.R_lower (Kd.R_new' (Kd.R_new' (Kd.R_new' ho22 (Kd.R_lt (by (with_reducible repeat (first | apply Kd.R_alloc | apply Kd.R_drewN | apply Kd.R_drew)); exact HO109.out))) (Kd.R_lt (by (with_reducible repeat (first | apply Kd.R_alloc | apply Kd.R_drewN | apply Kd.R_drew)); exact HO116.out))) (Kd.R_lt (by (with_reducible repeat (first | apply Kd.R_alloc | apply Kd.R_drewN | apply Kd.R_drew)); exact HO121.out))) (below_size (by repeat (first | (with_reducible first | exact HB.out | apply below_alloc | apply pw_below_drewN | apply below_drew1) | exact HB.out)))); have n6_ := Aside0.mk (below_step (by repeat (first | (with_reducible first | exact HB.out | apply below_alloc | apply pw_below_drewN | apply below_drew1) | exact HB.out)) hb); clear HO105; clear HO109; clear HO112; clear HO116; clear HO121; clear HB; have HO105 := n0_; have HO109 := n1_; have HO112 := n2_; have HO116 := n3_; have HO121 := n4_; have HO125 := n5_; have HB := n6_; clear n0_ n1_ n2_ n3_ n4_ n5_ n6_; clear hb ho22; obtain ⟨Ao23, co23, eo23⟩ := Kd.R_slice HO116.out; subst eo23; obtain ⟨Ao24, co24, eo24⟩ := Kd.R_slice HO125.out; subst eo24) | (go_at_call 18; (with_reducible refine (weighhouselaw03_Ints.calls k _ _ t113 _ _ y123 t126 _ ?side1 ?side2 ?side3 ?side4 A8.out).mono ?_); (case side1 => repeat (first | exact (Kd.R_reads' HO116.out).2.2 | (with_reducible refine Kd.C_alloc ?_ _) | (with_reducible refine Kd.C_drewN ?_ _) | (with_reducible refine Kd.C_drew ?_))); (case side2 => exact (Kd.R_reads' HO116.out).2.1); (case side3 => repeat (first | exact (Kd.R_reads' HO125.out).2.2 | (with_reducible refine Kd.C_alloc ?_ _) | (with_reducible refine Kd.C_drewN ?_ _) | (with_reducible refine Kd.C_drew ?_))); (case side4 => exact (Kd.R_reads' HO125.out).2.1); rintro e w' ⟨rfl, ⟨nd, rfl⟩⟩))
      go_ret
      exact ⟨by first | rfl | (simp [errW_none, errW_some] <;> rfl) | (simp [*, errW_none, errW_some] <;> rfl), by repeat (first | (with_reducible first | exact HB.out | apply below_alloc | apply pw_below_drewN | apply below_drew1) | exact HB.out)⟩
    · replace c7 := Bool.eq_false_iff.mpr c7
      subst c7
      have H1 : (some false) = some r := by rw [if_neg (show ¬ (false = true) by decide)] at H; exact H
      clear H
      have H := H1
      clear H1
      obtain rfl := Option.some.inj H
      go_enter Try.func9, Try.ntmps9
      go_wp2_with (first | ((with_reducible refine gate_dst (N := 9) rfl ?_); (try (refine gate_guard (by rfl) ?_; dsimp only)); refine Kd.R_lit k31 _ 31 ?hg (N := 9) ?hd (xs := ([(⟨48, 0⟩ : S31), (⟨49, 0⟩ : S31), (⟨50, 0⟩ : S31)] : List (S31))) (inner := [.int .i64 48, .int .i64 0, .int .i64 49, .int .i64 0, .int .i64 50, .int .i64 0]) (ok := fun _ => True) (okp := fun _ => True) ?hr ?hp (fun _ hk => hk) trivial (Below.refl _ _) (Nat.le_refl _) (by simp) ?_; (case hd => rfl); (case hg => rfl); (case hr => first | (go_simp; done) | (go_simp; rfl)); (case hp => exact (Reps.c2 (show Kd.M k31 _ _ _ (⟨48, 0⟩ : S31) [.int .i64 48, .int .i64 0] from (k31_mkM _ _ _ (⟨48, 0⟩ : S31) )) (Reps.c2 (show Kd.M k31 _ _ _ (⟨49, 0⟩ : S31) [.int .i64 49, .int .i64 0] from (k31_mkM _ _ _ (⟨49, 0⟩ : S31) )) (Reps.c2 (show Kd.M k31 _ _ _ (⟨50, 0⟩ : S31) [.int .i64 50, .int .i64 0] from (k31_mkM _ _ _ (⟨50, 0⟩ : S31) )) (Reps.none _ _))))); intro v104 w25 ho26 hb hg_ hnew_; clear hg_ hnew_; (first | rw [← Ny103.out] at ho26 | (simp only [Int.reduceToNat] at ho26; rw [← Ny103.out] at ho26)); have n0_ := Aside0.mk (Kd.R_lower ho26 (below_size (by repeat (first | (with_reducible first | exact HB.out | apply below_alloc | apply pw_below_drewN | apply below_drew1) | exact HB.out)))); have n1_ := Aside0.mk (below_step (by repeat (first | (with_reducible first | exact HB.out | apply below_alloc | apply pw_below_drewN | apply below_drew1) | exact HB.out)) hb); clear HB; have HO105 := n0_; have HB := n1_; clear n0_ n1_; clear hb ho26; obtain ⟨Ao27, co27, eo27⟩ := Kd.R_slice HO105.out; subst eo27) | ((with_reducible refine gate_callee (f := 10) rfl ?_); refine goesL_ (some 10) rfl rfl Try.func10 (by kernel_rfl) rfl #[.slice Ao27 y103.length co27] rfl (by (try simp only [List.map_toArray, List.map_cons, List.map_nil]); first | done | rfl | (simp only [List.length_drop, List.length_take]; rfl)) ?_; (with_reducible refine (shape_Match.calls _ _ y103 t106 t107 _ ?side1 ?side2 A1.out).mono ?_); (case side1 => repeat (first | exact (Kd.R_reads' HO105.out).2.2 | (with_reducible refine Kd.C_alloc ?_ _) | (with_reducible refine Kd.C_drewN ?_ _) | (with_reducible refine Kd.C_drew ?_))); (case side2 => exact (Kd.R_reads' HO105.out).2.1); rintro e w28 ⟨v108, rfl, ho0, hb⟩; refine ⟨_, rfl, ?_⟩; have n0_ := Aside0.mk (Kd.R_below (by (with_reducible repeat (first | apply Kd.R_alloc | apply Kd.R_drewN | apply Kd.R_drew)); exact HO105.out) hb); have n1_ := Aside0.mk (Kd.R_lower ho0 (below_size (by repeat (first | (with_reducible first | exact HB.out | apply below_alloc | apply pw_below_drewN | apply below_drew1) | exact HB.out)))); have n2_ := Aside0.mk (below_step (by repeat (first | (with_reducible first | exact HB.out | apply below_alloc | apply pw_below_drewN | apply below_drew1) | exact HB.out)) hb); clear HO105; clear HB; have HO105 := n0_; have HO109 := n1_; have HB := n2_; clear n0_ n1_ n2_; (try clear hb); (try clear hb2); (try clear hk); (try clear hi); (try clear ho0)) | ((with_reducible refine gate_dst (N := 17) rfl ?_); (try (refine gate_guard (by rfl) ?_; dsimp only)); refine Kd.R_lit k31 _ 31 ?hg (N := 17) ?hd (xs := ([(⟨51, 1⟩ : S31), (⟨52, 0⟩ : S31), (⟨50, 0⟩ : S31)] : List (S31))) (inner := [.int .i64 51, .int .i64 1, .int .i64 52, .int .i64 0, .int .i64 50, .int .i64 0]) (ok := fun _ => True) (okp := fun _ => True) ?hr ?hp (fun _ hk => hk) trivial (Below.refl _ _) (Nat.le_refl _) (by simp) ?_; (case hd => rfl); (case hg => rfl); (case hr => first | (go_simp; done) | (go_simp; rfl)); (case hp => exact (Reps.c2 (show Kd.M k31 _ _ _ (⟨51, 1⟩ : S31) [.int .i64 51, .int .i64 1] from (k31_mkM _ _ _ (⟨51, 1⟩ : S31) )) (Reps.c2 (show Kd.M k31 _ _ _ (⟨52, 0⟩ : S31) [.int .i64 52, .int .i64 0] from (k31_mkM _ _ _ (⟨52, 0⟩ : S31) )) (Reps.c2 (show Kd.M k31 _ _ _ (⟨50, 0⟩ : S31) [.int .i64 50, .int .i64 0] from (k31_mkM _ _ _ (⟨50, 0⟩ : S31) )) (Reps.none _ _))))); intro v111 w29 ho30 hb hg_ hnew_; clear hg_ hnew_; (first | rw [← Ny110.out] at ho30 | (simp only [Int.reduceToNat] at ho30; rw [← Ny110.out] at ho30)); have n0_ := Aside0.mk (Kd.R_elder' (by (with_reducible repeat (first | apply Kd.R_alloc | apply Kd.R_drewN | apply Kd.R_drew)); exact HO105.out) (Kd.R_base ho30) hb); have n1_ := Aside0.mk (Kd.R_below (by (with_reducible repeat (first | apply Kd.R_alloc | apply Kd.R_drewN | apply Kd.R_drew)); exact HO109.out) hb); have n2_ := Aside0.mk (Kd.R_lower (Kd.R_new' ho30 (Kd.R_lt (by (with_reducible repeat (first | apply Kd.R_alloc | apply Kd.R_drewN | apply Kd.R_drew)); exact HO105.out))) (below_size (by repeat (first | (with_reducible first | exact HB.out | apply below_alloc | apply pw_below_drewN | apply below_drew1) | exact HB.out)))); have n3_ := Aside0.mk (below_step (by repeat (first | (with_reducible first | exact HB.out | apply below_alloc | apply pw_below_drewN | apply below_drew1) | exact HB.out)) hb); clear HO105; clear HO109; clear HB; have HO105 := n0_; have HO109 := n1_; have HO112 := n2_; have HB := n3_; clear n0_ n1_ n2_ n3_; clear hb ho30; obtain ⟨Ao31, co31, eo31⟩ := Kd.R_slice HO112.out; subst eo31) | ((with_reducible refine gate_callee (f := 10) rfl ?_); refine goesL_ (some 18) rfl rfl Try.func10 (by kernel_rfl) rfl #[.slice Ao31 y110.length co31] rfl (by (try simp only [List.map_toArray, List.map_cons, List.map_nil]); first | done | rfl | (simp only [List.length_drop, List.length_take]; rfl)) ?_; (with_reducible refine (shape_Match.calls _ _ y110 t113 t114 _ ?side1 ?side2 A2.out).mono ?_); (case side1 => repeat (first | exact (Kd.R_reads' HO112.out).2.2 | (with_reducible refine Kd.C_alloc ?_ _) | (with_reducible refine Kd.C_drewN ?_ _) | (with_reducible refine Kd.C_drew ?_))); (case side2 => exact (Kd.R_reads' HO112.out).2.1); rintro e w32 ⟨v115, rfl, ho0, hb⟩; refine ⟨_, rfl, ?_⟩; have n0_ := Aside0.mk (Kd.R_below (by (with_reducible repeat (first | apply Kd.R_alloc | apply Kd.R_drewN | apply Kd.R_drew)); exact HO105.out) hb); have n1_ := Aside0.mk (Kd.R_elder' (by (with_reducible repeat (first | apply Kd.R_alloc | apply Kd.R_drewN | apply Kd.R_drew)); exact HO109.out) (Kd.R_base ho0) hb); have n2_ := Aside0.mk (Kd.R_below (by (with_reducible repeat (first | apply Kd.R_alloc | apply Kd.R_drewN | apply Kd.R_drew)); exact HO112.out) hb); have n3_ := Aside0.mk (Kd.R_lower (Kd.R_new' ho0 (Kd.R_lt (by (with_reducible repeat (first | apply Kd.R_alloc | apply Kd.R_drewN | apply Kd.R_drew)); exact HO109.out))) (below_size (by repeat (first | (with_reducible first | exact HB.out | apply below_alloc | apply pw_below_drewN | apply below_drew1) | exact HB.out)))); have n4_ := Aside0.mk (below_step (by repeat (first | (with_reducible first | exact HB.out | apply below_alloc | apply pw_below_drewN | apply below_drew1) | exact HB.out)) hb); clear HO105; clear HO109; clear HO112; clear HB; have HO105 := n0_; have HO109 := n1_; have HO112 := n2_; have HO116 := n3_; have HB := n4_; clear n0_ n1_ n2_ n3_ n4_; (try clear hb); (try clear hb2); (try clear hk); (try clear hi); (try clear ho0)) | ((with_reducible refine gate_callee (f := 12) rfl ?_); refine goesL_ (some 22) rfl rfl Try.func12 (by kernel_rfl) rfl #[.int .i64 t107] rfl (by (try simp only [List.map_toArray, List.map_cons, List.map_nil]); first | done | rfl | (simp only [List.length_drop, List.length_take]; rfl)) ?_; (with_reducible refine (weighhouselaw06_num.calls t107 t117 _ A3.out).mono ?_); rintro e w' ⟨rfl, ⟨nd, rfl⟩⟩; refine ⟨_, rfl, ?_⟩) | ((with_reducible refine gate_callee (f := 12) rfl ?_); refine goesL_ (some 24) rfl rfl Try.func12 (by kernel_rfl) rfl #[.int .i64 t114] rfl (by (try simp only [List.map_toArray, List.map_cons, List.map_nil]); first | done | rfl | (simp only [List.length_drop, List.length_take]; rfl)) ?_; (with_reducible refine (weighhouselaw06_num.calls t114 t118 _ A4.out).mono ?_); rintro e w' ⟨rfl, ⟨nd, rfl⟩⟩; refine ⟨_, rfl, ?_⟩) | ((with_reducible refine gate_dst (N := 29) rfl ?_); (try (refine gate_guard (by rfl) ?_; dsimp only)); refine Kd.R_lit (Kd.int .i64) _ 3 ?hg (N := 29) ?hd (xs := ([1, 2, 0] : List Int)) (inner := [.int .i64 1, .int .i64 2, .int .i64 0]) (ok := fun _ => True) (okp := fun _ => True) ?hr ?hp (fun _ hk => hk) trivial (Below.refl _ _) (Nat.le_refl _) (by simp) ?_; (case hd => rfl); (case hg => rfl); (case hr => first | (go_simp; done) | (go_simp; rfl)); (case hp => exact (Reps.one (show Kd.M (Kd.int .i64) _ _ _ 1 [.int .i64 1] from rfl) (Reps.one (show Kd.M (Kd.int .i64) _ _ _ 2 [.int .i64 2] from rfl) (Reps.one (show Kd.M (Kd.int .i64) _ _ _ 0 [.int .i64 0] from rfl) (Reps.none _ _))))); intro v120 w33 ho34 hb hg_ hnew_; clear hg_ hnew_; (first | rw [← Ny119.out] at ho34 | (simp only [Int.reduceToNat] at ho34; rw [← Ny119.out] at ho34)); have n0_ := Aside0.mk (Kd.R_below (by (with_reducible repeat (first | apply Kd.R_alloc | apply Kd.R_drewN | apply Kd.R_drew)); exact HO105.out) hb); have n1_ := Aside0.mk (Kd.R_elder' (by (with_reducible repeat (first | apply Kd.R_alloc | apply Kd.R_drewN | apply Kd.R_drew)); exact HO109.out) (Kd.R_base ho34) hb); have n2_ := Aside0.mk (Kd.R_below (by (with_reducible repeat (first | apply Kd.R_alloc | apply Kd.R_drewN | apply Kd.R_drew)); exact HO112.out) hb); have n3_ := Aside0.mk (Kd.R_elder' (by (with_reducible repeat (first | apply Kd.R_alloc | apply Kd.R_drewN | apply Kd.R_drew)); exact HO116.out) (Kd.R_base ho34) hb); have n4_ := Aside0.mk (Kd.R_lower (Kd.R_new' (Kd.R_new' ho34 (Kd.R_lt (by (with_reducible repeat (first | apply Kd.R_alloc | apply Kd.R_drewN | apply Kd.R_drew)); exact HO109.out))) (Kd.R_lt (by (with_reducible repeat (first | apply Kd.R_alloc | apply Kd.R_drewN | apply Kd.R_drew)); exact HO116.out))) (below_size (by repeat (first | (with_reducible first | exact HB.out | apply below_alloc | apply pw_below_drewN | apply below_drew1) | exact HB.out)))); have n5_ := Aside0.mk (below_step (by repeat (first | (with_reducible first | exact HB.out | apply below_alloc | apply pw_below_drewN | apply below_drew1) | exact HB.out)) hb); clear HO105; clear HO109; clear HO112; clear HO116; clear HB; have HO105 := n0_; have HO109 := n1_; have HO112 := n2_; have HO116 := n3_; have HO121 := n4_; have HB := n5_; clear n0_ n1_ n2_ n3_ n4_ n5_; clear hb ho34; obtain ⟨Ao35, co35, eo35⟩ := Kd.R_slice HO109.out; subst eo35; obtain ⟨Ao36, co36, eo36⟩ := Kd.R_slice HO121.out; subst eo36) | (go_at_call 18; (with_reducible refine (weighhouselaw03_Ints.calls k _ _ t106 _ _ y119 false _ ?side1 ?side2 ?side3 ?side4 A6.out).mono ?_); (case side1 => repeat (first | exact (Kd.R_reads' HO109.out).2.2 | (with_reducible refine Kd.C_alloc ?_ _) | (with_reducible refine Kd.C_drewN ?_ _) | (with_reducible refine Kd.C_drew ?_))); (case side2 => exact (Kd.R_reads' HO109.out).2.1); (case side3 => repeat (first | exact (Kd.R_reads' HO121.out).2.2 | (with_reducible refine Kd.C_alloc ?_ _) | (with_reducible refine Kd.C_drewN ?_ _) | (with_reducible refine Kd.C_drew ?_))); (case side4 => exact (Kd.R_reads' HO121.out).2.1); rintro e w' ⟨rfl, ⟨nd, rfl⟩⟩))
      go_ret
      exact ⟨by first | rfl | (simp [errW_none, errW_some] <;> rfl) | (simp [*, errW_none, errW_some] <;> rfl), by repeat (first | (with_reducible first | exact HB.out | apply below_alloc | apply pw_below_drewN | apply below_drew1) | exact HB.out)⟩
  · rw [if_neg c5] at H
    have c5b0 : ((wrap64 (t117 + t118)) == 0) = false := beq_eq_false_iff_ne.mpr c5
    have c5b1 : ((wrap64 (t117 + t118)) != 0) = true := bne_iff_ne.mpr c5
    obtain rfl := Option.some.inj H
    go_enter Try.func9, Try.ntmps9
    go_wp2_with (first | ((with_reducible refine gate_dst (N := 9) rfl ?_); (try (refine gate_guard (by rfl) ?_; dsimp only)); refine Kd.R_lit k31 _ 31 ?hg (N := 9) ?hd (xs := ([(⟨48, 0⟩ : S31), (⟨49, 0⟩ : S31), (⟨50, 0⟩ : S31)] : List (S31))) (inner := [.int .i64 48, .int .i64 0, .int .i64 49, .int .i64 0, .int .i64 50, .int .i64 0]) (ok := fun _ => True) (okp := fun _ => True) ?hr ?hp (fun _ hk => hk) trivial (Below.refl _ _) (Nat.le_refl _) (by simp) ?_; (case hd => rfl); (case hg => rfl); (case hr => first | (go_simp; done) | (go_simp; rfl)); (case hp => exact (Reps.c2 (show Kd.M k31 _ _ _ (⟨48, 0⟩ : S31) [.int .i64 48, .int .i64 0] from (k31_mkM _ _ _ (⟨48, 0⟩ : S31) )) (Reps.c2 (show Kd.M k31 _ _ _ (⟨49, 0⟩ : S31) [.int .i64 49, .int .i64 0] from (k31_mkM _ _ _ (⟨49, 0⟩ : S31) )) (Reps.c2 (show Kd.M k31 _ _ _ (⟨50, 0⟩ : S31) [.int .i64 50, .int .i64 0] from (k31_mkM _ _ _ (⟨50, 0⟩ : S31) )) (Reps.none _ _))))); intro v104 w37 ho38 hb hg_ hnew_; clear hg_ hnew_; (first | rw [← Ny103.out] at ho38 | (simp only [Int.reduceToNat] at ho38; rw [← Ny103.out] at ho38)); have n0_ := Aside0.mk (Kd.R_lower ho38 (below_size (by repeat (first | (with_reducible first | exact HB.out | apply below_alloc | apply pw_below_drewN | apply below_drew1) | exact HB.out)))); have n1_ := Aside0.mk (below_step (by repeat (first | (with_reducible first | exact HB.out | apply below_alloc | apply pw_below_drewN | apply below_drew1) | exact HB.out)) hb); clear HB; have HO105 := n0_; have HB := n1_; clear n0_ n1_; clear hb ho38; obtain ⟨Ao39, co39, eo39⟩ := Kd.R_slice HO105.out; subst eo39) | ((with_reducible refine gate_callee (f := 10) rfl ?_); refine goesL_ (some 10) rfl rfl Try.func10 (by kernel_rfl) rfl #[.slice Ao39 y103.length co39] rfl (by (try simp only [List.map_toArray, List.map_cons, List.map_nil]); first | done | rfl | (simp only [List.length_drop, List.length_take]; rfl)) ?_; (with_reducible refine (shape_Match.calls _ _ y103 t106 t107 _ ?side1 ?side2 A1.out).mono ?_); (case side1 => repeat (first | exact (Kd.R_reads' HO105.out).2.2 | (with_reducible refine Kd.C_alloc ?_ _) | (with_reducible refine Kd.C_drewN ?_ _) | (with_reducible refine Kd.C_drew ?_))); (case side2 => exact (Kd.R_reads' HO105.out).2.1); rintro e w40 ⟨v108, rfl, ho0, hb⟩; refine ⟨_, rfl, ?_⟩; have n0_ := Aside0.mk (Kd.R_below (by (with_reducible repeat (first | apply Kd.R_alloc | apply Kd.R_drewN | apply Kd.R_drew)); exact HO105.out) hb); have n1_ := Aside0.mk (Kd.R_lower ho0 (below_size (by repeat (first | (with_reducible first | exact HB.out | apply below_alloc | apply pw_below_drewN | apply below_drew1) | exact HB.out)))); have n2_ := Aside0.mk (below_step (by repeat (first | (with_reducible first | exact HB.out | apply below_alloc | apply pw_below_drewN | apply below_drew1) | exact HB.out)) hb); clear HO105; clear HB; have HO105 := n0_; have HO109 := n1_; have HB := n2_; clear n0_ n1_ n2_; (try clear hb); (try clear hb2); (try clear hk); (try clear hi); (try clear ho0)) | ((with_reducible refine gate_dst (N := 17) rfl ?_); (try (refine gate_guard (by rfl) ?_; dsimp only)); refine Kd.R_lit k31 _ 31 ?hg (N := 17) ?hd (xs := ([(⟨51, 1⟩ : S31), (⟨52, 0⟩ : S31), (⟨50, 0⟩ : S31)] : List (S31))) (inner := [.int .i64 51, .int .i64 1, .int .i64 52, .int .i64 0, .int .i64 50, .int .i64 0]) (ok := fun _ => True) (okp := fun _ => True) ?hr ?hp (fun _ hk => hk) trivial (Below.refl _ _) (Nat.le_refl _) (by simp) ?_; (case hd => rfl); (case hg => rfl); (case hr => first | (go_simp; done) | (go_simp; rfl)); (case hp => exact (Reps.c2 (show Kd.M k31 _ _ _ (⟨51, 1⟩ : S31) [.int .i64 51, .int .i64 1] from (k31_mkM _ _ _ (⟨51, 1⟩ : S31) )) (Reps.c2 (show Kd.M k31 _ _ _ (⟨52, 0⟩ : S31) [.int .i64 52, .int .i64 0] from (k31_mkM _ _ _ (⟨52, 0⟩ : S31) )) (Reps.c2 (show Kd.M k31 _ _ _ (⟨50, 0⟩ : S31) [.int .i64 50, .int .i64 0] from (k31_mkM _ _ _ (⟨50, 0⟩ : S31) )) (Reps.none _ _))))); intro v111 w41 ho42 hb hg_ hnew_; clear hg_ hnew_; (first | rw [← Ny110.out] at ho42 | (simp only [Int.reduceToNat] at ho42; rw [← Ny110.out] at ho42)); have n0_ := Aside0.mk (Kd.R_elder' (by (with_reducible repeat (first | apply Kd.R_alloc | apply Kd.R_drewN | apply Kd.R_drew)); exact HO105.out) (Kd.R_base ho42) hb); have n1_ := Aside0.mk (Kd.R_below (by (with_reducible repeat (first | apply Kd.R_alloc | apply Kd.R_drewN | apply Kd.R_drew)); exact HO109.out) hb); have n2_ := Aside0.mk (Kd.R_lower (Kd.R_new' ho42 (Kd.R_lt (by (with_reducible repeat (first | apply Kd.R_alloc | apply Kd.R_drewN | apply Kd.R_drew)); exact HO105.out))) (below_size (by repeat (first | (with_reducible first | exact HB.out | apply below_alloc | apply pw_below_drewN | apply below_drew1) | exact HB.out)))); have n3_ := Aside0.mk (below_step (by repeat (first | (with_reducible first | exact HB.out | apply below_alloc | apply pw_below_drewN | apply below_drew1) | exact HB.out)) hb); clear HO105; clear HO109; clear HB; have HO105 := n0_; have HO109 := n1_; have HO112 := n2_; have HB := n3_; clear n0_ n1_ n2_ n3_; clear hb ho42; obtain ⟨Ao43, co43, eo43⟩ := Kd.R_slice HO112.out; subst eo43) | ((with_reducible refine gate_callee (f := 10) rfl ?_); refine goesL_ (some 18) rfl rfl Try.func10 (by kernel_rfl) rfl #[.slice Ao43 y110.length co43] rfl (by (try simp only [List.map_toArray, List.map_cons, List.map_nil]); first | done | rfl | (simp only [List.length_drop, List.length_take]; rfl)) ?_; (with_reducible refine (shape_Match.calls _ _ y110 t113 t114 _ ?side1 ?side2 A2.out).mono ?_); (case side1 => repeat (first | exact (Kd.R_reads' HO112.out).2.2 | (with_reducible refine Kd.C_alloc ?_ _) | (with_reducible refine Kd.C_drewN ?_ _) | (with_reducible refine Kd.C_drew ?_))); (case side2 => exact (Kd.R_reads' HO112.out).2.1); rintro e w44 ⟨v115, rfl, ho0, hb⟩; refine ⟨_, rfl, ?_⟩; have n0_ := Aside0.mk (Kd.R_below (by (with_reducible repeat (first | apply Kd.R_alloc | apply Kd.R_drewN | apply Kd.R_drew)); exact HO105.out) hb); have n1_ := Aside0.mk (Kd.R_elder' (by (with_reducible repeat (first | apply Kd.R_alloc | apply Kd.R_drewN | apply Kd.R_drew)); exact HO109.out) (Kd.R_base ho0) hb); have n2_ := Aside0.mk (Kd.R_below (by (with_reducible repeat (first | apply Kd.R_alloc | apply Kd.R_drewN | apply Kd.R_drew)); exact HO112.out) hb); have n3_ := Aside0.mk (Kd.R_lower (Kd.R_new' ho0 (Kd.R_lt (by (with_reducible repeat (first | apply Kd.R_alloc | apply Kd.R_drewN | apply Kd.R_drew)); exact HO109.out))) (below_size (by repeat (first | (with_reducible first | exact HB.out | apply below_alloc | apply pw_below_drewN | apply below_drew1) | exact HB.out)))); have n4_ := Aside0.mk (below_step (by repeat (first | (with_reducible first | exact HB.out | apply below_alloc | apply pw_below_drewN | apply below_drew1) | exact HB.out)) hb); clear HO105; clear HO109; clear HO112; clear HB; have HO105 := n0_; have HO109 := n1_; have HO112 := n2_; have HO116 := n3_; have HB := n4_; clear n0_ n1_ n2_ n3_ n4_; (try clear hb); (try clear hb2); (try clear hk); (try clear hi); (try clear ho0)) | ((with_reducible refine gate_callee (f := 12) rfl ?_); refine goesL_ (some 22) rfl rfl Try.func12 (by kernel_rfl) rfl #[.int .i64 t107] rfl (by (try simp only [List.map_toArray, List.map_cons, List.map_nil]); first | done | rfl | (simp only [List.length_drop, List.length_take]; rfl)) ?_; (with_reducible refine (weighhouselaw06_num.calls t107 t117 _ A3.out).mono ?_); rintro e w' ⟨rfl, ⟨nd, rfl⟩⟩; refine ⟨_, rfl, ?_⟩) | ((with_reducible refine gate_callee (f := 12) rfl ?_); refine goesL_ (some 24) rfl rfl Try.func12 (by kernel_rfl) rfl #[.int .i64 t114] rfl (by (try simp only [List.map_toArray, List.map_cons, List.map_nil]); first | done | rfl | (simp only [List.length_drop, List.length_take]; rfl)) ?_; (with_reducible refine (weighhouselaw06_num.calls t114 t118 _ A4.out).mono ?_); rintro e w' ⟨rfl, ⟨nd, rfl⟩⟩; refine ⟨_, rfl, ?_⟩))
    go_ret
    exact ⟨by first | rfl | (simp [errW_none, errW_some] <;> rfl) | (simp [*, errW_none, errW_some] <;> rfl), by repeat (first | (with_reducible first | exact HB.out | apply below_alloc | apply pw_below_drewN | apply below_drew1) | exact HB.out)⟩

end Go.Proofs.Ytbdmbkmokhaflaa.Q
end

section
-- written by hprint.py (a program of these sessions) out of the translation; Lean checks it
namespace Go.Proofs.Ytbdmbkmokhaflaa.Q
open Go.RowKit Go.Proofs.YtbdmbkmokhaflaaW.Hb Go.Proofs.YtbdmbkmokhaflaaW.PrintWords Go.Proofs.YtbdmbkmokhaflaaW.PrintLast Go.Proofs.YtbdmbkmokhaflaaW.PrintMore
attribute [local go_sem] max2_int min2_int max_two min_two max_three min_three max_four min_four   -- for this text's walks alone
set_option linter.unusedVariables false
set_option linter.unusedSimpArgs false

/-! ### weighhouselaw06_Own: function 11 -/
def weighhouselaw06_Own.f (l0 : List (S31)) : Option ((List (S31))) := (some (([] : List (S31)) : List (S31))).bind fun y127 => (if y127.length + l0.length < 8796093022208 then (some (y127 ++ l0)) else (none))
set_option maxHeartbeats 8000000 in
set_option maxRecDepth 100000 in
theorem weighhouselaw06_Own.calls (A0 : Option Addr) (c0 : Nat) (l0 : List (S31)) (r : List (S31)) (w : World) (hr0 : Kd.C k31 w A0 l0.length l0) (hc0 : l0.length ≤ c0) (h : weighhouselaw06_Own.f l0 = some r) :
    Calls Try.prog 11 #[.slice A0 l0.length c0] w fun e w' => ∃ v0_ : Value, e = .returned (v0_) ∧ Kd.R k31 31 w' w.heap.size (fun _ => True) v0_ r ∧ Below w.heap.size w w' := by
  have HR0 := Aside0.mk hr0
  have HC0 := Aside0.mk hc0
  clear hr0 hc0
  have HB := Aside0.mk (Below.refl w.heap.size w)
  have H : ((some (([] : List (S31)) : List (S31))).bind fun y127 => (if y127.length + l0.length < 8796093022208 then (some (y127 ++ l0)) else (none))) = some r := h
  clear h
  obtain ⟨y127, hy127⟩ : ∃ y_ : List (S31), y_ = (([] : List (S31))) := ⟨_, rfl⟩
  replace H : (if y127.length + l0.length < 8796093022208 then (some (y127 ++ l0)) else (none)) = some r := by first | (rw [hy127]; with_reducible exact H) | (have H2_ := (Option.bind_some _ _).symm.trans H; rw [hy127]; with_reducible exact H2_) | (have H2_ := (Option.bind_some _ _).symm.trans H; with_reducible exact H2_) | with_reducible exact H | (rw [hy127]; exact H) | exact H
  have Ny127 := Aside0.mk hy127
  clear hy127
  by_cases c2 : y127.length + l0.length < 8796093022208
  · rw [if_pos c2] at H
    have LMc2 := Aside0.mk c2
    clear c2
    obtain ⟨y130, hy130⟩ : ∃ y_ : List (S31), y_ = (y127 ++ l0) := ⟨_, rfl⟩
    replace H : (some y130) = some r := by first | (rw [hy130]; with_reducible exact H) | (have H2_ := (Option.bind_some _ _).symm.trans H; rw [hy130]; with_reducible exact H2_) | (have H2_ := (Option.bind_some _ _).symm.trans H; with_reducible exact H2_) | with_reducible exact H | (rw [hy130]; exact H) | exact H
    have Ny130 := Aside0.mk hy130
    clear hy130
    obtain rfl := Option.some.inj H
    go_enter Try.func11, Try.ntmps11
    go_wp2_with (first | ((with_reducible refine gate_dst (N := 3) rfl ?_); refine Kd.R_lit k31 _ 31 ?hg (N := 3) ?hd (xs := ([] : List (S31))) (inner := []) (ok := fun _ => True) (okp := fun _ => True) ?hr ?hp (fun _ hk => hk) trivial (Below.refl _ _) (Nat.le_refl _) (by simp) ?_; (case hd => rfl); (case hg => rfl); (case hr => first | (go_simp; done) | (go_simp; rfl)); (case hp => exact (Reps.none _ _)); intro v128 w3 ho4 hb hg_ hnew_; clear hg_ hnew_; (first | rw [← Ny127.out] at ho4 | (simp only [Int.reduceToNat] at ho4; rw [← Ny127.out] at ho4)); have n0_ := Aside0.mk (Kd.R_lower ho4 (below_size (by repeat (first | (with_reducible first | exact HB.out | apply below_alloc | apply pw_below_drewN | apply below_drew1) | exact HB.out)))); have n1_ := Aside0.mk (below_step (by repeat (first | (with_reducible first | exact HB.out | apply below_alloc | apply pw_below_drewN | apply below_drew1) | exact HB.out)) hb); clear HB; have HO129 := n0_; have HB := n1_; clear n0_ n1_; clear hb ho4) | ((with_reducible refine gate_builtin (b := .append) (xs := #[.tmp 3, .tmp 4]) rfl ?_); at_builtin; refine Kd.R_append_rows k31 (w0 := w) w.heap.size rfl (.tmp 3) (.tmp 4) 22 31 (.agg #[(.int .i64 0), (.int .i64 0)]) 16 rfl Try.underlying22 info31 rfl (by decide) (by omega) v128 y127 l0 _ _ _ (fun _ => True) (fun _ => False) rfl rfl ?aO ?aR (fun _ _ h => h) (fun _ h => h.elim) ?aF ?aB ?aS ?aL ?_; (case aR => repeat (first | exact (Kd.C_below HR0.out HB.out) | (with_reducible refine Kd.C_alloc ?_ _) | (with_reducible refine Kd.C_drewN ?_ _) | (with_reducible refine Kd.C_drew ?_))); (case aB => exact (by repeat (first | (with_reducible first | exact HB.out | apply below_alloc | apply pw_below_drewN | apply below_drew1) | exact HB.out))); (case aF => exact (fun _ _ => trivial)); (case aO => exact (by (with_reducible repeat (first | apply Kd.R_alloc | apply Kd.R_drewN | apply Kd.R_drew)); exact HO129.out)); (case aS => exact (below_size (by repeat (first | (with_reducible first | exact HB.out | apply below_alloc | apply pw_below_drewN | apply below_drew1) | exact HB.out)))); (case aL => have := LMc2.out; omega); intro v131 w5 ho hb hg hat; rw [← Ny130.out] at ho; have n0_ := Aside0.mk (hb); have n1_ := Aside0.mk (ho); clear HB; clear HO129; have HB := n0_; have HO132 := n1_; clear n0_ n1_; clear ho hb hg hat))
    go_ret
    exact ⟨_, by first | rfl | (simp [errW_none, errW_some] <;> rfl) | (simp [*, errW_none, errW_some] <;> rfl), by (with_reducible repeat (first | apply Kd.R_alloc | apply Kd.R_drewN | apply Kd.R_drew)); exact HO132.out, by repeat (first | (with_reducible first | exact HB.out | apply below_alloc | apply pw_below_drewN | apply below_drew1) | exact HB.out)⟩
  · rw [if_neg c2] at H
    exact absurd H (by simp)

end Go.Proofs.Ytbdmbkmokhaflaa.Q
end

section
-- written by hprint.py (a program of these sessions) out of the translation; Lean checks it
namespace Go.Proofs.Ytbdmbkmokhaflaa.Q
open Go.RowKit Go.Proofs.YtbdmbkmokhaflaaW.Hb Go.Proofs.YtbdmbkmokhaflaaW.PrintWords Go.Proofs.YtbdmbkmokhaflaaW.PrintLast Go.Proofs.YtbdmbkmokhaflaaW.PrintMore
attribute [local go_sem] max2_int min2_int max_two min_two max_three min_three max_four min_four   -- for this text's walks alone
set_option linter.unusedVariables false
set_option linter.unusedSimpArgs false

/-! ### shape_Depth_lit1_25: function 25, by hand -/
def opens (o : Int) : Bool := decide (o = 48) || decide (o = 51)
def deeper (m : Int) (n : Nat) (o : Int) : Int := max m ((n : Int) + if opens o then 1 else 0)
set_option maxRecDepth 100000 in
set_option maxHeartbeats 1000000 in
theorem shape_Depth_lit1_25.calls (w : World) (bc bm i n co cc : Nat) (A Ao : Option Addr) (cs : List Ins) (m : Int) (h0 : w.cell? ⟨bc, 0, none⟩ = some (.slice A cs.length cc)) (hr : Kd.C k31 w A cs.length cs) (hb : Blk w bm 3 #[.int .i64 m]) (hi : i < cs.length) (hn : n ≤ 1048576) :
    Calls Try.prog 25 #[.int .i64 i, .slice Ao n co, .pointer (some ⟨bc, 0, none⟩), .pointer (some ⟨bm, 0, none⟩)] w fun e w' => e = .returned (.tuple #[]) ∧ Blk w' bm 3 #[.int .i64 (deeper m n cs[i].f0)] ∧ Chg w w' (fun k => k = bm) := by
  obtain ⟨ad, e, hc, _⟩ := at_Ins hr i hi
  cases e
  have hm : cs.length ≤ 9223372036854775807 := hr.2.1
  obtain ⟨v, hv⟩ : ∃ v, cs[i].f0 = v := ⟨_, rfl⟩
  rw [hv] at hc ⊢
  have q1 : (i : Int) < (cs.length : Int) := by omega
  have hbm : w.cell? ⟨bm, 0, none⟩ = some (.int .i64 m) := hb.cell 0
  have hfm : w.frozen? ⟨bm, 0, none⟩ = false := hb.frozen 0
  have HB := Aside0.mk hb
  have hw : wrap64 ((n : Int) + 1) = (n : Int) + 1 := by unfold wrap64; omega
  clear hr hb
  have fin : ∀ (x : Int), deeper m n v = max m x → ∀ (w1 : World) (y : Int), w1 = w.setCell ⟨bm, 0, none⟩ (.int .i64 y) → y = max m x → Blk w1 bm 3 #[.int .i64 (deeper m n v)] ∧ Chg w w1 (fun k => k = bm) := by
    intro x hx w1 y hw1 hy
    subst hw1 hy
    rw [hx]
    exact ⟨by simpa using HB.out.set_ 0 (.int .i64 (max m x)), Chg.set_ w ⟨bm, 0, none⟩ _⟩
  by_cases h48 : v = 48
  · subst h48
    have HX := Aside0.mk (fin ((n : Int) + 1) (by simp [deeper, opens]))
    clear fin
    go_enter Try.func25, Try.ntmps25
    go_wp2
    all_goals refine bodyPost_end (results_none rfl _ _ _) rfl ?_
    all_goals exact ⟨rfl, HX.out _ _ rfl (by omega)⟩
  · by_cases h51 : v = 51
    · subst h51
      have HX := Aside0.mk (fin ((n : Int) + 1) (by simp [deeper, opens]))
      clear fin
      go_enter Try.func25, Try.ntmps25
      go_wp2
      all_goals refine bodyPost_end (results_none rfl _ _ _) rfl ?_
      all_goals exact ⟨rfl, HX.out _ _ rfl (by omega)⟩
    · have d1 : (v == 48) = false := by simp [h48]
      have d2 : (v == 51) = false := by simp [h51]
      have HX := Aside0.mk (fin (n : Int) (by simp [deeper, opens, h48, h51]))
      clear fin h48 h51
      go_enter Try.func25, Try.ntmps25
      go_wp2
      all_goals refine bodyPost_end (results_none rfl _ _ _) rfl ?_
      all_goals exact ⟨rfl, HX.out _ _ rfl (by omega)⟩


end Go.Proofs.Ytbdmbkmokhaflaa.Q
end

section
-- written by hprint.py (a program of these sessions) out of the translation; Lean checks it
namespace Go.Proofs.Ytbdmbkmokhaflaa.Q
open Go.RowKit Go.Proofs.YtbdmbkmokhaflaaW.Hb Go.Proofs.YtbdmbkmokhaflaaW.PrintWords Go.Proofs.YtbdmbkmokhaflaaW.PrintLast Go.Proofs.YtbdmbkmokhaflaaW.PrintMore
attribute [local go_sem] max2_int min2_int max_two min_two max_three min_three max_four min_four   -- for this text's walks alone
set_option linter.unusedVariables false
set_option linter.unusedSimpArgs false

/-! ### shape_Depth: function 16, by hand -/
def openAt (cs : List Ins) (i : Nat) : Nat := ((scanTo cs i).map (fun s => s.2.length)).getD 0
def depthTo (cs : List Ins) : Nat → Int
  | 0 => 0
  | i + 1 => deeper (depthTo cs i) (openAt cs i) (opAt cs i)
def shape_Depth.f (l0 : List Ins) : Option (Int × Int) := if l0.length ≤ 1048576 then some (match scanAll l0 with | none => (0, 31) | some _ => (depthTo l0 l0.length, 0)) else none
theorem cf_depth (args : Array Value) (W : World) : (callFunc 25 args).run Try.prog W = .ok (.enter 25 args) W := by go_simp
theorem sees_depth (cs : List Ins) (w : World) (bc bm cc : Nat) (A : Option Addr) (h0 : w.cell? ⟨bc, 0, none⟩ = some (.slice A cs.length cc)) (hr : Kd.C k31 w A cs.length cs) (hbc : bc ≠ bm) (hA : 0 < cs.length → ∀ ad, A = some ad → ad.block ≠ bm) : Sees cs w (fun k => k = bm) 25 #[.pointer (some ⟨bc, 0, none⟩), .pointer (some ⟨bm, 0, none⟩)] (fun i W T => T = (fun k => k = bm) ∧ Blk W bm 3 #[.int .i64 (depthTo cs i)]) := by
  refine ⟨fun i W W' T S hi hc hS => ⟨hi.1, blk_kept hi.2 hc.2 (fun hs => (hS bm hs).1 (by rw [hi.1]))⟩, fun i W T Ao c ps ats hi hI hc _ _ hats hlen h8 _ => ?_⟩
  obtain ⟨rfl, hb⟩ := hI
  have hrW : Kd.C k31 W A cs.length cs := Kd.C_foot_neS (fun h => h) hr (fun ad e hn => hA hn ad e) W hc.2
  refine (shape_Depth_lit1_25.calls W bc bm i ps.length c cc A Ao cs (depthTo cs i) (cellS h0 hc.2 hbc) hrW hb hi (by omega)).mono ?_
  rintro e W' ⟨rfl, hb', hc'⟩
  have ho : openAt cs i = ps.length := by
    unfold openAt
    cases hs : scanTo cs i with
    | none => rw [hs] at hats; cases hats
    | some s =>
      rw [hs] at hats
      have : s.2.map Fr.a = ats := Option.some.inj hats
      rw [← hlen, ← this]
      simp
  refine ⟨rfl, hc', fun k => k = bm, ⟨rfl, ?_⟩, fun k hk => ⟨.inl hk, hk ▸ hb'.lt⟩⟩
  show Blk W' bm 3 #[.int .i64 (deeper (depthTo cs i) (openAt cs i) (opAt cs i))]
  rw [ho, opAt_lt hi]
  exact hb'
set_option maxRecDepth 100000 in
set_option maxHeartbeats 4000000 in
theorem shape_Depth.calls (A0 : Option Addr) (c0 : Nat) (l0 : List (S31)) (r1 : Int) (r2 : Int) (w : World) (hr0 : Kd.C k31 w A0 l0.length l0) (hc0 : l0.length ≤ c0) (h : shape_Depth.f l0 = some (r1, r2)) :
    Calls Try.prog 16 #[.slice A0 l0.length c0] w fun e w' => e = .returned (.tuple #[.int .i64 r1, .int .i64 r2]) ∧ Below w.heap.size w w' := by
  unfold shape_Depth.f at h
  split at h
  · rename_i hl
    have hB1 : Below w.heap.size w ((w.alloc (.cells #[.slice A0 l0.length c0] 22)).alloc (.cells #[.int .i64 0] 3)) := ((Below.refl _ w).alloc (Nat.le_refl _) _).alloc (by rw [World.size_alloc]; omega) _
    have b0 := (Blk.new w 22 #[.slice A0 l0.length c0]).alloc (.cells #[.int .i64 0] 3)
    have b1 := Blk.new (w.alloc (.cells #[.slice A0 l0.length c0] 22)) 3 #[.int .i64 0]
    rw [World.size_alloc] at b1
    have hrC := Kd.C_below hr0 hB1
    have hA1 : 0 < l0.length → ∀ ad, A0 = some ad → ad.block ≠ w.heap.size + 1 := fun hn ad e => by
      subst e
      have := Kd.C_lt hr0 hn (by decide)
      omega
    have HS := Aside0.mk (shape_scan.calls _ A0 c0 25 l0 (fun k => k = w.heap.size + 1) #[.pointer (some ⟨w.heap.size, 0, none⟩), .pointer (some ⟨w.heap.size + 1, 0, none⟩)] (fun i W T => T = (fun k => k = w.heap.size + 1) ∧ Blk W (w.heap.size + 1) 3 #[.int .i64 (depthTo l0 i)]) hrC (fun k hk => by rw [World.size_alloc, World.size_alloc]; omega) hA1 ⟨rfl, b1⟩ (sees_depth l0 _ w.heap.size (w.heap.size + 1) c0 A0 (b0.cell 0) hrC (by omega) hA1) cf_depth hl)
    have q0 : ((w.alloc (.cells #[.slice A0 l0.length c0] 22)).alloc (.cells #[.int .i64 0] 3)).cell? ⟨w.heap.size, 0, none⟩ = some (.slice A0 l0.length c0) := b0.cell 0
    have HB1 := Aside0.mk hB1
    have HBE := Aside0.mk (fun (w' : World) (hc : Chg ((w.alloc (.cells #[.slice A0 l0.length c0] 22)).alloc (.cells #[.int .i64 0] 3)) w' (fun k => k = w.heap.size + 1)) => hB1.trans (hc.below (B := w.heap.size) (by rw [World.size_alloc, World.size_alloc]; omega) (fun k hk => by omega)))
    clear hr0 hl hB1 b0 b1 hrC hA1
    cases hs : scanAll l0 with
    | none =>
      rw [hs] at h
      obtain ⟨rfl, rfl⟩ := Prod.mk.inj (Option.some.inj h)
      have HX := Aside0.mk hs
      clear h hs
      go_enter Try.func16, Try.ntmps16
      go_wp2_with (go_at_call 21; (with_reducible refine HS.out.mono ?_); rintro e w' ⟨hc, hm⟩; rw [HX.out] at hm; obtain rfl := hm; have HC := Aside0.mk hc; clear hc)
      go_ret2
      exact ⟨rfl, HBE.out w' HC.out⟩
    | some m =>
      rw [hs] at h
      obtain ⟨rfl, rfl⟩ := Prod.mk.inj (Option.some.inj h)
      have HX := Aside0.mk hs
      clear h hs
      go_enter Try.func16, Try.ntmps16
      go_wp2_with (go_at_call 21; (with_reducible refine HS.out.mono ?_); rintro e w' ⟨hc, hm⟩; rw [HX.out] at hm; obtain ⟨v, T, rfl, hR, ⟨_, hb⟩, _⟩ := hm; have hq : w'.cell? ⟨w.heap.size + 1, 0, none⟩ = some (.int .i64 (depthTo l0 l0.length)) := hb.cell 0; have HC := Aside0.mk hc; clear hc hR hb)
      go_ret2
      exact ⟨rfl, HBE.out w' HC.out⟩
  · cases h


end Go.Proofs.Ytbdmbkmokhaflaa.Q
end

section
-- written by hprint.py (a program of these sessions) out of the translation; Lean checks it
namespace Go.Proofs.Ytbdmbkmokhaflaa.Q
open Go.RowKit Go.Proofs.YtbdmbkmokhaflaaW.Hb Go.Proofs.YtbdmbkmokhaflaaW.PrintWords Go.Proofs.YtbdmbkmokhaflaaW.PrintLast Go.Proofs.YtbdmbkmokhaflaaW.PrintMore
attribute [local go_sem] max2_int min2_int max_two min_two max_three min_three max_four min_four   -- for this text's walks alone
set_option linter.unusedVariables false
set_option linter.unusedSimpArgs false

/-! ### shape_Around_lit1_26: function 26, by hand -/
/-- A store and what it leaves. -/
theorem own_setCell {w : World} {g : Nat} {t : TypeId} {v v' : Value} {base e : Nat} {ok : Nat → Prop} {xs : List Int} (hb : Blk w g t #[v]) (hr : (Kd.int .i64).R e w base ok v' xs) (hg : ¬ ok g) : Blk (w.setCell ⟨g, 0, none⟩ v') g t #[v'] ∧ (Kd.int .i64).R e (w.setCell ⟨g, 0, none⟩ v') base ok v' xs :=
  ⟨by simpa using hb.set_ 0 v', Kd.R_far hr (p := ⟨g, 0, none⟩) (fun k hk he => hg (by have he : k = g := he; rw [← he]; exact hk)) _⟩
set_option maxRecDepth 100000 in
set_option maxHeartbeats 2000000 in
theorem shape_Around_lit1_26.calls (w : World) (i at_ : Int) (Ao : Option Addr) (co : Nat) (ps : List Nat) (ats : List Int) (bat bout base : Nat) (vo : Value) (out : List Int) (ok : Nat → Prop) (hat : w.cell? ⟨bat, 0, none⟩ = some (.int .i64 at_)) (hbat : ¬ ok bat ∧ bat ≠ bout) (hps : kP.C w Ao ps.length ps) (hpo : ∀ ad, Ao = some ad → ¬ ok ad.block ∧ ad.block ≠ bout) (hlen : ats.length = ps.length) (hcl : ∀ j (hj : j < ps.length) (hj2 : j < ats.length), w.cell? ⟨ps[j], 0, none⟩ = some (.int .i64 ats[j]) ∧ ¬ ok ps[j] ∧ ps[j] ≠ bout) (hb : Blk w bout 24 #[vo]) (hr : (Kd.int .i64).R 3 w base ok vo out) (hg : ¬ ok bout) (hbase : base ≤ w.heap.size) (hl : out.length + ps.length ≤ 1048576) :
    Calls Try.prog 26 #[.int .i64 i, .slice Ao ps.length co, .pointer (some ⟨bat, 0, none⟩), .pointer (some ⟨bout, 0, none⟩)] w fun e w' => e = .returned (.tuple #[]) ∧ ∃ v', Blk w' bout 24 #[v'] ∧ (Kd.int .i64).R 3 w' base (fun k => ok k ∨ w.heap.size ≤ k) v' (if i = at_ then out ++ ats else out) ∧ Chg w w' (fun k => k = bout ∨ ok k) := by
  have HAT := Aside0.mk hat
  have HPS := Aside0.mk hps
  have HPO := Aside0.mk hpo
  have HCL := Aside0.mk hcl
  have HB := Aside0.mk hb
  have HR := Aside0.mk (Kd.R_mono (ok' := fun k => ok k ∨ w.heap.size ≤ k) hr (fun k hk => .inl hk))
  have HRO := Aside0.mk hr
  have HG := Aside0.mk hg
  have HBAT := Aside0.mk hbat
  have hgl := hb.lt
  have hm : ps.length ≤ 9223372036854775807 := hps.2.1
  clear hat hps hpo hcl hb hr hg hbat
  by_cases hi : i = at_
  rotate_left
  · have HE := Aside0.mk (show (if i = at_ then out ++ ats else out) = out from if_neg hi)
    have hd : (i == at_) = false := by simp [hi]
    rw [HE.out]
    clear hi HE
    go_enter Try.func26, Try.ntmps26
    go_wp2
    go_loopw [10] (fun k wr => ∃ j : Nat, j ≤ ps.length ∧ k = .int .i64 j ∧ wr = w) (fun k _ => ps.length - (intOf k).toNat)
    case atStart => exact ⟨0, Nat.zero_le _, rfl, rfl⟩
    case round =>
      obtain ⟨j, hj, rfl, rfl⟩ := hrel
      by_cases hlt : j < ps.length
      · obtain ⟨ad, e, hcell⟩ := at_P HPS.out j hlt
        cases e
        have hcell2 : wr.cell? (ad.add j) = some (.pointer (some ⟨ps[j], 0, none⟩)) := hcell
        have hat := HAT.out
        have q1 : (j : Int) < (ps.length : Int) := by omega
        clear hcell
        go_wp2
        go_roundw
        case rel => exact ⟨j + 1, by omega, by go_num, by first | rfl | trivial⟩
        case measure => simp [intOf]; omega
      · have q1 : ¬ (j : Int) < (ps.length : Int) := by omega
        go_wp2
        refine bodyPost_end (results_none rfl _ _ _) rfl ?_
        exact ⟨rfl, vo, HB.out, HR.out, Chg.refl _ _⟩
  · have HE := Aside0.mk (show (if i = at_ then out ++ ats else out) = out ++ ats from if_pos hi)
    have hd : (i == at_) = true := by simp [hi]
    rw [HE.out]
    clear HE
    go_enter Try.func26, Try.ntmps26
    go_wp2
    go_loopw [10] (fun k wr => ∃ (j : Nat) (v : Value), j ≤ ps.length ∧ k = .int .i64 j ∧ Aside0 (Blk wr bout 24 #[v]) ∧ Aside0 ((Kd.int .i64).R 3 wr base (fun k => ok k ∨ w.heap.size ≤ k) v (out ++ ats.take j)) ∧ Aside0 (Chg w wr (fun k => k = bout ∨ ok k))) (fun k _ => ps.length - (intOf k).toNat)
    case atStart => exact ⟨0, vo, Nat.zero_le _, rfl, HB, ⟨by simpa using HR.out⟩, ⟨Chg.refl _ _⟩⟩
    case round =>
      clear HB HR
      obtain ⟨j, v, hj, rfl, HB, HR, HK⟩ := hrel
      by_cases hlt : j < ps.length
      · obtain ⟨ad, e, hcell⟩ := at_P HPS.out j hlt
        cases e
        obtain ⟨hat2, hnp, hpb⟩ := HCL.out j hlt (by omega)
        have hpo := HPO.out ad rfl
        have hrd : wr.cell? (ad.add j) = some (.pointer (some ⟨ps[j], 0, none⟩)) := cellS hcell HK.out.2 (by
          rw [add_block]
          intro h
          rcases h with h | h
          · exact hpo.2 h
          · exact hpo.1 h)
        have hata : wr.cell? ⟨bat, 0, none⟩ = some (.int .i64 at_) := cellS HAT.out HK.out.2 (fun h => by
          rcases h with h | h
          · exact HBAT.out.2 h
          · exact HBAT.out.1 h)
        have hpc : wr.cell? ⟨ps[j], 0, none⟩ = some (.int .i64 ats[j]) := cellS hat2 HK.out.2 (fun h => by
          rcases h with h | h
          · exact hpb h
          · exact hnp h)
        have HT := Aside0.mk (show out ++ ats.take (j + 1) = (out ++ ats.take j) ++ [ats[j]] by rw [List.take_succ_eq_append_getElem (by omega), List.append_assoc])
        have HLN := Aside0.mk (show ((out ++ ats.take j).length + ([ats[j]] : List Int).length) * 8 ≤ 140737488355328 by rw [List.length_append, List.length_take, List.length_singleton]; omega)
        obtain ⟨p, hp⟩ : ∃ p, ps[j] = p := ⟨_, rfl⟩
        obtain ⟨a, ha⟩ : ∃ a, ats[j] = a := ⟨_, rfl⟩
        rw [ha] at HT HLN hpc
        rw [hp] at hrd hpc
        obtain ⟨L, hL⟩ : ∃ L, out ++ ats.take j = L := ⟨_, rfl⟩
        rw [hL] at HR HT HLN
        obtain ⟨q, hq⟩ : ∃ q, L ++ [a] = q := ⟨_, rfl⟩
        rw [hq] at HT
        have HQ := Aside0.mk hq
        obtain ⟨Av, cv, rfl, hcv, _⟩ := Kd.R_reads HR.out
        have q1 : (j : Int) < (ps.length : Int) := by omega
        have k0 : wr.drew.cell? ⟨bout, 0, none⟩ = some (.slice Av L.length cv) := HB.out.cell 0
        have k1 : wr.drew.cell? ⟨p, 0, none⟩ = some (.int .i64 a) := hpc
        have HBd := Aside0.mk HB.out.drew
        have HRd := Aside0.mk (Kd.R_drew HR.out)
        have HKd := Aside0.mk (show Chg w wr.drew (fun k => k = bout ∨ ok k) from ⟨HK.out.1.drew, HK.out.2.drew⟩)
        clear hcell hp ha hL hq hat2 hnp hpb hpo
        go_wp2
        refine start_ (n := 8) (S := fun w' => w'.cell? ⟨bout, 0, none⟩ = some (.slice Av L.length cv) ∧ w'.cell? ⟨p, 0, none⟩ = some (.int .i64 a)) (ds := [6, 7]) #[false, false, false, false, false, false, false, false] (by kernel_rfl) rfl rfl ⟨k0, k1⟩ (fun hHeld => ?_)
        generalize wr.drew = wd at k0 k1 HBd HRd HKd hHeld ⊢
        refine pure_ (i := 1) (N := some 18) (v := ?_) (a' := ?_) #[false, true, false, false, false, false, false, false] rfl rfl (by kernel_rfl) (fun _ _ _ h => h) (Or.inl ⟨by rfl, ?_⟩) ?_ ?_
        rotate_left
        · intro w'
          go_simp
          with_reducible rfl
        rotate_left
        · simp only [Act.put, List.setIfInBounds_toArray, List.set_cons_zero, List.set_cons_succ, i64_w, i32_w]
          rfl
        refine pure_ (i := 2) (N := some 19) (v := ?_) (a' := ?_) #[false, true, true, false, false, false, false, false] rfl rfl (by kernel_rfl) (fun _ _ _ h => h) (Or.inl ⟨by rfl, ?_⟩) ?_ ?_
        rotate_left
        · intro w'
          go_simp
          with_reducible rfl
        rotate_left
        · simp only [Act.put, List.setIfInBounds_toArray, List.set_cons_zero, List.set_cons_succ, i64_w, i32_w]
          rfl
        refine pure_ (i := 3) (N := some 20) (v := ?_) (a' := ?_) #[false, true, true, true, false, false, false, false] rfl rfl (by kernel_rfl) (fun _ _ _ h => h) (Or.inl ⟨by rfl, ?_⟩) ?_ ?_
        rotate_left
        · intro w'
          go_simp
          with_reducible rfl
        rotate_left
        · simp only [Act.put, List.setIfInBounds_toArray, List.set_cons_zero, List.set_cons_succ, i64_w, i32_w]
          rfl
        refine take_ (i := 0) (N := some 17) (v := ?_) (a' := ?_) #[true, true, true, true, false, false, false, false] rfl rfl (by kernel_rfl) (fun _ _ _ h => h) (Or.inl ⟨by rfl, ?_⟩) hHeld ?_ ?_
        rotate_left
        · rintro w' ⟨s0, s1⟩
          go_simp
          with_reducible rfl
        rotate_left
        · simp only [Act.put, List.setIfInBounds_toArray, List.set_cons_zero, List.set_cons_succ, i64_w, i32_w]
          rfl
        refine take_ (i := 4) (N := some 21) (v := ?_) (a' := ?_) #[true, true, true, true, true, false, false, false] rfl rfl (by kernel_rfl) (fun _ _ _ h => h) (Or.inl ⟨by rfl, ?_⟩) hHeld ?_ ?_
        rotate_left
        · rintro w' ⟨s0, s1⟩
          go_simp
          with_reducible rfl
        rotate_left
        · simp only [Act.put, List.setIfInBounds_toArray, List.set_cons_zero, List.set_cons_succ, i64_w, i32_w]
          rfl
        refine one_ (i := 5) (N := some 22) #[true, true, true, true, true, true, false, false] rfl rfl (by kernel_rfl) (by decide) (fun K hK => ?_)
        refine value_ (w1 := ?_) (v := ?_) (by rfl) rfl ?_ ?_
        rotate_left 2
        · go_simp
          constructor
          · rfl
          · rfl
        have HC2 := Aside0.mk (C_lit_int wd wd.heap.size rfl .i64 [a] #[.int .i64 a] rfl 3 (by simp))
        have HR2 := Aside0.mk (Kd.R_alloc HRd.out (.cells #[.int .i64 a] 3))
        have HB2 := Aside0.mk (HBd.out.alloc (.cells #[.int .i64 a] 3))
        have HK2 := Aside0.mk (show Chg w (wd.alloc (.cells #[.int .i64 a] 3)) (fun k => k = bout ∨ ok k) from HKd.out.then_ (Chg.of_below ((Below.refl _ _).alloc (Nat.le_refl _) _) (fun _ => False)) (fun _ h => h.elim))
        refine hK.out _ _ ⟨(cell_allocd k0 (.cells #[.int .i64 a] 3)), (cell_allocd k1 (.cells #[.int .i64 a] 3))⟩ (fun hHeld => ?_)
        clear hK K
        refine norm_ (a' := ?_) ?_ ?_
        rotate_left
        · show Act.put _ (some 22) _ = _
          simp only [Act.put, List.setIfInBounds_toArray, List.set_cons_zero, List.set_cons_succ, i64_w, i32_w]
          rfl
        refine last_ (i := 6) (N := some 23) #[true, true, true, true, true, true, true, false] rfl rfl (by kernel_rfl) (by decide) (fun K hK => ?_)
        refine Kd.R_append_rows_step (Kd.int .i64) (w0 := wd.alloc (.cells #[.int .i64 a] 3)) (Rr := (Kd.int .i64).K (wd.alloc (.cells #[.int .i64 a] 3))) base (by rfl) (.tmp 17) (.tmp 22) 24 3 (.int .i64 0) 8 rfl Try.underlying24 info3 rfl (by decide) (by omega) (.slice Av L.length cv) L [a] (some ⟨wd.heap.size, 0, none⟩) 1 1 (fun k => ok k ∨ w.heap.size ≤ k) (fun _ => False) rfl rfl HR2.out HC2.out (fun x cs hK => hK) (fun _ hk => hk.elim) (fun k hk => .inr (Nat.le_trans HK2.out.size hk)) (Below.refl _ _) (Nat.le_trans hbase HK2.out.size) HLN.out ?_
        intro v3 w3 hR3 hB3 hG3 _
        rw [HQ.out] at hR3
        obtain ⟨A3, c3, rfl⟩ := Kd.R_slice hR3
        have HR3 := Aside0.mk hR3
        have HN := Aside0.mk (show ∀ k, (Value.slice Av L.length cv).ownBlock = some k → ok k ∨ w.heap.size ≤ k from fun k hk => HR2.out.1 k hk)
        have hb3 : Blk w3 bout 24 #[.slice Av L.length cv] := HB2.out.grown hG3 (fun he => by
          rcases HN.out bout he.symm with h | h
          · exact HG.out h
          · omega)
        have HB3 := Aside0.mk hb3
        have q3 : w3.cell? ⟨bout, 0, none⟩ = some (.slice Av L.length cv) := hb3.cell 0
        have f3 : w3.frozen? ⟨bout, 0, none⟩ = false := hb3.frozen 0
        have HK3 := Aside0.mk (show Chg w w3 (fun k => k = bout ∨ ok k) from ⟨⟨hG3.os.trans HK2.out.1.os, hG3.tape.trans HK2.out.1.tape, hG3.output.trans HK2.out.1.output, Nat.le_trans HK2.out.1.size hG3.size, fun k hk => absurd hk (Nat.not_lt_zero k)⟩, Kept.of_grown hG3 HK2.out.2 (fun k hk => by
          rcases HN.out k hk with h | h
          · exact .inl (.inr h)
          · exact .inr h)⟩)
        clear hR3 hB3 hG3 hb3
        refine hK.out _ _ ?_
        clear hK K
        refine norm_ (a' := ?_) ?_ ?_
        rotate_left
        · show Act.put _ (some 23) _ = _
          simp only [Act.put, List.setIfInBounds_toArray, List.set_cons_zero, List.set_cons_succ, i64_w, i32_w]
          rfl
        refine last_ (i := 7) (N := none) #[true, true, true, true, true, true, true, true] rfl rfl (by kernel_rfl) (by decide) (fun K hK => ?_)
        refine skip_ (w1 := ?_) (by rfl) rfl ?_ ?_
        rotate_left
        · go_simp
          rfl
        refine hK.out _ _ ?_
        clear hK K
        refine done_ (by kernel_rfl) ?_
        clear hHeld
        go_wp2
        have hgn : ¬ (ok bout ∨ w.heap.size ≤ bout) := fun h => by
          rcases h with h | h
          · exact HG.out h
          · omega
        have HF := Aside0.mk (own_setCell HB3.out HR3.out hgn)
        have HKF := Aside0.mk (HK3.out.then_ (Chg.set_ w3 ⟨bout, 0, none⟩ (.slice A3 q.length c3)) (fun k hk => .inl (.inl hk)))
        go_roundw
        case rel => exact ⟨j + 1, _, by omega, by go_num, ⟨HF.out.1⟩, ⟨by rw [HT.out]; exact HF.out.2⟩, HKF⟩
        case measure => simp [intOf]; omega
      · have q1 : ¬ (j : Int) < (ps.length : Int) := by omega
        have HT := Aside0.mk (show ats.take j = ats from List.take_of_length_le (by omega))
        go_wp2
        refine bodyPost_end (results_none rfl _ _ _) rfl ?_
        exact ⟨rfl, v, HB.out, by rw [← HT.out]; exact HR.out, HK.out⟩


end Go.Proofs.Ytbdmbkmokhaflaa.Q
end

section
-- written by hprint.py (a program of these sessions) out of the translation; Lean checks it
namespace Go.Proofs.Ytbdmbkmokhaflaa.Q
open Go.RowKit Go.Proofs.YtbdmbkmokhaflaaW.Hb Go.Proofs.YtbdmbkmokhaflaaW.PrintWords Go.Proofs.YtbdmbkmokhaflaaW.PrintLast Go.Proofs.YtbdmbkmokhaflaaW.PrintMore
attribute [local go_sem] max2_int min2_int max_two min_two max_three min_three max_four min_four   -- for this text's walks alone
set_option linter.unusedVariables false
set_option linter.unusedSimpArgs false

/-! ### shape_Around: function 19, by hand -/
def openOf (cs : List Ins) (i : Nat) : List Int := ((scanTo cs i).map (fun s => s.2.map (fun b => (b.a : Int)))).getD []
def aroundTo (cs : List Ins) (at_ : Int) (i : Nat) : List Int := if 0 ≤ at_ ∧ at_ < i then openOf cs at_.toNat else []
theorem aroundTo_succ (cs : List Ins) (at_ : Int) (i : Nat) : aroundTo cs at_ (i + 1) = if (i : Int) = at_ then aroundTo cs at_ i ++ openOf cs i else aroundTo cs at_ i := by
  unfold aroundTo
  by_cases h : (i : Int) = at_
  · subst h
    rw [if_pos rfl, if_pos (by omega), if_neg (by omega)]
    simp
  · rw [if_neg h]
    by_cases h2 : 0 ≤ at_ ∧ at_ < i
    · rw [if_pos (by omega), if_pos h2]
    · rw [if_neg (by omega), if_neg h2]
def shape_Around.f (l0 : List Ins) (a1 : Int) : Option (List Int) := if l0.length ≤ 1048576 then some (match scanAll l0 with | none => [] | some _ => aroundTo l0 a1 l0.length) else none
theorem cf_around (args : Array Value) (W : World) : (callFunc 26 args).run Try.prog W = .ok (.enter 26 args) W := by go_simp
def ArInv (cs : List Ins) (w : World) (at_ : Int) (bout i : Nat) (W : World) (T : Nat → Prop) : Prop :=
  (∀ k, T k → k = bout ∨ w.heap.size ≤ k) ∧ T bout ∧ ∃ v, Blk W bout 24 #[v] ∧ RI W w.heap.size (fun k => T k ∧ k ≠ bout) v (aroundTo cs at_ i)
theorem openOf_len (cs : List Ins) (i : Nat) : (openOf cs i).length ≤ 8 := by
  unfold openOf
  cases h : scanTo cs i with
  | none => simp
  | some s =>
    have := (scanTo_ok (m := s.1) (fs := s.2) h).2.1
    simpa using this
theorem sees_around (cs : List Ins) (w : World) (bat bout : Nat) (at_ : Int) (h0 : w.cell? ⟨bat, 0, none⟩ = some (.int .i64 at_)) (hbl : bat < w.heap.size) (hne : bat ≠ bout) (hbo : bout < w.heap.size) : Sees cs w (fun k => k = bout) 26 #[.pointer (some ⟨bat, 0, none⟩), .pointer (some ⟨bout, 0, none⟩)] (ArInv cs w at_ bout) := by
  refine ⟨fun i W W' T S hi hc hS => ?_, fun i W T Ao c ps ats hi hI hc hC hAo hats hlen h8 hcl => ?_⟩
  · obtain ⟨h1, h2, v, h3, h4⟩ := hi
    exact ⟨h1, h2, v, blk_kept h3 hc.2 (fun hs => (hS bout hs).1 h2), Kd.R_kept h4 hc.2 (fun k hk hs => (hS k hs).1 hk.1)⟩
  · obtain ⟨h1, h2, v, h3, h4⟩ := hI
    have hsz : w.heap.size ≤ W.heap.size := hc.size
    have hop : openOf cs i = ats.map (fun (n : Nat) => (n : Int)) := by
      unfold openOf
      cases hs : scanTo cs i with
      | none => rw [hs] at hats; cases hats
      | some s =>
        rw [hs] at hats
        have : s.2.map Fr.a = ats := Option.some.inj hats
        rw [← this]
        simp
    have hTb : ∀ k, T k ∧ k ≠ bout → w.heap.size ≤ k := fun k hk => (h1 k hk.1).elim (fun e => absurd e hk.2) id
    have hol : (aroundTo cs at_ i).length ≤ 8 := by
      unfold aroundTo
      split
      · exact openOf_len _ _
      · simp
    refine (shape_Around_lit1_26.calls W i at_ Ao c ps (ats.map (fun (n : Nat) => (n : Int))) bat bout w.heap.size v (aroundTo cs at_ i) (fun k => T k ∧ k ≠ bout) (cellS h0 hc.2 hne) ⟨fun h => by have := hTb _ h; omega, hne⟩ hC (fun ad e => ⟨fun h => hAo ad e h.1, fun h => hAo ad e (by rw [h]; exact h2)⟩) (by rw [List.length_map]; exact hlen) (fun j hj hj' => ?_) h3 h4 (fun h => h.2 rfl) hsz (by omega)).mono ?_
    · have hj2 : j < ats.length := by rw [List.length_map] at hj'; exact hj'
      obtain ⟨c1, c2⟩ := hcl j hj hj2
      exact ⟨by rw [List.getElem_map]; exact c1, fun h => c2 h.1, fun h => c2 (by rw [h]; exact h2)⟩
    · rintro e W' ⟨rfl, v', hb', hr', hc'⟩
      have hTS : ∀ k, (k = bout ∨ T k ∧ k ≠ bout) → T k := fun k hk => hk.elim (fun e => e ▸ h2) (fun h => h.1)
      refine ⟨rfl, hc'.mono hTS, fun k => (T k ∨ W.heap.size ≤ k) ∧ k < W'.heap.size, ⟨fun k hk => ?_, ⟨.inl h2, hb'.lt⟩, v', hb', ?_⟩, fun k hk => hk⟩
      · rcases hk.1 with h | h
        · exact h1 k h
        · exact .inr (by omega)
      · rw [aroundTo_succ, hop]
        refine R_rel hr' (fun k hk h => ?_)
        rcases h with h | h
        · exact ⟨⟨.inl h.1, hk⟩, h.2⟩
        · exact ⟨⟨.inr h, hk⟩, by omega⟩
set_option maxRecDepth 100000 in
set_option maxHeartbeats 4000000 in
theorem shape_Around.calls (A0 : Option Addr) (c0 : Nat) (l0 : List (S31)) (a1 : Int) (r : List Int) (w : World) (hr0 : Kd.C k31 w A0 l0.length l0) (hc0 : l0.length ≤ c0) (h : shape_Around.f l0 a1 = some r) :
    Calls Try.prog 19 #[.slice A0 l0.length c0, .int .i64 a1] w fun e w' => ∃ v0_ : Value, e = .returned (v0_) ∧ Kd.R (Kd.int .i64) 3 w' w.heap.size (fun _ => True) v0_ r ∧ Below w.heap.size w w' := by
  unfold shape_Around.f at h
  split at h
  · rename_i hl
    have hB1 : Below w.heap.size w ((w.alloc (.cells #[.int .i64 a1] 3)).alloc (.cells #[.slice none 0 0] 24)) := ((Below.refl _ w).alloc (Nat.le_refl _) _).alloc (by rw [World.size_alloc]; omega) _
    have b0 := (Blk.new w 3 #[.int .i64 a1]).alloc (.cells #[.slice none 0 0] 24)
    have b1 := Blk.new (w.alloc (.cells #[.int .i64 a1] 3)) 24 #[.slice none 0 0]
    rw [World.size_alloc] at b1
    have hrC := Kd.C_below hr0 hB1
    have hA1 : 0 < l0.length → ∀ ad, A0 = some ad → ad.block ≠ w.heap.size + 1 := fun hn ad e => by
      subst e
      have := Kd.C_lt hr0 hn (by decide)
      omega
    have HS := Aside0.mk (shape_scan.calls _ A0 c0 26 l0 (fun k => k = w.heap.size + 1) #[.pointer (some ⟨w.heap.size, 0, none⟩), .pointer (some ⟨w.heap.size + 1, 0, none⟩)] (ArInv l0 ((w.alloc (.cells #[.int .i64 a1] 3)).alloc (.cells #[.slice none 0 0] 24)) a1 (w.heap.size + 1)) hrC (fun k hk => by rw [World.size_alloc, World.size_alloc]; omega) hA1 ⟨fun k hk => .inl hk, rfl, _, b1, by
      have e0 : aroundTo l0 a1 0 = [] := if_neg (by omega)
      rw [e0]
      exact Kd.R_nil _ _ _ _ _⟩ (sees_around l0 _ w.heap.size (w.heap.size + 1) a1 (b0.cell 0) (by rw [World.size_alloc, World.size_alloc]; omega) (by omega) (by rw [World.size_alloc, World.size_alloc]; omega)) cf_around hl)
    have HBE := Aside0.mk (fun (w' : World) (hc : Chg ((w.alloc (.cells #[.int .i64 a1] 3)).alloc (.cells #[.slice none 0 0] 24)) w' (fun k => k = w.heap.size + 1)) => hB1.trans (hc.below (B := w.heap.size) (by rw [World.size_alloc, World.size_alloc]; omega) (fun k hk => by omega)))
    clear hr0 hl hB1 b0 b1 hrC hA1
    cases hs : scanAll l0 with
    | none =>
      rw [hs] at h
      obtain rfl := Option.some.inj h
      have HX := Aside0.mk hs
      clear h hs
      go_enter Try.func19, Try.ntmps19
      go_wp2_with (go_at_call 21; (with_reducible refine HS.out.mono ?_); rintro e w' ⟨hc, hm⟩; rw [HX.out] at hm; obtain rfl := hm; have HC := Aside0.mk hc; clear hc)
      go_ret
      exact ⟨_, rfl, Kd.R_nil _ _ _ _ _, HBE.out w' HC.out⟩
    | some m =>
      rw [hs] at h
      obtain rfl := Option.some.inj h
      have HX := Aside0.mk hs
      clear h hs
      go_enter Try.func19, Try.ntmps19
      go_wp2_with (go_at_call 21; (with_reducible refine HS.out.mono ?_); rintro e w' ⟨hc, hm⟩; rw [HX.out] at hm; obtain ⟨v, T, rfl, _, ⟨_, _, u, hb, hR⟩, _⟩ := hm; have hq : w'.cell? ⟨w.heap.size + 1, 0, none⟩ = some u := hb.cell 0; have HC := Aside0.mk hc; have HR := Aside0.mk hR; clear hc hR hb)
      go_ret
      exact ⟨_, rfl, Kd.R_lower (Kd.R_mono HR.out (fun _ _ => trivial)) (by rw [World.size_alloc, World.size_alloc]; omega), HBE.out w' HC.out⟩
  · cases h


end Go.Proofs.Ytbdmbkmokhaflaa.Q
end
