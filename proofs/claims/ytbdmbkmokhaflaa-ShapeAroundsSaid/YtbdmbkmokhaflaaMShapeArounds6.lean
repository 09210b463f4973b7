/- texts of one claim, merged: each in a section of its own -/
import Derived.Test.YtbdmbkmokhaflaaMShapeArounds3
import Derived.Test.YtbdmbkmokhaflaaMShapeArounds4
import Derived.Test.YtbdmbkmokhaflaaMShapeArounds5
section
-- written by hprint.py (a program of these sessions) out of the translation; Lean checks it
namespace Go.Proofs.Ytbdmbkmokhaflaa.Q
open Go.RowKit Go.Proofs.YtbdmbkmokhaflaaW.Hb Go.Proofs.YtbdmbkmokhaflaaW.PrintWords Go.Proofs.YtbdmbkmokhaflaaW.PrintLast Go.Proofs.YtbdmbkmokhaflaaW.PrintMore
attribute [local go_sem] max2_int min2_int max_two min_two max_three min_three max_four min_four   -- for this text's walks alone
set_option linter.unusedVariables false
set_option linter.unusedSimpArgs false

/-! ### weighhouseref06_Depth: function 17 -/
def weighhouseref06_Depth.l0 : Nat → List (S31) → List Int → Int → Int → Option (Int × Int)
  | 0, _, _, _, _ => none
  | k + 1, x0, x4, x6, x7 => if x7 < (x0.length : Int) then ((weighhouseref06_opened.f k x0 x4 x7).bind fun t256 => (if 0 ≤ x7 then (if ((rd_T31 x0 x7).f0) = 48 then (weighhouseref06_Depth.l0 k x0 x4 (mx x6 (wrap64 ((t256.length : Int) + 1))) (wrap64 (x7 + 1))) else (if ((rd_T31 x0 x7).f0) = 51 then (weighhouseref06_Depth.l0 k x0 x4 (mx x6 (wrap64 ((t256.length : Int) + 1))) (wrap64 (x7 + 1))) else (weighhouseref06_Depth.l0 k x0 x4 (mx x6 (t256.length : Int)) (wrap64 (x7 + 1))))) else (none))) else (some (x6, 0))
def weighhouseref06_Depth.f (k : Nat) (l0 : List (S31)) : Option (Int × Int) := (weighhouseref06_Match.f k l0).bind fun bt252 => (if bt252.2 = 0 then (weighhouseref06_Depth.l0 k l0 bt252.1 0 0) else (some (0, bt252.2)))
theorem weighhouseref06_Depth.mono_l : ∀ k, (∀ y0 y1 y2 y3, LeO (weighhouseref06_Depth.l0 k y0 y1 y2 y3) (weighhouseref06_Depth.l0 (k + 1) y0 y1 y2 y3))
  | 0 => fun _ _ _ _ r h => by simp [weighhouseref06_Depth.l0] at h
  | k + 1 => by
    have ih0 := weighhouseref06_Depth.mono_l k
    · intro y0 y1 y2 y3
      unfold weighhouseref06_Depth.l0
      repeat' first
      | (with_reducible exact ih0 _ _ _ _)
      | (with_reducible exact weighhouseref06_Match.mono _ _)
      | (with_reducible exact weighhouseref06_opened.mono _ _ _ _)
      | (with_reducible exact LeO.refl _)
      | (with_reducible exact LeO.none _)
      | (with_reducible refine LeO.ite ?_ ?_)
      | (with_reducible refine LeO.bind ?_ (fun _ => ?_))
      | exact ih0 _ _ _ _
      | exact weighhouseref06_Match.mono _ _
      | exact weighhouseref06_opened.mono _ _ _ _
      | exact LeO.none _
      | refine LeO.ite ?_ ?_
      | refine LeO.bind ?_ (fun _ => ?_)
theorem weighhouseref06_Depth.mono : ∀ a0 k, LeO (weighhouseref06_Depth.f k a0) (weighhouseref06_Depth.f (k + 1) a0) := by
  intro a0 k
  have ih0 := weighhouseref06_Depth.mono_l k
  unfold weighhouseref06_Depth.f
  repeat' first
      | (with_reducible exact ih0 _ _ _ _)
      | (with_reducible exact weighhouseref06_Match.mono _ _)
      | (with_reducible exact weighhouseref06_opened.mono _ _ _ _)
      | (with_reducible exact LeO.refl _)
      | (with_reducible exact LeO.none _)
      | (with_reducible refine LeO.ite ?_ ?_)
      | (with_reducible refine LeO.bind ?_ (fun _ => ?_))
      | exact ih0 _ _ _ _
      | exact weighhouseref06_Match.mono _ _
      | exact weighhouseref06_opened.mono _ _ _ _
      | exact LeO.none _
      | refine LeO.ite ?_ ?_
      | refine LeO.bind ?_ (fun _ => ?_)
set_option maxHeartbeats 8000000 in
set_option maxRecDepth 100000 in
theorem weighhouseref06_Depth.calls (k : Nat) (A0 : Option Addr) (c0 : Nat) (l0 : List (S31)) (r1 : Int) (r2 : Int) (w : World) (hr0 : Kd.C k31 w A0 l0.length l0) (hc0 : l0.length ≤ c0) (h : weighhouseref06_Depth.f k l0 = some (r1, r2)) :
    Calls Try.prog 17 #[.slice A0 l0.length c0] w fun e w' => e = .returned (.tuple #[.int .i64 r1, .int .i64 r2]) ∧ Below w.heap.size w w' := by
  have HR0 := Aside0.mk hr0
  have HC0 := Aside0.mk hc0
  clear hr0 hc0
  have HB := Aside0.mk (Below.refl w.heap.size w)
  have H : ((weighhouseref06_Match.f k l0).bind fun bt252 => (if bt252.2 = 0 then (weighhouseref06_Depth.l0 k l0 bt252.1 0 0) else (some (0, bt252.2)))) = some (r1, r2) := h
  clear h
  replace H := Option.bind_eq_some_iff.mp H
  obtain ⟨⟨t252, t253⟩, A20, H⟩ := H
  replace H : (if t253 = 0 then (weighhouseref06_Depth.l0 k l0 t252 0 0) else (some (0, t253))) = some (r1, r2) := H
  have A2 := Aside0.mk A20
  clear A20
  by_cases c3 : t253 = 0
  · rw [if_pos c3] at H
    have c3b0 : (t253 == 0) = true := beq_iff_eq.mpr c3
    have c3b1 : (t253 != 0) = false := bne_eq_false_iff_eq.mpr c3
    clear c3
    have H' := Aside0.mk H
    clear H
    go_enter Try.func17, Try.ntmps17
    go_wp2_with (first | ((with_reducible refine gate_callee (f := 15) rfl ?_); refine goesL_ (some 11) rfl rfl Try.func15 (by kernel_rfl) rfl #[.slice A0 l0.length c0] rfl (by (try simp only [List.map_toArray, List.map_cons, List.map_nil]); first | done | rfl | (simp only [List.length_drop, List.length_take]; rfl)) ?_; (with_reducible refine (weighhouseref06_Match.calls k _ _ l0 t252 t253 _ ?side1 ?side2 A2.out).mono ?_); (case side1 => repeat (first | exact HR0.out | (with_reducible refine Kd.C_alloc ?_ _) | (with_reducible refine Kd.C_drewN ?_ _) | (with_reducible refine Kd.C_drew ?_))); (case side2 => exact HC0.out); rintro e w4 ⟨v254, rfl, ho0, hb⟩; refine ⟨_, rfl, ?_⟩; have n0_ := Aside0.mk (Kd.R_lower ho0 (below_size (by repeat (first | (with_reducible first | exact HB.out | apply below_alloc | apply pw_below_drewN | apply below_drew1) | exact HB.out)))); have n1_ := Aside0.mk (below_step (by repeat (first | (with_reducible first | exact HB.out | apply below_alloc | apply pw_below_drewN | apply below_drew1) | exact HB.out)) hb); clear HB; have HO255 := n0_; have HB := n1_; clear n0_ n1_; (try clear hb); (try clear hb2); (try clear hk); (try clear hi); (try clear ho0)))
    go_loopg [6, 7] k (fun kq v6 v7 w' => ∃ (x6_1 : Int) (x7_1 : Int), v6 = .int .i64 x6_1 ∧ v7 = .int .i64 x7_1 ∧ Aside0 (weighhouseref06_Depth.l0 kq l0 t252 x6_1 x7_1 = some (r1, r2)) ∧ Aside0 (kq ≤ k) ∧ Aside0 (Kd.R (Kd.int .i64) 3 w' w.heap.size (fun _ => True) v254 t252) ∧ Aside0 (Below w.heap.size w w'))
    case atStart => exact ⟨(0), (0), (by first | rfl | (simp; done) | (simp [*]; done)), (by first | rfl | (simp; done) | (simp [*]; done)), H', ⟨Nat.le_refl _⟩, ⟨by (with_reducible repeat (first | apply Kd.R_alloc | apply Kd.R_drewN | apply Kd.R_drew)); exact HO255.out⟩, ⟨by repeat (first | (with_reducible first | exact HB.out | apply below_alloc | apply pw_below_drewN | apply below_drew1) | exact HB.out)⟩⟩
    case round =>
      clear H'
      try clear c1
      try clear p2
      try clear c3
      try clear c3b0
      try clear c3b1
      obtain ⟨x6_1, x7_1, rfl, rfl, HA, HK1, HO_4, HB⟩ := hrel
      cases gk with
      | zero => exact absurd HA.out (by simp [weighhouseref06_Depth.l0])
      | succ k1 =>
        have H := HA.out
        clear HA
        simp only [weighhouseref06_Depth.l0] at H
        by_cases c5 : x7_1 < (l0.length : Int)
        · rw [if_pos c5] at H
          have c5b0 : decide (x7_1 < (l0.length : Int)) = true := decide_eq_true c5
          clear c5
          replace H := Option.bind_eq_some_iff.mp H
          obtain ⟨t256, A60, H⟩ := H
          replace H : (if 0 ≤ x7_1 then (if ((rd_T31 l0 x7_1).f0) = 48 then (weighhouseref06_Depth.l0 k1 l0 t252 (mx x6_1 (wrap64 ((t256.length : Int) + 1))) (wrap64 (x7_1 + 1))) else (if ((rd_T31 l0 x7_1).f0) = 51 then (weighhouseref06_Depth.l0 k1 l0 t252 (mx x6_1 (wrap64 ((t256.length : Int) + 1))) (wrap64 (x7_1 + 1))) else (weighhouseref06_Depth.l0 k1 l0 t252 (mx x6_1 (t256.length : Int)) (wrap64 (x7_1 + 1))))) else (none)) = some (r1, r2) := H
          have A6 := Aside0.mk A60
          clear A60
          by_cases c7 : 0 ≤ x7_1
          · rw [if_pos c7] at H
            have c7b0 : decide (0 ≤ x7_1) = true := decide_eq_true c7
            clear c7
            by_cases c8 : ((rd_T31 l0 x7_1).f0) = 48
            · rw [if_pos c8] at H
              have c8b0 : (((rd_T31 l0 x7_1).f0) == 48) = true := beq_iff_eq.mpr c8
              have c8b1 : (((rd_T31 l0 x7_1).f0) != 48) = false := bne_eq_false_iff_eq.mpr c8
              clear c8
              obtain ⟨ji9, hji9⟩ : ∃ j_ : Int, (mx x6_1 (wrap64 ((t256.length : Int) + 1))) = j_ := ⟨_, rfl⟩
              replace H : (weighhouseref06_Depth.l0 k1 l0 t252 ji9 (wrap64 (x7_1 + 1))) = some (r1, r2) := by first | (rw [hji9] at H; exact H) | (simp only [hji9] at H ⊢; exact H)
              (try rw [hji9] at A6)
              have hji9_ : (if x6_1 < (wrap64 ((t256.length : Int) + 1)) then (wrap64 ((t256.length : Int) + 1)) else x6_1) = ji9 := hji9
              have H' := Aside0.mk H
              clear H
              obtain ⟨Ao10, co10, eo10⟩ := Kd.R_slice HO_4.out
              subst eo10
              go_wp2_with (first | ((with_reducible refine gate_callee (f := 24) rfl ?_); refine goesL_ (some 26) rfl rfl Try.func24 (by kernel_rfl) rfl #[.slice A0 l0.length c0, .slice Ao10 t252.length co10, .int .i64 x7_1] rfl (by (try simp only [List.map_toArray, List.map_cons, List.map_nil]); first | done | rfl | (simp only [List.length_drop, List.length_take]; rfl)) ?_; (with_reducible refine (weighhouseref06_opened.calls k1 _ _ l0 _ _ t252 x7_1 t256 _ ?side1 ?side2 ?side3 ?side4 A6.out).mono ?_); (case side1 => repeat (first | exact (Kd.C_below HR0.out HB.out) | (with_reducible refine Kd.C_alloc ?_ _) | (with_reducible refine Kd.C_drewN ?_ _) | (with_reducible refine Kd.C_drew ?_))); (case side2 => exact HC0.out); (case side3 => repeat (first | exact (Kd.R_reads' HO_4.out).2.2 | (with_reducible refine Kd.C_alloc ?_ _) | (with_reducible refine Kd.C_drewN ?_ _) | (with_reducible refine Kd.C_drew ?_))); (case side4 => exact (Kd.R_reads' HO_4.out).2.1); rintro e w11 ⟨v257, rfl, ho0, hb⟩; refine ⟨_, rfl, ?_⟩; have n0_ := Aside0.mk (Kd.R_elder' (by (with_reducible repeat (first | apply Kd.R_alloc | apply Kd.R_drewN | apply Kd.R_drew)); exact HO_4.out) (Kd.R_base ho0) hb); have n1_ := Aside0.mk (Kd.R_lower (Kd.R_new' ho0 (Kd.R_lt (by (with_reducible repeat (first | apply Kd.R_alloc | apply Kd.R_drewN | apply Kd.R_drew)); exact HO_4.out))) (below_size (by repeat (first | (with_reducible first | exact HB.out | apply below_alloc | apply pw_below_drewN | apply below_drew1) | exact HB.out)))); have n2_ := Aside0.mk (below_step (by repeat (first | (with_reducible first | exact HB.out | apply below_alloc | apply pw_below_drewN | apply below_drew1) | exact HB.out)) hb); clear HO_4; clear HB; have HO_4 := n0_; have HO258 := n1_; have HB := n2_; clear n0_ n1_ n2_; (try clear hb); (try clear hb2); (try clear hk); (try clear hi); (try clear ho0); obtain ⟨Ao12, co12, eo12⟩ := Kd.R_slice HO258.out; subst eo12; have p259 : 0 ≤ (x7_1 : Int) := of_decide_eq_true (by first | (with_reducible assumption) | assumption); have q259 : x7_1 < (l0.length : Int) := of_decide_eq_true (by first | (with_reducible assumption) | assumption); obtain ⟨ad259, e259, hx259_0, hx259_1⟩ := at_T31 HR0.out x7_1 p259 q259; cases e259; replace hx259_0 := (HB.out.cell (World.block_lt_of_cell? w _ hx259_0)).trans hx259_0; replace hx259_1 := (HB.out.cell (World.block_lt_of_cell? w _ hx259_1)).trans hx259_1; replace p259 := eq_true p259; replace q259 := eq_true q259))
              go_roundg k1
              case measure => have := HK1.out; omega
              case rel => exact ⟨(ji9), (wrap64 (x7_1 + 1)), (by first | rfl | (simp; done) | (simp only [← hji9] <;> (first | rfl | simp)) | (simp [*]; done)), (by first | rfl | (simp; done) | (simp [*]; done)), H', ⟨by have := HK1.out; omega⟩, ⟨by (with_reducible repeat (first | apply Kd.R_alloc | apply Kd.R_drewN | apply Kd.R_drew)); exact Kd.R_mono HO_4.out (fun _ hk => trivial)⟩, ⟨by repeat (first | (with_reducible first | exact HB.out | apply below_alloc | apply pw_below_drewN | apply below_drew1) | exact HB.out)⟩⟩
            · rw [if_neg c8] at H
              have c8b0 : (((rd_T31 l0 x7_1).f0) == 48) = false := beq_eq_false_iff_ne.mpr c8
              have c8b1 : (((rd_T31 l0 x7_1).f0) != 48) = true := bne_iff_ne.mpr c8
              by_cases c13 : ((rd_T31 l0 x7_1).f0) = 51
              · rw [if_pos c13] at H
                have c13b0 : (((rd_T31 l0 x7_1).f0) == 51) = true := beq_iff_eq.mpr c13
                have c13b1 : (((rd_T31 l0 x7_1).f0) != 51) = false := bne_eq_false_iff_eq.mpr c13
                clear c13
                obtain ⟨ji14, hji14⟩ : ∃ j_ : Int, (mx x6_1 (wrap64 ((t256.length : Int) + 1))) = j_ := ⟨_, rfl⟩
                replace H : (weighhouseref06_Depth.l0 k1 l0 t252 ji14 (wrap64 (x7_1 + 1))) = some (r1, r2) := by first | (rw [hji14] at H; exact H) | (simp only [hji14] at H ⊢; exact H)
                (try rw [hji14] at A6)
                have hji14_ : (if x6_1 < (wrap64 ((t256.length : Int) + 1)) then (wrap64 ((t256.length : Int) + 1)) else x6_1) = ji14 := hji14
                have H' := Aside0.mk H
                clear H
                obtain ⟨Ao15, co15, eo15⟩ := Kd.R_slice HO_4.out
                subst eo15
                go_wp2_with (first | ((with_reducible refine gate_callee (f := 24) rfl ?_); refine goesL_ (some 26) rfl rfl Try.func24 (by kernel_rfl) rfl #[.slice A0 l0.length c0, .slice Ao15 t252.length co15, .int .i64 x7_1] rfl (by (try simp only [List.map_toArray, List.map_cons, List.map_nil]); first | done | rfl | (simp only [List.length_drop, List.length_take]; rfl)) ?_; (with_reducible refine (weighhouseref06_opened.calls k1 _ _ l0 _ _ t252 x7_1 t256 _ ?side1 ?side2 ?side3 ?side4 A6.out).mono ?_); (case side1 => repeat (first | exact (Kd.C_below HR0.out HB.out) | (with_reducible refine Kd.C_alloc ?_ _) | (with_reducible refine Kd.C_drewN ?_ _) | (with_reducible refine Kd.C_drew ?_))); (case side2 => exact HC0.out); (case side3 => repeat (first | exact (Kd.R_reads' HO_4.out).2.2 | (with_reducible refine Kd.C_alloc ?_ _) | (with_reducible refine Kd.C_drewN ?_ _) | (with_reducible refine Kd.C_drew ?_))); (case side4 => exact (Kd.R_reads' HO_4.out).2.1); rintro e w16 ⟨v257, rfl, ho0, hb⟩; refine ⟨_, rfl, ?_⟩; have n0_ := Aside0.mk (Kd.R_elder' (by (with_reducible repeat (first | apply Kd.R_alloc | apply Kd.R_drewN | apply Kd.R_drew)); exact HO_4.out) (Kd.R_base ho0) hb); have n1_ := Aside0.mk (Kd.R_lower (Kd.R_new' ho0 (Kd.R_lt (by (with_reducible repeat (first | apply Kd.R_alloc | apply Kd.R_drewN | apply Kd.R_drew)); exact HO_4.out))) (below_size (by repeat (first | (with_reducible first | exact HB.out | apply below_alloc | apply pw_below_drewN | apply below_drew1) | exact HB.out)))); have n2_ := Aside0.mk (below_step (by repeat (first | (with_reducible first | exact HB.out | apply below_alloc | apply pw_below_drewN | apply below_drew1) | exact HB.out)) hb); clear HO_4; clear HB; have HO_4 := n0_; have HO258 := n1_; have HB := n2_; clear n0_ n1_ n2_; (try clear hb); (try clear hb2); (try clear hk); (try clear hi); (try clear ho0); obtain ⟨Ao17, co17, eo17⟩ := Kd.R_slice HO258.out; subst eo17; have p259 : 0 ≤ (x7_1 : Int) := of_decide_eq_true (by first | (with_reducible assumption) | assumption); have q259 : x7_1 < (l0.length : Int) := of_decide_eq_true (by first | (with_reducible assumption) | assumption); obtain ⟨ad259, e259, hx259_0, hx259_1⟩ := at_T31 HR0.out x7_1 p259 q259; cases e259; replace hx259_0 := (HB.out.cell (World.block_lt_of_cell? w _ hx259_0)).trans hx259_0; replace hx259_1 := (HB.out.cell (World.block_lt_of_cell? w _ hx259_1)).trans hx259_1; replace p259 := eq_true p259; replace q259 := eq_true q259; have p260 : 0 ≤ (x7_1 : Int) := of_decide_eq_true (by first | (with_reducible assumption) | assumption); have q260 : x7_1 < (l0.length : Int) := of_decide_eq_true (by first | (with_reducible assumption) | assumption); obtain ⟨ad260, e260, hx260_0, hx260_1⟩ := at_T31 HR0.out x7_1 p260 q260; obtain rfl : ad259 = ad260 := (by injection e260); replace hx260_0 := (HB.out.cell (World.block_lt_of_cell? w _ hx260_0)).trans hx260_0; replace hx260_1 := (HB.out.cell (World.block_lt_of_cell? w _ hx260_1)).trans hx260_1; replace p260 := eq_true p260; replace q260 := eq_true q260))
                go_roundg k1
                case measure => have := HK1.out; omega
                case rel => exact ⟨(ji14), (wrap64 (x7_1 + 1)), (by first | rfl | (simp; done) | (simp only [← hji14] <;> (first | rfl | simp)) | (simp [*]; done)), (by first | rfl | (simp; done) | (simp [*]; done)), H', ⟨by have := HK1.out; omega⟩, ⟨by (with_reducible repeat (first | apply Kd.R_alloc | apply Kd.R_drewN | apply Kd.R_drew)); exact Kd.R_mono HO_4.out (fun _ hk => trivial)⟩, ⟨by repeat (first | (with_reducible first | exact HB.out | apply below_alloc | apply pw_below_drewN | apply below_drew1) | exact HB.out)⟩⟩
              · rw [if_neg c13] at H
                have c13b0 : (((rd_T31 l0 x7_1).f0) == 51) = false := beq_eq_false_iff_ne.mpr c13
                have c13b1 : (((rd_T31 l0 x7_1).f0) != 51) = true := bne_iff_ne.mpr c13
                obtain ⟨ji18, hji18⟩ : ∃ j_ : Int, (mx x6_1 (t256.length : Int)) = j_ := ⟨_, rfl⟩
                replace H : (weighhouseref06_Depth.l0 k1 l0 t252 ji18 (wrap64 (x7_1 + 1))) = some (r1, r2) := by first | (rw [hji18] at H; exact H) | (simp only [hji18] at H ⊢; exact H)
                (try rw [hji18] at A6)
                have hji18_ : (if x6_1 < (t256.length : Int) then (t256.length : Int) else x6_1) = ji18 := hji18
                have H' := Aside0.mk H
                clear H
                obtain ⟨Ao19, co19, eo19⟩ := Kd.R_slice HO_4.out
                subst eo19
                go_wp2_with (first | ((with_reducible refine gate_callee (f := 24) rfl ?_); refine goesL_ (some 26) rfl rfl Try.func24 (by kernel_rfl) rfl #[.slice A0 l0.length c0, .slice Ao19 t252.length co19, .int .i64 x7_1] rfl (by (try simp only [List.map_toArray, List.map_cons, List.map_nil]); first | done | rfl | (simp only [List.length_drop, List.length_take]; rfl)) ?_; (with_reducible refine (weighhouseref06_opened.calls k1 _ _ l0 _ _ t252 x7_1 t256 _ ?side1 ?side2 ?side3 ?side4 A6.out).mono ?_); (case side1 => repeat (first | exact (Kd.C_below HR0.out HB.out) | (with_reducible refine Kd.C_alloc ?_ _) | (with_reducible refine Kd.C_drewN ?_ _) | (with_reducible refine Kd.C_drew ?_))); (case side2 => exact HC0.out); (case side3 => repeat (first | exact (Kd.R_reads' HO_4.out).2.2 | (with_reducible refine Kd.C_alloc ?_ _) | (with_reducible refine Kd.C_drewN ?_ _) | (with_reducible refine Kd.C_drew ?_))); (case side4 => exact (Kd.R_reads' HO_4.out).2.1); rintro e w20 ⟨v257, rfl, ho0, hb⟩; refine ⟨_, rfl, ?_⟩; have n0_ := Aside0.mk (Kd.R_elder' (by (with_reducible repeat (first | apply Kd.R_alloc | apply Kd.R_drewN | apply Kd.R_drew)); exact HO_4.out) (Kd.R_base ho0) hb); have n1_ := Aside0.mk (Kd.R_lower (Kd.R_new' ho0 (Kd.R_lt (by (with_reducible repeat (first | apply Kd.R_alloc | apply Kd.R_drewN | apply Kd.R_drew)); exact HO_4.out))) (below_size (by repeat (first | (with_reducible first | exact HB.out | apply below_alloc | apply pw_below_drewN | apply below_drew1) | exact HB.out)))); have n2_ := Aside0.mk (below_step (by repeat (first | (with_reducible first | exact HB.out | apply below_alloc | apply pw_below_drewN | apply below_drew1) | exact HB.out)) hb); clear HO_4; clear HB; have HO_4 := n0_; have HO258 := n1_; have HB := n2_; clear n0_ n1_ n2_; (try clear hb); (try clear hb2); (try clear hk); (try clear hi); (try clear ho0); obtain ⟨Ao21, co21, eo21⟩ := Kd.R_slice HO258.out; subst eo21; have p259 : 0 ≤ (x7_1 : Int) := of_decide_eq_true (by first | (with_reducible assumption) | assumption); have q259 : x7_1 < (l0.length : Int) := of_decide_eq_true (by first | (with_reducible assumption) | assumption); obtain ⟨ad259, e259, hx259_0, hx259_1⟩ := at_T31 HR0.out x7_1 p259 q259; cases e259; replace hx259_0 := (HB.out.cell (World.block_lt_of_cell? w _ hx259_0)).trans hx259_0; replace hx259_1 := (HB.out.cell (World.block_lt_of_cell? w _ hx259_1)).trans hx259_1; replace p259 := eq_true p259; replace q259 := eq_true q259; have p260 : 0 ≤ (x7_1 : Int) := of_decide_eq_true (by first | (with_reducible assumption) | assumption); have q260 : x7_1 < (l0.length : Int) := of_decide_eq_true (by first | (with_reducible assumption) | assumption); obtain ⟨ad260, e260, hx260_0, hx260_1⟩ := at_T31 HR0.out x7_1 p260 q260; obtain rfl : ad259 = ad260 := (by injection e260); replace hx260_0 := (HB.out.cell (World.block_lt_of_cell? w _ hx260_0)).trans hx260_0; replace hx260_1 := (HB.out.cell (World.block_lt_of_cell? w _ hx260_1)).trans hx260_1; replace p260 := eq_true p260; replace q260 := eq_true q260))
                go_roundg k1
                case measure => have := HK1.out; omega
                case rel => exact ⟨(ji18), (wrap64 (x7_1 + 1)), (by first | rfl | (simp; done) | (simp only [← hji18] <;> (first | rfl | simp)) | (simp [*]; done)), (by first | rfl | (simp; done) | (simp [*]; done)), H', ⟨by have := HK1.out; omega⟩, ⟨by (with_reducible repeat (first | apply Kd.R_alloc | apply Kd.R_drewN | apply Kd.R_drew)); exact Kd.R_mono HO_4.out (fun _ hk => trivial)⟩, ⟨by repeat (first | (with_reducible first | exact HB.out | apply below_alloc | apply pw_below_drewN | apply below_drew1) | exact HB.out)⟩⟩
          · rw [if_neg c7] at H
            exact absurd H (by simp)
        · rw [if_neg c5] at H
          have c5b0 : decide (x7_1 < (l0.length : Int)) = false := decide_eq_false c5
          clear c5
          simp only [Option.some.injEq, Prod.mk.injEq] at H
          obtain ⟨rfl, rfl⟩ := H
          go_wp2
          go_ret2
          exact ⟨by first | rfl | (simp [errW_none, errW_some] <;> rfl) | (simp [*, errW_none, errW_some] <;> rfl), by repeat (first | (with_reducible first | exact HB.out | apply below_alloc | apply pw_below_drewN | apply below_drew1) | exact HB.out)⟩
  · rw [if_neg c3] at H
    have c3b0 : (t253 == 0) = false := beq_eq_false_iff_ne.mpr c3
    have c3b1 : (t253 != 0) = true := bne_iff_ne.mpr c3
    simp only [Option.some.injEq, Prod.mk.injEq] at H
    obtain ⟨rfl, rfl⟩ := H
    go_enter Try.func17, Try.ntmps17
    go_wp2_with (first | ((with_reducible refine gate_callee (f := 15) rfl ?_); refine goesL_ (some 11) rfl rfl Try.func15 (by kernel_rfl) rfl #[.slice A0 l0.length c0] rfl (by (try simp only [List.map_toArray, List.map_cons, List.map_nil]); first | done | rfl | (simp only [List.length_drop, List.length_take]; rfl)) ?_; (with_reducible refine (weighhouseref06_Match.calls k _ _ l0 t252 t253 _ ?side1 ?side2 A2.out).mono ?_); (case side1 => repeat (first | exact HR0.out | (with_reducible refine Kd.C_alloc ?_ _) | (with_reducible refine Kd.C_drewN ?_ _) | (with_reducible refine Kd.C_drew ?_))); (case side2 => exact HC0.out); rintro e w22 ⟨v254, rfl, ho0, hb⟩; refine ⟨_, rfl, ?_⟩; have n0_ := Aside0.mk (Kd.R_lower ho0 (below_size (by repeat (first | (with_reducible first | exact HB.out | apply below_alloc | apply pw_below_drewN | apply below_drew1) | exact HB.out)))); have n1_ := Aside0.mk (below_step (by repeat (first | (with_reducible first | exact HB.out | apply below_alloc | apply pw_below_drewN | apply below_drew1) | exact HB.out)) hb); clear HB; have HO255 := n0_; have HB := n1_; clear n0_ n1_; (try clear hb); (try clear hb2); (try clear hk); (try clear hi); (try clear ho0)))
    go_ret2
    exact ⟨by first | rfl | (simp [errW_none, errW_some] <;> rfl) | (simp [*, errW_none, errW_some] <;> rfl), by repeat (first | (with_reducible first | exact HB.out | apply below_alloc | apply pw_below_drewN | apply below_drew1) | exact HB.out)⟩

end Go.Proofs.Ytbdmbkmokhaflaa.Q
end

section
/- layer 6: the document's answer, its last round, and that both answers are the same -/
set_option linter.unusedVariables false
set_option linter.unusedSimpArgs false
namespace Go.Proofs.Ytbdmbkmokhaflaa.Th
open Go.RowKit Go.Proofs.YtbdmbkmokhaflaaW.PrintWords Go.Proofs.YtbdmbkmokhaflaaW.Hb
open Go.Shape6 Go.Proofs.Ytbdmbkmokhaflaa.Q

/-- All blocks close. -/
def H1 (cs : List Ins) : Prop := ∀ a, a < cs.length → isOp (opc cs a) = true → 0 ≤ (xe cs a).2
theorem H1.fin {cs : List Ins} (h : H1 cs) {a : Nat} (ha : a < cs.length) (ho : isOp (opc cs a) = true) : ∃ (x : Int) (e : Nat), cl (opc cs) a cs.length = .fin x e ∧ xe cs a = (x, (e : Int)) := xe_ok ha (h a ha ho)
structure PB (cs : List Ins) (i : Nat) (m : List Int) : Prop where
  b1 : ∀ (a : Nat) (x : Int) (e : Nat), a < i → isOp (opc cs a) = true → cl (opc cs) a cs.length = .fin x e → m[a]? = some (if 0 ≤ x then x else (e : Int)) ∧ m[e]? = some (a : Int) ∧ (0 ≤ x → m[x.toNat]? = some (e : Int))
  b2 : ∀ k, k < cs.length → (k < i → isOp (opc cs k) = false) → (∀ (a : Nat) (x : Int) (e : Nat), a < i → isOp (opc cs a) = true → cl (opc cs) a cs.length = .fin x e → e ≠ k ∧ x ≠ (k : Int)) → m[k]? = some (-1)
theorem end_inj {cs : List Ins} {a b : Nat} {x y : Int} {e : Nat} (ha : a < cs.length) (hb : b < cs.length) (hoa : isOp (opc cs a) = true) (hob : isOp (opc cs b) = true) (h1 : cl (opc cs) a cs.length = .fin x e) (h2 : cl (opc cs) b cs.length = .fin y e) : a = b := by
  have p1 := cl_end ha x e h1
  have p2 := cl_end hb y e h2
  exact run0_inj hoa hob p1.1 p2.1 p1.2.2 p2.2.2
theorem else_inj {cs : List Ins} {a b : Nat} {x : Nat} {e f : Nat} (ha : a < cs.length) (hb : b < cs.length) (hoa : isOp (opc cs a) = true) (hob : isOp (opc cs b) = true) (h1 : cl (opc cs) a cs.length = .fin x e) (h2 : cl (opc cs) b cs.length = .fin x f) : a = b := by
  have p1 := (cl_else ha).2 x e (by omega) h1
  have p2 := (cl_else hb).2 x f (by omega) h2
  exact run0_inj hoa hob p1.1 p2.1 p1.2.2 p2.2.2
theorem PB_ok {cs : List Ins} (hH : H1 cs) (i : Nat) (hi : i ≤ cs.length) : PB cs i (mB cs i) := by
  induction i with
  | zero =>
    exact ⟨fun a x e ha => absurd ha (Nat.not_lt_zero a), fun k hk _ _ => by
      show (List.replicate cs.length (-1 : Int))[k]? = some (-1)
      rw [List.getElem?_replicate, if_pos hk]⟩
  | succ i ih =>
    have hI := ih (by omega)
    have hlen := mB_len cs i
    show PB cs (i + 1) (mBs cs i (mB cs i))
    by_cases ho : opc cs i = 48 ∨ opc cs i = 51
    · have hop := isOp_iff.2 ho
      obtain ⟨x0, e0, hc0, hxe⟩ := hH.fin (by omega) hop
      obtain ⟨f1, f2, f3, f4⟩ := fin_facts (by omega : i < cs.length) hc0
      have hmb : mBs cs i (mB cs i) = if 0 ≤ x0 then ((((mB cs i).set i (e0 : Int)).set e0 (i : Int)).set i x0).set x0.toNat (e0 : Int) else ((mB cs i).set i (e0 : Int)).set e0 (i : Int) := by
        unfold mBs
        rw [if_pos hop, hxe]
        simp only [Int.toNat_natCast]
      have hfar : ∀ k, k ≠ i → k ≠ e0 → (0 ≤ x0 → k ≠ x0.toNat) → (mBs cs i (mB cs i))[k]? = (mB cs i)[k]? := by
        intro k k1 k2 k3
        rw [hmb]
        split
        · rename_i hx
          rw [List.getElem?_set_ne (fun e => k3 hx e.symm), List.getElem?_set_ne (fun e => k1 e.symm), List.getElem?_set_ne (fun e => k2 e.symm), List.getElem?_set_ne (fun e => k1 e.symm)]
        · rw [List.getElem?_set_ne (fun e => k2 e.symm), List.getElem?_set_ne (fun e => k1 e.symm)]
      have hati : (mBs cs i (mB cs i))[i]? = some (if 0 ≤ x0 then x0 else (e0 : Int)) := by
        rw [hmb]
        split
        · rename_i hx
          rcases f4 with f4 | ⟨f4, f5, f6, f7⟩
          · omega
          · rw [List.getElem?_set_ne (by omega), List.getElem?_set_self (by simp; omega)]
        · rw [List.getElem?_set_ne (by omega), List.getElem?_set_self (by omega)]
      have hate : (mBs cs i (mB cs i))[e0]? = some (i : Int) := by
        rw [hmb]
        split
        · rename_i hx
          rcases f4 with f4 | ⟨f4, f5, f6, f7⟩
          · omega
          · rw [List.getElem?_set_ne (by omega), List.getElem?_set_ne (by omega), List.getElem?_set_self (by simp; omega)]
        · rw [List.getElem?_set_self (by simp; omega)]
      have hatx : 0 ≤ x0 → (mBs cs i (mB cs i))[x0.toNat]? = some (e0 : Int) := fun hx => by
        rw [hmb, if_pos hx, List.getElem?_set_self (by simp; omega)]
      refine ⟨fun a x e ha hoa hc => ?_, fun k hk hk1 hk2 => ?_⟩
      · have hoa2 := isOp_iff.1 hoa
        by_cases hai : a = i
        · subst hai
          rw [hc0] at hc
          injection hc with g1 g2
          have g3 : e = e0 := by omega
          subst g1 g3
          exact ⟨hati, hate, hatx⟩
        · obtain ⟨g1, g2, g3⟩ := hI.b1 a x e (by omega) hoa hc
          obtain ⟨d1, d2, d3, d4⟩ := fin_facts (by omega : a < cs.length) hc
          have hee : e ≠ e0 := fun h => by
            subst h
            exact hai (end_inj (by omega) (by omega) hoa hop hc hc0)
          have hx9 : 0 ≤ x0 → opc cs x0.toNat = 49 := fun hx => by
            rcases f4 with f4 | ⟨f4, f5, f6, f7⟩
            · omega
            · exact f6
          refine ⟨?_, ?_, fun hx => ?_⟩
          · rw [hfar a hai (fun h => by rw [h] at hoa2; omega) (fun hx h => by have := hx9 hx; rw [← h] at this; omega)]
            exact g1
          · rw [hfar e (fun h => by rw [h] at d3; omega) hee (fun hx h => by have := hx9 hx; rw [← h] at this; omega)]
            exact g2
          · rcases d4 with d4 | ⟨d4, d5, d6, d7⟩
            · omega
            · rw [hfar x.toNat (fun h => by rw [h] at d6; omega) (fun h => by rw [h] at d6; omega) (fun hx' h => by
                refine hai (else_inj (x := x.toNat) (e := e) (f := e0) (by omega) (by omega) hoa hop (by rw [Int.toNat_of_nonneg hx]; exact hc) (by rw [h, Int.toNat_of_nonneg hx']; exact hc0)))]
              exact g3 hx
      · have hki : k ≠ i := fun h => by
          subst h
          have := hk1 (by omega)
          rw [hop] at this
          cases this
        have h0 := hk2 i x0 e0 (by omega) hop hc0
        rw [hfar k hki (fun h => h0.1 h.symm) (fun hx h => h0.2 (by omega))]
        exact hI.b2 k hk (fun h => hk1 (by omega)) (fun a x e ha hoa hc => hk2 a x e (by omega) hoa hc)
    · have hno := isOp_not ho
      have e1 : mBs cs i (mB cs i) = mB cs i := by
        unfold mBs
        rw [hno, if_neg (by decide)]
      rw [e1]
      refine ⟨fun a x e ha hoa hc => ?_, fun k hk hk1 hk2 => ?_⟩
      · by_cases hai : a = i
        · subst hai
          rw [hno] at hoa
          cases hoa
        · exact hI.b1 a x e (by omega) hoa hc
      · exact hI.b2 k hk (fun h => hk1 (by omega)) (fun a x e ha hoa hc => hk2 a x e (by omega) hoa hc)
theorem rd_get {l : List Int} {k : Nat} {v : Int} (h : l[k]? = some v) : rd l (k : Int) = v := by
  have hk := lt_of_get h
  rw [rdN l k hk]
  rw [List.getElem?_eq_getElem hk] at h
  exact Option.some.inj h
/-- Elses and ends belong to blocks, when the check passes. -/
theorem H2_of {cs : List Ins} (hH : H1 cs) (hC : ∀ k, k < cs.length → ¬ bad cs (mB cs cs.length) k) {k : Nat} (hk : k < cs.length) (ho : opc cs k = 49 ∨ opc cs k = 50) : ∃ (a : Nat) (x : Int) (e : Nat), a < cs.length ∧ isOp (opc cs a) = true ∧ cl (opc cs) a cs.length = .fin x e ∧ ((opc cs k = 49 ∧ x = (k : Int)) ∨ (opc cs k = 50 ∧ e = k)) := by
  refine Classical.byContradiction fun hn => ?_
  have hP := PB_ok hH cs.length (Nat.le_refl _)
  have hb := hP.b2 k hk (fun _ => isOp_not (by omega)) (fun a x e ha hoa hc => ⟨fun he => ?_, fun hx => ?_⟩)
  · exact hC k hk ⟨ho, by rw [rd_get hb]; decide⟩
  · obtain ⟨d1, d2, d3, d4⟩ := fin_facts ha hc
    subst he
    exact hn ⟨a, x, e, ha, hoa, hc, .inr ⟨d3, rfl⟩⟩
  · obtain ⟨d1, d2, d3, d4⟩ := fin_facts ha hc
    rcases d4 with d4 | ⟨d4, d5, d6, d7⟩
    · omega
    · rw [hx, Int.toNat_natCast] at d6
      exact hn ⟨a, x, e, ha, hoa, hc, .inl ⟨d6, hx⟩⟩
/-- Where the scan stops while all blocks close. -/
theorem step_fail {cs : List Ins} (hH : H1 cs) (hC : ∀ k, k < cs.length → ¬ bad cs (mB cs cs.length) k) {i : Nat} (hi : i < cs.length) {m : List Int} {fs : List Fr} (h : scanTo cs i = some (m, fs)) (hs : scanStep cs i m fs = none) :
    (isOp (opc cs i) = true ∧ 8 ≤ fs.length) ∨ (opc cs i = 52 ∧ topLoop cs (fs.map Fr.a) = none) := by
  have hL := scan_L1 h
  have htop : ∀ a x, a < i → isOp (opc cs a) = true → cl (opc cs) a i = .run 0 x → ∃ b, fs.getLast? = some b ∧ b.a = a ∧ b.o = x := by
    intro a x ha hoa hc
    obtain ⟨j, hj, hd⟩ := hL.run_ ha hoa hc
    have hl := lt_of_get hj
    rw [List.getElem?_map] at hj
    obtain ⟨b, hb, hbe⟩ := Option.map_eq_some_iff.1 hj
    rw [List.length_map] at hl hd
    refine ⟨b, ?_, by have := congrArg Prod.fst hbe; exact this, by have := congrArg Prod.snd hbe; exact this⟩
    rw [List.getLast?_eq_getElem?, show fs.length - 1 = j by omega]
    exact hb
  unfold scanStep at hs
  split at hs
  · rename_i ho
    split at hs
    · cases hs
    · exact .inl ⟨isOp_iff.2 ho, by omega⟩
  · rename_i ho
    split at hs
    · rename_i h9
      exfalso
      obtain ⟨a, x, e, h1, h2, h3, h4⟩ := H2_of hH hC hi (.inl h9)
      have h9 : opc cs i = 49 := h9
      rcases h4 with ⟨_, h4⟩ | ⟨h4, _⟩
      · subst h4
        have p := (cl_else h1).2 i e (by omega) h3
        obtain ⟨b, hb, hba, hbo⟩ := htop a (-1) p.1 h2 p.2.2
        obtain ⟨d1, d2, d3, d4⟩ := fin_facts h1 h3
        rw [hb] at hs
        dsimp only at hs
        rw [if_neg (by
          rintro (hh | hh)
          · omega
          · apply hh
            rw [hba]
            rcases d4 with d4 | d4
            · omega
            · exact d4.2.2.2)] at hs
        cases hs
      · omega
    · rename_i h9
      split at hs
      · rename_i h0
        exfalso
        have h0 : opc cs i = 50 := h0
        obtain ⟨a, x, e, h1, h2, h3, h4⟩ := H2_of hH hC hi (.inr h0)
        rcases h4 with ⟨h4, _⟩ | ⟨_, h4⟩
        · omega
        · subst h4
          have p := cl_end h1 x e h3
          obtain ⟨b, hb, _⟩ := htop a x p.1 h2 p.2.2
          rw [hb] at hs
          cases hs
      · split at hs
        · rename_i h52
          split at hs
          · rename_i ht
            exact .inr ⟨h52, ht⟩
          · cases hs
        · cases hs
/-- What holds when the scan ends well. -/
theorem scan_good {cs : List Ins} {m : List Int} {fs : List Fr} (h : scanTo cs cs.length = some (m, fs)) (hl : fs.length = 0) : H1 cs ∧ ∀ k, k < cs.length → ¬ bad cs (mB cs cs.length) k := by
  have hfs : fs = [] := List.eq_nil_of_length_eq_zero hl
  subst hfs
  have hL := scan_L1 h
  have hH : H1 cs := by
    intro a ha ho
    obtain ⟨x, e, h1, h2⟩ := hL.cl_ a ha ho (fun j x hj => by simp at hj)
    rw [xe_of h1]
    exact h2
  refine ⟨hH, fun k hk hb => ?_⟩
  have hP := PB_ok hH cs.length (Nat.le_refl _)
  rcases hb with ⟨h9 | h0, hlt⟩
  · obtain ⟨a, h1, h2, h3⟩ := hL.el k hk h9
    rcases h3 with ⟨d, h3⟩ | ⟨e, h3, h4⟩
    · obtain ⟨j, hj, _⟩ := hL.run_ (by omega) h2 h3
      simp at hj
    · obtain ⟨n, rfl⟩ := Int.eq_ofNat_of_zero_le h4
      have g := (hP.b1 a k n (by omega) h2 h3).2.2 (by omega)
      rw [Int.toNat_natCast] at g
      rw [rd_get g] at hlt
      omega
  · obtain ⟨a, h1, h2, x, h3⟩ := hL.en k hk h0
    have g := (hP.b1 a x k (by omega) h2 h3).2.1
    rw [rd_get g] at hlt
    omega
theorem all_closed {cs : List Ins} (hH : H1 cs) {m : List Int} {fs : List Fr} (h : scanTo cs cs.length = some (m, fs)) : fs.length = 0 := by
  refine Classical.byContradiction fun hn => ?_
  have hL := scan_L1 h
  have hj : (fs.map pr)[0]? = some ((fs[0]'(by omega)).a, (fs[0]'(by omega)).o) := by
    rw [List.getElem?_map, List.getElem?_eq_getElem (by omega)]
    rfl
  obtain ⟨h1, h2, h3⟩ := hL.fr 0 _ _ hj
  obtain ⟨x, e, h4, _⟩ := hH.fin h1 h2
  rw [h3] at h4
  cases h4
end Go.Proofs.Ytbdmbkmokhaflaa.Th
end

section
/- layer 6: the document's last round over the scan: both Matches are the same -/
set_option linter.unusedVariables false
set_option linter.unusedSimpArgs false
namespace Go.Proofs.Ytbdmbkmokhaflaa.Th
open Go.RowKit Go.Proofs.YtbdmbkmokhaflaaW.PrintWords Go.Proofs.YtbdmbkmokhaflaaW.Hb
open Go.Shape6 Go.Proofs.Ytbdmbkmokhaflaa.Q

def isOpen (cs : List Ins) (i a : Nat) : Bool := isOp (opc cs a) && decide ((i : Int) ≤ (xe cs a).2)
def openL (cs : List Ins) (i : Nat) : List Nat := (List.range i).filter (isOpen cs i)
def toI (l : List Nat) : List Int := l.map (fun (n : Nat) => (n : Int))
structure DI (cs : List Ins) (i : Nat) (m : List Int) : Prop where
  len : m.length = cs.length
  nl : ∀ k, k < cs.length → opc cs k ≠ 52 → m[k]? = (mB cs cs.length)[k]?
  lt : ∀ k, k < i → opc cs k = 52 → ∃ (a : Nat) (x : Int) (e : Nat), Tgt cs k a ∧ cl (opc cs) a cs.length = .fin x e ∧ m[k]? = some (e : Int)
  ge : ∀ k, i ≤ k → k < cs.length → opc cs k = 52 → m[k]? = some (-1)
theorem DI.zero {cs : List Ins} (hH : H1 cs) : DI cs 0 (mB cs cs.length) := by
  refine ⟨mB_len _ _, fun _ _ _ => rfl, fun k hk => absurd hk (Nat.not_lt_zero k), fun k _ hk h52 => ?_⟩
  refine (PB_ok hH cs.length (Nat.le_refl _)).b2 k hk (fun _ => isOp_not (by omega)) (fun a x e ha hoa hc => ⟨fun h => ?_, fun h => ?_⟩)
  · obtain ⟨d1, d2, d3, d4⟩ := fin_facts ha hc
    rw [h] at d3
    omega
  · obtain ⟨d1, d2, d3, d4⟩ := fin_facts ha hc
    rcases d4 with d4 | ⟨d4, d5, d6, d7⟩
    · omega
    · rw [h, Int.toNat_natCast] at d6
      omega
theorem last_ev {cs : List Ins} {i : Nat} {m : List Int} (hH : H1 cs) (hD : DI cs i m) {a : Nat} (ha : a < cs.length) (ho : isOp (opc cs a) = true) : weighhouseref06_last.f cs m (a : Int) = some (xe cs a).2 := by
  obtain ⟨x, e, hc, hxe⟩ := hH.fin ha ho
  obtain ⟨d1, d2, d3, d4⟩ := fin_facts ha hc
  obtain ⟨g1, g2, g3⟩ := (PB_ok hH cs.length (Nat.le_refl _)).b1 a x e ha ho hc
  have hl := hD.len
  have ho2 := isOp_iff.1 ho
  rw [hxe]
  unfold weighhouseref06_last.f
  rw [if_pos (by omega), if_pos (by omega), rd_get ((hD.nl a ha (by omega)).trans g1)]
  by_cases hx : 0 ≤ x
  · rcases d4 with d4 | ⟨d4, d5, d6, d7⟩
    · omega
    · obtain ⟨n, rfl⟩ := Int.eq_ofNat_of_zero_le hx
      rw [Int.toNat_natCast] at d6 g3
      rw [if_pos hx, if_pos hx, if_pos (by omega), rdI cs n (by omega), if_pos d6, if_pos (by omega), rd_get ((hD.nl n (by omega) (by omega)).trans (g3 hx))]
  · rw [if_neg hx, if_pos (by omega), if_pos (by omega), rdI cs e (by omega), if_neg (by omega)]
theorem opened_l0 {cs : List Ins} (hm : cs.length ≤ 1048576) {i0 : Nat} {m : List Int} (hH : H1 cs) (hD : DI cs i0 m) (i : Nat) (hi : i ≤ cs.length) (q : Nat) : ∀ j, i - j = q → j ≤ i →
    Ev (fun k => weighhouseref06_opened.l0 k cs m (i : Int) (toI ((List.range j).filter (isOpen cs i))) (j : Int)) (toI (openL cs i)) := by
  induction q with
  | zero =>
    intro j hq hj
    have e : j = i := by omega
    subst e
    refine Ev.step (f := fun _ => some (toI (openL cs j))) (fun k => ?_) (Ev.now _)
    simp only [weighhouseref06_opened.l0]
    rw [if_neg (by omega)]
    rfl
  | succ q ih =>
    intro j hq hj
    have hjn : j < cs.length := by omega
    have hnext := ih (j + 1) (by omega) (by omega)
    rw [List.range_succ, List.filter_append] at hnext
    have hw : wrap64 ((j : Int) + 1) = ((j + 1 : Nat) : Int) := by rw [w64 (by omega) (by omega)]; rfl
    have hacc : (toI ((List.range j).filter (isOpen cs i))).length ≤ j := by
      unfold toI
      rw [List.length_map]
      exact Nat.le_trans (List.length_filter_le _ _) (by simp)
    refine Ev.step (fun k => ?_) hnext
    simp only [weighhouseref06_opened.l0]
    rw [if_pos (by omega), if_pos (by omega), if_pos (by omega), rdI cs j hjn, hw]
    by_cases ho : opc cs j = 48 ∨ opc cs j = 51
    · have hop := isOp_iff.2 ho
      rw [last_ev hH hD hjn hop]
      have hbr : ∀ X : Option (List Int), (if opc cs j = 48 then X else if opc cs j = 51 then X else (weighhouseref06_opened.l0 k cs m (i : Int) (toI ((List.range j).filter (isOpen cs i))) ((j + 1 : Nat) : Int))) = X := fun X => by
        rcases ho with h | h
        · rw [if_pos h]
        · rw [if_neg (by omega), if_pos h]
      rw [hbr, Option.bind_some]
      by_cases hge : (xe cs j).2 ≥ (i : Int)
      · have hf : isOpen cs i j = true := by unfold isOpen; rw [hop, decide_eq_true hge]; rfl
        rw [if_pos hge, if_pos (by omega)]
        congr 1
        simp [toI, hf]
      · have hf : isOpen cs i j = false := by unfold isOpen; rw [hop, decide_eq_false hge]; rfl
        rw [if_neg hge]
        congr 1
        simp [toI, hf]
    · have hf : isOpen cs i j = false := by unfold isOpen; rw [isOp_not ho]; rfl
      rw [if_neg (by omega), if_neg (by omega)]
      congr 1
      simp [toI, hf]
theorem opened_ev {cs : List Ins} (hm : cs.length ≤ 1048576) {i0 : Nat} {m : List Int} (hH : H1 cs) (hD : DI cs i0 m) (i : Nat) (hi : i ≤ cs.length) : Ev (fun k => weighhouseref06_opened.f k cs m (i : Int)) (toI (openL cs i)) :=
  opened_l0 hm hH hD i hi i 0 (by omega) (Nat.zero_le _)
theorem sorted_ext {l l' : List Nat} (h : l.Pairwise (· < ·)) (h' : l'.Pairwise (· < ·)) (he : ∀ x, x ∈ l ↔ x ∈ l') : l = l' := by
  induction l generalizing l' with
  | nil =>
    cases l' with
    | nil => rfl
    | cons y l' => exact absurd ((he y).2 (List.mem_cons_self ..)) (by simp)
  | cons x l ih =>
    cases l' with
    | nil => exact absurd ((he x).1 (List.mem_cons_self ..)) (by simp)
    | cons y l' =>
      obtain ⟨h1, h2⟩ := List.pairwise_cons.1 h
      obtain ⟨h3, h4⟩ := List.pairwise_cons.1 h'
      have exy : x = y := by
        rcases List.mem_cons.1 ((he x).1 (List.mem_cons_self ..)) with e | e
        · exact e
        · rcases List.mem_cons.1 ((he y).2 (List.mem_cons_self ..)) with e2 | e2
          · exact e2.symm
          · have := h3 x e
            have := h1 y e2
            omega
      subst exy
      congr 1
      refine ih h2 h4 (fun z => ⟨fun hz => ?_, fun hz => ?_⟩)
      · rcases List.mem_cons.1 ((he z).1 (List.mem_cons_of_mem _ hz)) with e | e
        · have := h1 z hz
          omega
        · exact e
      · rcases List.mem_cons.1 ((he z).2 (List.mem_cons_of_mem _ hz)) with e | e
        · have := h3 z hz
          omega
        · exact e
theorem openL_eq {cs : List Ins} (hH : H1 cs) {i : Nat} (hi : i ≤ cs.length) {m : List Int} {fs : List Fr} (h : scanTo cs i = some (m, fs)) : openL cs i = fs.map Fr.a := by
  have hL := scan_L1 h
  have hget : ∀ (j : Nat) (b : Fr), fs[j]? = some b → (fs.map pr)[j]? = some (b.a, b.o) := fun j b hb => by rw [List.getElem?_map, hb]; rfl
  refine sorted_ext ?_ ?_ (fun a => ?_)
  · exact List.Pairwise.filter _ List.pairwise_lt_range
  · rw [List.pairwise_iff_getElem]
    intro j j' hj hj' hjj
    rw [List.getElem_map, List.getElem_map]
    rw [List.length_map] at hj hj'
    exact hL.up j j' _ _ _ _ hjj (hget j _ (List.getElem?_eq_getElem hj)) (hget j' _ (List.getElem?_eq_getElem hj'))
  · unfold openL isOpen
    rw [List.mem_filter, List.mem_range, Bool.and_eq_true, decide_eq_true_iff, List.mem_map]
    constructor
    · rintro ⟨ha, hop, he⟩
      obtain ⟨x, e, hc, hxe⟩ := hH.fin (by omega) hop
      rw [hxe] at he
      have he : (i : Int) ≤ (e : Int) := he
      refine Classical.byContradiction fun hn => ?_
      obtain ⟨y, f, hf, hf0⟩ := hL.cl_ a ha hop (fun j x' hj => by
        rw [List.getElem?_map] at hj
        obtain ⟨b, hb, hbe⟩ := Option.map_eq_some_iff.1 hj
        exact hn ⟨b, List.mem_of_getElem? hb, congrArg Prod.fst hbe⟩)
      obtain ⟨f', rfl⟩ := Int.eq_ofNat_of_zero_le hf0
      have h2 := cl_fin_mono hf ha hi
      rw [hc] at h2
      injection h2 with h3 h4
      have := (cl_end ha y f' hf).2.1
      omega
    · rintro ⟨b, hb, hba⟩
      obtain ⟨j, hj, hje⟩ := List.getElem_of_mem hb
      obtain ⟨f1, f2, f3⟩ := hL.fr j b.a b.o (hget j b (by rw [List.getElem?_eq_getElem hj, hje]))
      rw [hba] at f1 f2 f3
      obtain ⟨x, e, hc, hxe⟩ := hH.fin (by omega) f2
      refine ⟨f1, f2, ?_⟩
      rw [hxe]
      show (i : Int) ≤ (e : Int)
      rcases Nat.lt_or_ge e i with hlt | hge
      · have p := cl_end (by omega) x e hc
        have h4 : cl (opc cs) a (e + 1) = .fin x e := by
          have q1 := cl_succ (opc cs) a e p.1
          rw [p.2.2] at q1
          obtain ⟨d1, d2, d3, d4⟩ := fin_facts (by omega : a < cs.length) hc
          unfold clS at q1
          dsimp only at q1
          rw [isOp_not (by omega), if_neg (by decide), if_neg (by omega), if_pos d3, if_pos rfl] at q1
          exact q1
        have h5 := cl_fin_mono h4 (by omega) (by omega : e + 1 ≤ i)
        rw [f3] at h5
        cases h5
      · omega
def lastLoop (cs : List Ins) (l : List Nat) : Option Nat := l.reverse.find? (fun a => opc cs a == 51)
def vL (cs : List Ins) (l : List Nat) : Int := match lastLoop cs l with | none => -1 | some a => (xe cs a).2
theorem lastLoop_snoc (cs : List Ins) (l : List Nat) (a : Nat) : lastLoop cs (l ++ [a]) = if opc cs a = 51 then some a else lastLoop cs l := by
  unfold lastLoop
  rw [List.reverse_append, List.reverse_singleton, List.singleton_append, List.find?_cons]
  by_cases h : opc cs a = 51
  · rw [if_pos h, h]
    rfl
  · rw [if_neg h, show (opc cs a == 51) = false by simp; exact h]
theorem loopAt_iff {cs : List Ins} {ats : List Nat} {j : Nat} (hj : j < ats.length) : loopAt cs ats j = (opc cs ats[j] == 51) := by
  unfold loopAt
  rw [List.getElem?_eq_getElem hj, Option.getD_some]
  show decide (opc cs ats[j] = 51) = _
  rw [Bool.beq_eq_decide_eq]
theorem topLoop_last (cs : List Ins) (ats : List Nat) : (topLoop cs ats = none → lastLoop cs ats = none) ∧ ∀ j, topLoop cs ats = some j → ∃ h : j < ats.length, lastLoop cs ats = some ats[j] := by
  constructor
  · intro h
    unfold lastLoop
    rw [List.find?_eq_none]
    intro a ha
    rw [List.mem_reverse] at ha
    obtain ⟨j, hj, rfl⟩ := List.getElem_of_mem ha
    unfold topLoop at h
    rw [List.find?_eq_none] at h
    have := h j (by rw [List.mem_reverse, List.mem_range]; exact hj)
    rw [loopAt_iff hj] at this
    exact this
  · intro j h
    have hj := topLoop_lt h
    refine ⟨hj, ?_⟩
    unfold topLoop at h
    rw [List.find?_eq_some_iff_append] at h
    obtain ⟨h1, pre, bs, h2, h3⟩ := h
    unfold lastLoop
    rw [List.find?_eq_some_iff_append]
    rw [loopAt_iff hj] at h1
    refine ⟨h1, (ats.drop (j + 1)).reverse, (ats.take j).reverse, ?_, fun a ha => ?_⟩
    · conv => lhs; rw [← List.take_append_drop (j + 1) ats, List.reverse_append, List.take_succ_eq_append_getElem hj, List.reverse_append]
      simp
    · rw [List.mem_reverse] at ha
      obtain ⟨q, hq, rfl⟩ := List.getElem_of_mem ha
      rw [List.length_drop] at hq
      rw [List.getElem_drop]
      have hmem : j + 1 + q ∈ pre := by
        have hall : j + 1 + q ∈ (List.range ats.length).reverse := by rw [List.mem_reverse, List.mem_range]; omega
        rw [h2] at hall
        rcases List.mem_append.1 hall with h4 | h4
        · exact h4
        · have hpw : ((List.range ats.length).reverse).Pairwise (· > ·) := by
            rw [List.pairwise_reverse]
            exact List.pairwise_lt_range
          rw [h2, List.pairwise_append] at hpw
          have hp2 := (List.pairwise_cons.1 hpw.2.1).1
          rcases List.mem_cons.1 h4 with h5 | h5
          · omega
          · have := hp2 _ h5
            omega
      have := h3 _ hmem
      rw [loopAt_iff (by omega)] at this
      exact this
theorem l4_ev {cs : List Ins} (hm : cs.length ≤ 1048576) {i : Nat} (hi : i < cs.length) {m : List Int} (hH : H1 cs) (hD : DI cs i m) (L : List Nat) (hL : ∀ a ∈ L, a < i ∧ isOp (opc cs a) = true) (hll : L.length ≤ 1048576) (r : List Int × Int) (hno : vL cs L < 0 → r = ([], 31)) (hok : ¬ vL cs L < 0 → Ev (fun k => weighhouseref06_Match.l3 k cs (m.set i (vL cs L)) ((i + 1 : Nat) : Int)) r) (q : Nat) : ∀ j, L.length - j = q → j ≤ L.length →
    Ev (fun k => weighhouseref06_Match.l4 k cs (m.set i (vL cs (L.take j))) (i : Int) (toI L) (j : Int)) r := by
  have hlen := hD.len
  have htl : (toI L).length = L.length := by unfold toI; rw [List.length_map]
  have hw : wrap64 ((i : Int) + 1) = ((i + 1 : Nat) : Int) := by rw [w64 (by omega) (by omega)]; rfl
  induction q with
  | zero =>
    intro j hq hj
    have e : j = L.length := by omega
    subst e
    rw [List.take_length]
    have hrd : rd (m.set i (vL cs L)) (i : Int) = vL cs L := rd_get (List.getElem?_set_self (by omega))
    by_cases hv : vL cs L < 0
    · rw [hno hv]
      refine Ev.step (f := fun _ => some ([], 31)) (fun k => ?_) (Ev.now _)
      simp only [weighhouseref06_Match.l4]
      rw [if_neg (by omega), if_pos (by omega), if_pos (by rw [List.length_set]; omega), hrd, if_pos hv]
    · refine Ev.step (fun k => ?_) (hok hv)
      simp only [weighhouseref06_Match.l4]
      rw [if_neg (by omega), if_pos (by omega), if_pos (by rw [List.length_set]; omega), hrd, if_neg hv, hw]
  | succ q ih =>
    intro j hq hj
    have hjl : j < L.length := by omega
    have hnext := ih (j + 1) (by omega) (by omega)
    have hwj : wrap64 ((j : Int) + 1) = ((j + 1 : Nat) : Int) := by rw [w64 (by omega) (by omega)]; rfl
    rw [List.take_succ_eq_append_getElem hjl] at hnext
    obtain ⟨h1, h2⟩ := hL L[j] (List.getElem_mem hjl)
    have hrl : rd (toI L) (j : Int) = (L[j] : Int) := rd_get (by unfold toI; rw [List.getElem?_map, List.getElem?_eq_getElem hjl]; rfl)
    refine Ev.step (fun k => ?_) hnext
    simp only [weighhouseref06_Match.l4]
    rw [if_pos (by omega), if_pos (by omega), hrl, if_pos (by omega), if_pos (by omega), rdI cs L[j] (by omega)]
    by_cases h51 : opc cs L[j] = 51
    · obtain ⟨x, e, hc, hxe⟩ := hH.fin (by omega) h2
      obtain ⟨d1, d2, d3, d4⟩ := fin_facts (by omega : L[j] < cs.length) hc
      have g1 := ((PB_ok hH cs.length (Nat.le_refl _)).b1 L[j] x e (by omega) h2 hc).1
      have hx : ¬ 0 ≤ x := by
        rcases d4 with d4 | d4 <;> omega
      rw [if_neg hx] at g1
      have hrm : rd (m.set i (vL cs (L.take j))) (L[j] : Int) = (e : Int) := rd_get (by
        rw [List.getElem?_set_ne (by omega)]
        exact (hD.nl L[j] (by omega) (by omega)).trans g1)
      have hv : vL cs (L.take j ++ [L[j]]) = (e : Int) := by
        unfold vL
        rw [lastLoop_snoc, if_pos h51]
        show (xe cs L[j]).2 = _
        rw [hxe]
      rw [if_pos h51, if_pos (by rw [List.length_set]; omega), if_pos (by omega), if_pos (by rw [List.length_set]; omega), hrm, Int.toNat_natCast, List.set_set, hwj, hv]
    · have hv : vL cs (L.take j ++ [L[j]]) = vL cs (L.take j) := by
        unfold vL
        rw [lastLoop_snoc, if_neg h51]
      rw [if_neg h51, hwj, hv]
def matchRes (cs : List Ins) : List Int × Int := match scanAll cs with | none => ([], 31) | some m => (m, 0)
theorem scanAll_some {cs : List Ins} {m : List Int} {fs : List Fr} (h : scanTo cs cs.length = some (m, fs)) (hl : fs.length = 0) : scanAll cs = some m := by
  unfold scanAll
  rw [h]
  show (if fs.length = 0 then some m else none) = some m
  rw [if_pos hl]
/-- Both end with the same row. -/
theorem same_row {cs : List Ins} (hH : H1 cs) {m m' : List Int} {fs : List Fr} (h : scanTo cs cs.length = some (m, fs)) (hl : fs.length = 0) (hD : DI cs cs.length m') : m' = m := by
  have hfs : fs = [] := List.eq_nil_of_length_eq_zero hl
  subst hfs
  have hL := scan_L1 h
  have h2 := scan_L2 (Nat.le_refl _) h
  have hP := PB_ok hH cs.length (Nat.le_refl _)
  have hlm := (scanTo_ok h).1
  apply List.ext_getElem?
  intro k
  rcases Nat.lt_or_ge k cs.length with hk | hk
  · by_cases h52 : opc cs k = 52
    · obtain ⟨a, x, e, t1, t2, t3⟩ := hD.lt k hk h52
      obtain ⟨a', s1, s2⟩ := h2.m4 k hk h52
      have := Tgt.det t1 s1
      subst this
      rcases s2 with ⟨b, hb, _⟩ | ⟨y, f, s3, s4⟩
      · cases hb
      · rw [t2] at s3
        injection s3 with s5 s6
        rw [t3, s4, s6]
    · rw [hD.nl k hk h52]
      by_cases hop : opc cs k = 48 ∨ opc cs k = 51
      · obtain ⟨x, e, hc, _⟩ := hH.fin hk (isOp_iff.2 hop)
        rw [(hP.b1 k x e hk (isOp_iff.2 hop) hc).1, h2.m1 k hk (isOp_iff.2 hop), hc]
        rfl
      · by_cases h9 : opc cs k = 49
        · obtain ⟨a, p1, p2, p3⟩ := hL.el k hk h9
          rcases p3 with ⟨d, p3⟩ | ⟨e, p3, p4⟩
          · obtain ⟨j, hj, _⟩ := hL.run_ (by omega) p2 p3
            simp at hj
          · obtain ⟨n, rfl⟩ := Int.eq_ofNat_of_zero_le p4
            have g := (hP.b1 a k n (by omega) p2 p3).2.2 (by omega)
            have g' := (h2.m2 a k n (by omega) p2 p3).2 (by omega)
            rw [Int.toNat_natCast] at g g'
            rw [g, g']
        · by_cases h0 : opc cs k = 50
          · obtain ⟨a, p1, p2, x, p3⟩ := hL.en k hk h0
            rw [(hP.b1 a x k (by omega) p2 p3).2.1, (h2.m2 a x k (by omega) p2 p3).1]
          · rw [h2.m5 k hk (by unfold special; omega)]
            refine hP.b2 k hk (fun _ => isOp_not hop) (fun a x e ha hoa hc => ⟨fun he => ?_, fun hx => ?_⟩)
            · obtain ⟨d1, d2, d3, d4⟩ := fin_facts ha hc
              rw [he] at d3
              exact h0 d3
            · obtain ⟨d1, d2, d3, d4⟩ := fin_facts ha hc
              rcases d4 with d4 | ⟨d4, d5, d6, d7⟩
              · omega
              · rw [hx, Int.toNat_natCast] at d6
                exact h9 d6
  · rw [List.getElem?_eq_none (by rw [hD.len]; exact hk), List.getElem?_eq_none (by rw [hlm]; exact hk)]
theorem l3_ev {cs : List Ins} (hm : cs.length ≤ 1048576) (hH : H1 cs) (hC : ∀ k, k < cs.length → ¬ bad cs (mB cs cs.length) k) (q : Nat) : ∀ (i : Nat) (m4 m : List Int) (fs : List Fr), cs.length - i = q → i ≤ cs.length → scanTo cs i = some (m, fs) → DI cs i m4 →
    Ev (fun k => weighhouseref06_Match.l3 k cs m4 (i : Int)) (matchRes cs) := by
  induction q with
  | zero =>
    intro i m4 m fs hq hi h hD
    have e : i = cs.length := by omega
    subst e
    have hl := all_closed hH h
    have e1 : matchRes cs = (m4, 0) := by
      unfold matchRes
      rw [scanAll_some h hl, same_row hH h hl hD]
    rw [e1]
    refine Ev.step (f := fun _ => some (m4, 0)) (fun k => ?_) (Ev.now _)
    simp only [weighhouseref06_Match.l3]
    rw [if_neg (by omega)]
  | succ q ih =>
    intro i m4 m fs hq hi h hD
    have hil : i < cs.length := by omega
    have hok := scanTo_ok h
    have hop := openL_eq hH hi h
    have hw : wrap64 ((i : Int) + 1) = ((i + 1 : Nat) : Int) := by rw [w64 (by omega) (by omega)]; rfl
    have htl : (toI (openL cs i)).length = fs.length := by unfold toI; rw [List.length_map, hop, List.length_map]
    have hnone : scanStep cs i m fs = none → matchRes cs = ([], 31) := fun hs => by
      unfold matchRes
      rw [scanAll_none hil h hs]
    have hgo : ∀ m4', (∀ k, k < cs.length → k ≠ i → m4'[k]? = m4[k]?) → m4'.length = cs.length → (opc cs i ≠ 52 → m4'[i]? = m4[i]?) → (opc cs i = 52 → ∃ (a : Nat) (x : Int) (e : Nat), Tgt cs i a ∧ cl (opc cs) a cs.length = .fin x e ∧ m4'[i]? = some (e : Int)) → scanStep cs i m fs ≠ none → Ev (fun k => weighhouseref06_Match.l3 k cs m4' ((i + 1 : Nat) : Int)) (matchRes cs) := by
      intro m4' g1 g2 g3 g4 g5
      obtain ⟨⟨m', fs'⟩, hs⟩ := Option.ne_none_iff_exists'.1 g5
      refine ih (i + 1) m4' m' fs' (by omega) (by omega) ((scanTo_succ h).trans hs) ⟨g2, fun k hk h52 => ?_, fun k hk h52 => ?_, fun k hk hk2 h52 => ?_⟩
      · by_cases hki : k = i
        · rw [hki] at h52 ⊢
          rw [g3 h52]
          exact hD.nl i hil h52
        · rw [g1 k hk hki]
          exact hD.nl k hk h52
      · by_cases hki : k = i
        · rw [hki] at h52 ⊢
          exact g4 h52
        · obtain ⟨a, x, e, t1, t2, t3⟩ := hD.lt k (by omega) h52
          exact ⟨a, x, e, t1, t2, by rw [g1 k (by omega) hki]; exact t3⟩
      · rw [g1 k hk2 (by omega)]
        exact hD.ge k (by omega) hk2 h52
    -- the part behind the count
    have hj6 : ∀ n : Nat, (n > 8 → scanStep cs i m fs = none) → (n ≤ 8 → ¬ (isOp (opc cs i) = true ∧ 8 ≤ fs.length)) → Ev (fun k => weighhouseref06_Match.j6 k cs m4 (i : Int) (toI (openL cs i)) (n : Int)) (matchRes cs) := by
      intro n hn1 hn2
      by_cases hn : n > 8
      · rw [hnone (hn1 hn)]
        refine Ev.step (f := fun _ => some ([], 31)) (fun k => ?_) (Ev.now _)
        simp only [weighhouseref06_Match.j6]
        rw [if_pos (by omega)]
      · have hnd := hn2 (by omega)
        by_cases h52 : opc cs i = 52
        · have hset : m4.set i (-1) = m4 := by
            have hgi := hD.ge i (Nat.le_refl _) hil h52
            apply List.ext_getElem?
            intro k
            rw [List.getElem?_set]
            split
            · rename_i e
              subst e
              rw [if_pos (by rw [hD.len]; exact hil), hgi]
            · rfl
          have hv0 : vL cs ((openL cs i).take 0) = -1 := rfl
          refine Ev.step (f := fun k => weighhouseref06_Match.l4 k cs (m4.set i (vL cs ((openL cs i).take 0))) (i : Int) (toI (openL cs i)) ((0 : Nat) : Int)) (fun k => ?_) (l4_ev hm hil hH hD (openL cs i) (fun a ha => ?_) (by rw [hop, List.length_map]; have := hok.2.1; omega) _ (fun hv => ?_) (fun hv => ?_) _ 0 rfl (Nat.zero_le _))
          · simp only [weighhouseref06_Match.j6]
            rw [if_neg (by omega), if_pos (by omega), if_pos (by omega), rdI cs i hil, if_pos h52, hv0, hset]
            rfl
          · unfold openL isOpen at ha
            rw [List.mem_filter, List.mem_range, Bool.and_eq_true] at ha
            exact ⟨ha.1, ha.2.1⟩
          · apply hnone
            cases ht : topLoop cs (fs.map Fr.a) with
            | none =>
              unfold scanStep
              rw [if_neg (by show ¬ (opc cs i = 48 ∨ opc cs i = 51); omega), if_neg (by show ¬ opc cs i = 49; omega), if_neg (by show ¬ opc cs i = 50; omega), if_pos h52, ht]
            | some j =>
              obtain ⟨hjl, hll⟩ := (topLoop_last cs _).2 j ht
              exfalso
              unfold vL at hv
              rw [hop, hll] at hv
              have hmem : (fs.map Fr.a)[j] ∈ openL cs i := by rw [hop]; exact List.getElem_mem _
              unfold openL isOpen at hmem
              rw [List.mem_filter, List.mem_range, Bool.and_eq_true] at hmem
              have := hH _ (by omega) hmem.2.1
              have hv : (xe cs (fs.map Fr.a)[j]).2 < 0 := hv
              omega
          · cases ht : topLoop cs (fs.map Fr.a) with
            | none =>
              have := (topLoop_last cs _).1 ht
              exfalso
              apply hv
              unfold vL
              rw [hop, this]
              show (-1 : Int) < 0
              decide
            | some j =>
              obtain ⟨hjl, hll⟩ := (topLoop_last cs _).2 j ht
              have hjf : j < fs.length := by rw [List.length_map] at hjl; exact hjl
              have hmem : (fs.map Fr.a)[j] ∈ openL cs i := by rw [hop]; exact List.getElem_mem _
              unfold openL isOpen at hmem
              rw [List.mem_filter, List.mem_range, Bool.and_eq_true] at hmem
              obtain ⟨x, e, hc, hxe⟩ := hH.fin (by omega) hmem.2.1
              have hve : vL cs (openL cs i) = (e : Int) := by
                unfold vL
                rw [hop, hll]
                show (xe cs (fs.map Fr.a)[j]).2 = _
                rw [hxe]
              refine hgo _ (fun k hk hki => List.getElem?_set_ne (fun e => hki e.symm)) (by rw [List.length_set]; exact hD.len) (fun h => absurd h52 h) (fun _ => ⟨(fs.map Fr.a)[j], x, e, ⟨m, fs, j, fs[j], h, ht, List.getElem?_eq_getElem hjf, by rw [List.getElem_map]⟩, hc, ?_⟩) (fun hs => ?_)
              · rw [List.getElem?_set_self (by rw [hD.len]; exact hil), hve]
              · rcases step_fail hH hC hil h hs with h6 | h6
                · exact hnd h6
                · rw [ht] at h6
                  cases h6.2
        · refine Ev.step (fun k => ?_) (hgo m4 (fun _ _ _ => rfl) hD.len (fun _ => rfl) (fun h => absurd h h52) (fun hs => ?_))
          · simp only [weighhouseref06_Match.j6]
            rw [if_neg (by omega), if_pos (by omega), if_pos (by omega), rdI cs i hil, if_neg h52, hw]
          · rcases step_fail hH hC hil h hs with h6 | h6
            · exact hnd h6
            · exact h52 h6.1
    have hj5 : ∀ b : Bool, b = isOp (opc cs i) → Ev (fun k => weighhouseref06_Match.j5 k cs m4 (i : Int) (toI (openL cs i)) (((toI (openL cs i)).length : Nat) : Int) b) (matchRes cs) := by
      intro b hb
      rw [htl]
      cases b with
      | true =>
        refine Ev.step (f := fun k => weighhouseref06_Match.j6 k cs m4 (i : Int) (toI (openL cs i)) ((fs.length + 1 : Nat) : Int)) (fun k => ?_) (hj6 _ (fun hn => ?_) (fun hn hh => by omega))
        · simp only [weighhouseref06_Match.j5]
          rw [if_true, w64 (by have := hok.2.1; omega) (by have := hok.2.1; omega)]
          rfl
        · unfold scanStep
          rw [if_pos (isOp_iff.1 hb.symm), if_neg (by omega)]
      | false =>
        refine Ev.step (f := fun k => weighhouseref06_Match.j6 k cs m4 (i : Int) (toI (openL cs i)) (fs.length : Int)) (fun k => ?_) (hj6 _ (fun hn => by have := hok.2.1; omega) (fun hn hh => by rw [← hb] at hh; cases hh.1))
        simp only [weighhouseref06_Match.j5]
        rw [if_neg (by decide)]
    refine Ev.step (f := fun k => (weighhouseref06_opened.f k cs m4 (i : Int)).bind fun t240 => (if 0 ≤ (i : Int) then (if ((rd_T31 cs (i : Int)).f0) = 48 then (weighhouseref06_Match.j5 k cs m4 (i : Int) t240 (t240.length : Int) true) else (weighhouseref06_Match.j5 k cs m4 (i : Int) t240 (t240.length : Int) (((rd_T31 cs (i : Int)).f0) == 51))) else (none))) (fun k => ?_) (Ev.bind (opened_ev hm hH hD i hi) ?_)
    · simp only [weighhouseref06_Match.l3]
      rw [if_pos (by omega)]
    · refine Ev.congr (fun k => ?_) (hj5 (isOp (opc cs i)) rfl)
      rw [if_pos (by omega), rdI cs i hil]
      by_cases h48 : opc cs i = 48
      · rw [if_pos h48, isOp_iff.2 (.inl h48)]
      · rw [if_neg h48]
        congr 1
        by_cases h51 : opc cs i = 51
        · rw [isOp_iff.2 (.inr h51), h51]
          rfl
        · rw [isOp_not (by omega)]
          simp [h51]
theorem ref_match (cs : List Ins) (hm : cs.length ≤ 1048576) : Ev (fun k => weighhouseref06_Match.f k cs) (matchRes cs) := by
  have hbig : cs.length ≤ 4611686018427387904 := by omega
  have hA : ∀ r, Ev (fun k => weighhouseref06_Match.l1 k cs (mB cs 0) ((0 : Nat) : Int)) r → Ev (fun k => weighhouseref06_Match.f k cs) r := fun r hr => by
    have h := A_ok cs hbig r hr cs.length 0 (by omega) (Nat.zero_le _)
    refine Ev.congr (fun k => ?_) h
    unfold weighhouseref06_Match.f
    rw [if_pos (by omega), if_pos (by omega), Int.toNat_natCast]
    simp
  by_cases hH : H1 cs
  · refine hA _ (B_ok cs hbig _ hH ?_ cs.length 0 (by omega) (Nat.zero_le _))
    by_cases hC : ∀ k, k < cs.length → ¬ bad cs (mB cs cs.length) k
    · refine C_ok cs hbig _ (mB_len _ _) _ hC ?_ cs.length 0 (by omega) (Nat.zero_le _)
      exact l3_ev hm hH hC cs.length 0 _ _ _ (by omega) (Nat.zero_le _) rfl (DI.zero hH)
    · have hn : scanAll cs = none := by
        cases h : scanTo cs cs.length with
        | none => unfold scanAll; rw [h]; rfl
        | some s =>
          unfold scanAll
          rw [h]
          show (if s.2.length = 0 then some s.1 else none) = none
          by_cases hl : s.2.length = 0
          · exact absurd (scan_good (m := s.1) (fs := s.2) h hl).2 hC
          · rw [if_neg hl]
      have e : matchRes cs = ([], 31) := by unfold matchRes; rw [hn]
      rw [e]
      refine C_fail cs hbig _ (mB_len _ _) cs.length 0 (by omega) (Nat.zero_le _) ?_
      refine Classical.byContradiction fun hx => hC fun k hk hb => hx ⟨k, Nat.zero_le _, hk, hb⟩
  · have hn : scanAll cs = none := by
      cases h : scanTo cs cs.length with
      | none => unfold scanAll; rw [h]; rfl
      | some s =>
        unfold scanAll
        rw [h]
        show (if s.2.length = 0 then some s.1 else none) = none
        by_cases hl : s.2.length = 0
        · exact absurd (scan_good (m := s.1) (fs := s.2) h hl).1 hH
        · rw [if_neg hl]
    have e : matchRes cs = ([], 31) := by unfold matchRes; rw [hn]
    rw [e]
    refine hA _ (B_fail cs hbig cs.length 0 _ (by omega) (Nat.zero_le _) (mB_len _ _) ?_)
    refine Classical.byContradiction fun hx => hH fun a ha ho => ?_
    rcases Int.lt_or_le (xe cs a).2 0 with h | h
    · exact absurd ⟨a, Nat.zero_le _, ha, ho, h⟩ hx
    · exact h
end Go.Proofs.Ytbdmbkmokhaflaa.Th
end

section
-- written by hprint.py (a program of these sessions) out of the translation; Lean checks it
namespace Go.Proofs.Ytbdmbkmokhaflaa.Q
open Go.RowKit Go.Proofs.YtbdmbkmokhaflaaW.Hb Go.Proofs.YtbdmbkmokhaflaaW.PrintWords Go.Proofs.YtbdmbkmokhaflaaW.PrintLast Go.Proofs.YtbdmbkmokhaflaaW.PrintMore
attribute [local go_sem] max2_int min2_int max_two min_two max_three min_three max_four min_four   -- for this text's walks alone
set_option linter.unusedVariables false
set_option linter.unusedSimpArgs false

/-! ### shape_Depth_lit1_25: function 25, by hand -/
def opens (o : Int) : Bool := decide (o = 48) || decide (o = 51)
def deeper (m : Int) (n : Nat) (o : Int) : Int := max m ((n : Int) + if opens o then 1 else 0)
set_option maxRecDepth 100000 in
set_option maxHeartbeats 1000000 in
theorem shape_Depth_lit1_25.calls (w : World) (bc bm i n co cc : Nat) (A Ao : Option Addr) (cs : List Ins) (m : Int) (h0 : w.cell? ⟨bc, 0, none⟩ = some (.slice A cs.length cc)) (hr : Kd.C k31 w A cs.length cs) (hb : Blk w bm 3 #[.int .i64 m]) (hi : i < cs.length) (hn : n ≤ 1048576) :
    Calls Try.prog 25 #[.int .i64 i, .slice Ao n co, .pointer (some ⟨bc, 0, none⟩), .pointer (some ⟨bm, 0, none⟩)] w fun e w' => e = .returned (.tuple #[]) ∧ Blk w' bm 3 #[.int .i64 (deeper m n cs[i].f0)] ∧ Chg w w' (fun k => k = bm) := by
  obtain ⟨ad, e, hc, _⟩ := at_Ins hr i hi
  cases e
  have hm : cs.length ≤ 9223372036854775807 := hr.2.1
  obtain ⟨v, hv⟩ : ∃ v, cs[i].f0 = v := ⟨_, rfl⟩
  rw [hv] at hc ⊢
  have q1 : (i : Int) < (cs.length : Int) := by omega
  have hbm : w.cell? ⟨bm, 0, none⟩ = some (.int .i64 m) := hb.cell 0
  have hfm : w.frozen? ⟨bm, 0, none⟩ = false := hb.frozen 0
  have HB := Aside0.mk hb
  have hw : wrap64 ((n : Int) + 1) = (n : Int) + 1 := by unfold wrap64; omega
  clear hr hb
  have fin : ∀ (x : Int), deeper m n v = max m x → ∀ (w1 : World) (y : Int), w1 = w.setCell ⟨bm, 0, none⟩ (.int .i64 y) → y = max m x → Blk w1 bm 3 #[.int .i64 (deeper m n v)] ∧ Chg w w1 (fun k => k = bm) := by
    intro x hx w1 y hw1 hy
    subst hw1 hy
    rw [hx]
    exact ⟨by simpa using HB.out.set_ 0 (.int .i64 (max m x)), Chg.set_ w ⟨bm, 0, none⟩ _⟩
  by_cases h48 : v = 48
  · subst h48
    have HX := Aside0.mk (fin ((n : Int) + 1) (by simp [deeper, opens]))
    clear fin
    go_enter Try.func25, Try.ntmps25
    go_wp2
    all_goals refine bodyPost_end (results_none rfl _ _ _) rfl ?_
    all_goals exact ⟨rfl, HX.out _ _ rfl (by omega)⟩
  · by_cases h51 : v = 51
    · subst h51
      have HX := Aside0.mk (fin ((n : Int) + 1) (by simp [deeper, opens]))
      clear fin
      go_enter Try.func25, Try.ntmps25
      go_wp2
      all_goals refine bodyPost_end (results_none rfl _ _ _) rfl ?_
      all_goals exact ⟨rfl, HX.out _ _ rfl (by omega)⟩
    · have d1 : (v == 48) = false := by simp [h48]
      have d2 : (v == 51) = false := by simp [h51]
      have HX := Aside0.mk (fin (n : Int) (by simp [deeper, opens, h48, h51]))
      clear fin h48 h51
      go_enter Try.func25, Try.ntmps25
      go_wp2
      all_goals refine bodyPost_end (results_none rfl _ _ _) rfl ?_
      all_goals exact ⟨rfl, HX.out _ _ rfl (by omega)⟩


end Go.Proofs.Ytbdmbkmokhaflaa.Q
end

section
-- written by hprint.py (a program of these sessions) out of the translation; Lean checks it
namespace Go.Proofs.Ytbdmbkmokhaflaa.Q
open Go.RowKit Go.Proofs.YtbdmbkmokhaflaaW.Hb Go.Proofs.YtbdmbkmokhaflaaW.PrintWords Go.Proofs.YtbdmbkmokhaflaaW.PrintLast Go.Proofs.YtbdmbkmokhaflaaW.PrintMore
attribute [local go_sem] max2_int min2_int max_two min_two max_three min_three max_four min_four   -- for this text's walks alone
set_option linter.unusedVariables false
set_option linter.unusedSimpArgs false

/-! ### shape_Depth: function 16, by hand -/
def openAt (cs : List Ins) (i : Nat) : Nat := ((scanTo cs i).map (fun s => s.2.length)).getD 0
def depthTo (cs : List Ins) : Nat → Int
  | 0 => 0
  | i + 1 => deeper (depthTo cs i) (openAt cs i) (opAt cs i)
def shape_Depth.f (l0 : List Ins) : Option (Int × Int) := if l0.length ≤ 1048576 then some (match scanAll l0 with | none => (0, 31) | some _ => (depthTo l0 l0.length, 0)) else none
theorem cf_depth (args : Array Value) (W : World) : (callFunc 25 args).run Try.prog W = .ok (.enter 25 args) W := by go_simp
theorem sees_depth (cs : List Ins) (w : World) (bc bm cc : Nat) (A : Option Addr) (h0 : w.cell? ⟨bc, 0, none⟩ = some (.slice A cs.length cc)) (hr : Kd.C k31 w A cs.length cs) (hbc : bc ≠ bm) (hA : 0 < cs.length → ∀ ad, A = some ad → ad.block ≠ bm) : Sees cs w (fun k => k = bm) 25 #[.pointer (some ⟨bc, 0, none⟩), .pointer (some ⟨bm, 0, none⟩)] (fun i W T => T = (fun k => k = bm) ∧ Blk W bm 3 #[.int .i64 (depthTo cs i)]) := by
  refine ⟨fun i W W' T S hi hc hS => ⟨hi.1, blk_kept hi.2 hc.2 (fun hs => (hS bm hs).1 (by rw [hi.1]))⟩, fun i W T Ao c ps ats hi hI hc _ _ hats hlen h8 _ => ?_⟩
  obtain ⟨rfl, hb⟩ := hI
  have hrW : Kd.C k31 W A cs.length cs := Kd.C_foot_neS (fun h => h) hr (fun ad e hn => hA hn ad e) W hc.2
  refine (shape_Depth_lit1_25.calls W bc bm i ps.length c cc A Ao cs (depthTo cs i) (cellS h0 hc.2 hbc) hrW hb hi (by omega)).mono ?_
  rintro e W' ⟨rfl, hb', hc'⟩
  have ho : openAt cs i = ps.length := by
    unfold openAt
    cases hs : scanTo cs i with
    | none => rw [hs] at hats; cases hats
    | some s =>
      rw [hs] at hats
      have : s.2.map Fr.a = ats := Option.some.inj hats
      rw [← hlen, ← this]
      simp
  refine ⟨rfl, hc', fun k => k = bm, ⟨rfl, ?_⟩, fun k hk => ⟨.inl hk, hk ▸ hb'.lt⟩⟩
  show Blk W' bm 3 #[.int .i64 (deeper (depthTo cs i) (openAt cs i) (opAt cs i))]
  rw [ho, opAt_lt hi]
  exact hb'
set_option maxRecDepth 100000 in
set_option maxHeartbeats 4000000 in
theorem shape_Depth.calls (A0 : Option Addr) (c0 : Nat) (l0 : List (S31)) (r1 : Int) (r2 : Int) (w : World) (hr0 : Kd.C k31 w A0 l0.length l0) (hc0 : l0.length ≤ c0) (h : shape_Depth.f l0 = some (r1, r2)) :
    Calls Try.prog 16 #[.slice A0 l0.length c0] w fun e w' => e = .returned (.tuple #[.int .i64 r1, .int .i64 r2]) ∧ Below w.heap.size w w' := by
  unfold shape_Depth.f at h
  split at h
  · rename_i hl
    have hB1 : Below w.heap.size w ((w.alloc (.cells #[.slice A0 l0.length c0] 22)).alloc (.cells #[.int .i64 0] 3)) := ((Below.refl _ w).alloc (Nat.le_refl _) _).alloc (by rw [World.size_alloc]; omega) _
    have b0 := (Blk.new w 22 #[.slice A0 l0.length c0]).alloc (.cells #[.int .i64 0] 3)
    have b1 := Blk.new (w.alloc (.cells #[.slice A0 l0.length c0] 22)) 3 #[.int .i64 0]
    rw [World.size_alloc] at b1
    have hrC := Kd.C_below hr0 hB1
    have hA1 : 0 < l0.length → ∀ ad, A0 = some ad → ad.block ≠ w.heap.size + 1 := fun hn ad e => by
      subst e
      have := Kd.C_lt hr0 hn (by decide)
      omega
    have HS := Aside0.mk (shape_scan.calls _ A0 c0 25 l0 (fun k => k = w.heap.size + 1) #[.pointer (some ⟨w.heap.size, 0, none⟩), .pointer (some ⟨w.heap.size + 1, 0, none⟩)] (fun i W T => T = (fun k => k = w.heap.size + 1) ∧ Blk W (w.heap.size + 1) 3 #[.int .i64 (depthTo l0 i)]) hrC (fun k hk => by rw [World.size_alloc, World.size_alloc]; omega) hA1 ⟨rfl, b1⟩ (sees_depth l0 _ w.heap.size (w.heap.size + 1) c0 A0 (b0.cell 0) hrC (by omega) hA1) cf_depth hl)
    have q0 : ((w.alloc (.cells #[.slice A0 l0.length c0] 22)).alloc (.cells #[.int .i64 0] 3)).cell? ⟨w.heap.size, 0, none⟩ = some (.slice A0 l0.length c0) := b0.cell 0
    have HB1 := Aside0.mk hB1
    have HBE := Aside0.mk (fun (w' : World) (hc : Chg ((w.alloc (.cells #[.slice A0 l0.length c0] 22)).alloc (.cells #[.int .i64 0] 3)) w' (fun k => k = w.heap.size + 1)) => hB1.trans (hc.below (B := w.heap.size) (by rw [World.size_alloc, World.size_alloc]; omega) (fun k hk => by omega)))
    clear hr0 hl hB1 b0 b1 hrC hA1
    cases hs : scanAll l0 with
    | none =>
      rw [hs] at h
      obtain ⟨rfl, rfl⟩ := Prod.mk.inj (Option.some.inj h)
      have HX := Aside0.mk hs
      clear h hs
      go_enter Try.func16, Try.ntmps16
      go_wp2_with (go_at_call 21; (with_reducible refine HS.out.mono ?_); rintro e w' ⟨hc, hm⟩; rw [HX.out] at hm; obtain rfl := hm; have HC := Aside0.mk hc; clear hc)
      go_ret2
      exact ⟨rfl, HBE.out w' HC.out⟩
    | some m =>
      rw [hs] at h
      obtain ⟨rfl, rfl⟩ := Prod.mk.inj (Option.some.inj h)
      have HX := Aside0.mk hs
      clear h hs
      go_enter Try.func16, Try.ntmps16
      go_wp2_with (go_at_call 21; (with_reducible refine HS.out.mono ?_); rintro e w' ⟨hc, hm⟩; rw [HX.out] at hm; obtain ⟨v, T, rfl, hR, ⟨_, hb⟩, _⟩ := hm; have hq : w'.cell? ⟨w.heap.size + 1, 0, none⟩ = some (.int .i64 (depthTo l0 l0.length)) := hb.cell 0; have HC := Aside0.mk hc; clear hc hR hb)
      go_ret2
      exact ⟨rfl, HBE.out w' HC.out⟩
  · cases h


end Go.Proofs.Ytbdmbkmokhaflaa.Q
end

section
/- layer 6: the depth, and what is open at a place: both answers are the same -/
set_option linter.unusedVariables false
set_option linter.unusedSimpArgs false
namespace Go.Proofs.Ytbdmbkmokhaflaa.Th
open Go.RowKit Go.Proofs.YtbdmbkmokhaflaaW.PrintWords Go.Proofs.YtbdmbkmokhaflaaW.Hb
open Go.Shape6 Go.Proofs.Ytbdmbkmokhaflaa.Q

theorem row_nl {cs : List Ins} (hH : H1 cs) {m : List Int} (h : scanTo cs cs.length = some (m, [])) (k : Nat) (hk : k < cs.length) (h52 : opc cs k ≠ 52) : m[k]? = (mB cs cs.length)[k]? := by
  have hL := scan_L1 h
  have h2 := scan_L2 (Nat.le_refl _) h
  have hP := PB_ok hH cs.length (Nat.le_refl _)
  by_cases hop : opc cs k = 48 ∨ opc cs k = 51
  · obtain ⟨x, e, hc, _⟩ := hH.fin hk (isOp_iff.2 hop)
    rw [(hP.b1 k x e hk (isOp_iff.2 hop) hc).1, h2.m1 k hk (isOp_iff.2 hop), hc]
    rfl
  · by_cases h9 : opc cs k = 49
    · obtain ⟨a, p1, p2, p3⟩ := hL.el k hk h9
      rcases p3 with ⟨d, p3⟩ | ⟨e, p3, p4⟩
      · obtain ⟨j, hj, _⟩ := hL.run_ (by omega) p2 p3
        simp at hj
      · obtain ⟨n, rfl⟩ := Int.eq_ofNat_of_zero_le p4
        have g := (hP.b1 a k n (by omega) p2 p3).2.2 (by omega)
        have g' := (h2.m2 a k n (by omega) p2 p3).2 (by omega)
        rw [Int.toNat_natCast] at g g'
        rw [g, g']
    · by_cases h0 : opc cs k = 50
      · obtain ⟨a, p1, p2, x, p3⟩ := hL.en k hk h0
        rw [(hP.b1 a x k (by omega) p2 p3).2.1, (h2.m2 a x k (by omega) p2 p3).1]
      · rw [h2.m5 k hk (by unfold special; omega)]
        refine (hP.b2 k hk (fun _ => isOp_not hop) (fun a x e ha hoa hc => ⟨fun he => ?_, fun hx => ?_⟩)).symm
        · obtain ⟨d1, d2, d3, d4⟩ := fin_facts ha hc
          rw [he] at d3
          exact h0 d3
        · obtain ⟨d1, d2, d3, d4⟩ := fin_facts ha hc
          rcases d4 with d4 | ⟨d4, d5, d6, d7⟩
          · omega
          · rw [hx, Int.toNat_natCast] at d6
            exact h9 d6
theorem scanAll_inv {cs : List Ins} {m : List Int} (h : scanAll cs = some m) : scanTo cs cs.length = some (m, []) := by
  unfold scanAll at h
  cases hs : scanTo cs cs.length with
  | none => rw [hs] at h; cases h
  | some s =>
    rw [hs] at h
    have h : (if s.2.length = 0 then some s.1 else none) = some m := h
    by_cases hl : s.2.length = 0
    · rw [if_pos hl] at h
      have e1 : s.1 = m := Option.some.inj h
      have e2 : s.2 = [] := List.eq_nil_of_length_eq_zero hl
      rw [← e1, ← e2]
    · rw [if_neg hl] at h
      cases h
theorem good_H1 {cs : List Ins} {m : List Int} (h : scanAll cs = some m) : H1 cs := (scan_good (scanAll_inv h) rfl).1
theorem row_DI {cs : List Ins} {m : List Int} (h : scanAll cs = some m) : DI cs cs.length m := by
  have hs := scanAll_inv h
  have h2 := scan_L2 (Nat.le_refl _) hs
  refine ⟨(scanTo_ok hs).1, fun k hk h52 => row_nl (good_H1 h) hs k hk h52, fun k hk h52 => ?_, fun k h1 h2 => by omega⟩
  obtain ⟨a, s1, s2⟩ := h2.m4 k hk h52
  rcases s2 with ⟨b, hb, _⟩ | ⟨y, f, s3, s4⟩
  · cases hb
  · exact ⟨a, y, f, s1, s3, s4⟩
theorem scanTo_before {cs : List Ins} {j : Nat} {s : List Int × List Fr} (h : scanTo cs j = some s) {i : Nat} (hi : i ≤ j) : ∃ m fs, scanTo cs i = some (m, fs) := by
  cases hs : scanTo cs i with
  | none => rw [scanTo_none hs hi] at h; cases h
  | some t => exact ⟨t.1, t.2, rfl⟩
theorem openOf_eq {cs : List Ins} {m : List Int} (h : scanAll cs = some m) {i : Nat} (hi : i ≤ cs.length) : openOf cs i = toI (openL cs i) ∧ openAt cs i = (openL cs i).length ∧ (openL cs i).length ≤ 8 := by
  obtain ⟨m', fs, hs⟩ := scanTo_before (scanAll_inv h) hi
  have e := openL_eq (good_H1 h) hi hs
  unfold openOf openAt toI
  rw [hs, e]
  exact ⟨by simp, by simp, by simp; exact (scanTo_ok hs).2.1⟩
theorem depthTo_bound {cs : List Ins} {m : List Int} (h : scanAll cs = some m) {i : Nat} (hi : i ≤ cs.length) : 0 ≤ depthTo cs i := by
  induction i with
  | zero => exact Int.le_refl _
  | succ i ih =>
    have := ih (by omega)
    show 0 ≤ deeper _ _ _
    unfold deeper
    omega
theorem depth_l0 {cs : List Ins} (hm : cs.length ≤ 1048576) {m : List Int} (h : scanAll cs = some m) (q : Nat) : ∀ i, cs.length - i = q → i ≤ cs.length → Ev (fun k => weighhouseref06_Depth.l0 k cs m (depthTo cs i) (i : Int)) (depthTo cs cs.length, 0) := by
  have hH := good_H1 h
  have hD := row_DI h
  induction q with
  | zero =>
    intro i hq hi
    have e : i = cs.length := by omega
    subst e
    refine Ev.step (f := fun _ => some (depthTo cs cs.length, 0)) (fun k => ?_) (Ev.now _)
    simp only [weighhouseref06_Depth.l0]
    rw [if_neg (by omega)]
  | succ q ih =>
    intro i hq hi
    have hil : i < cs.length := by omega
    obtain ⟨e1, e2, e3⟩ := openOf_eq h hi
    have hw : wrap64 ((i : Int) + 1) = ((i + 1 : Nat) : Int) := by rw [w64 (by omega) (by omega)]; rfl
    have htl : (toI (openL cs i)).length = (openL cs i).length := by unfold toI; rw [List.length_map]
    have hd : depthTo cs (i + 1) = deeper (depthTo cs i) (openL cs i).length (opc cs i) := by
      show deeper (depthTo cs i) (openAt cs i) (Q.opAt cs i) = _
      rw [e2]
    refine Ev.step (f := fun k => (weighhouseref06_opened.f k cs m (i : Int)).bind fun t180 => (if 0 ≤ (i : Int) then (if ((rd_T31 cs (i : Int)).f0) = 48 then (weighhouseref06_Depth.l0 k cs m (mx (depthTo cs i) (wrap64 ((t180.length : Int) + 1))) (wrap64 ((i : Int) + 1))) else (if ((rd_T31 cs (i : Int)).f0) = 51 then (weighhouseref06_Depth.l0 k cs m (mx (depthTo cs i) (wrap64 ((t180.length : Int) + 1))) (wrap64 ((i : Int) + 1))) else (weighhouseref06_Depth.l0 k cs m (mx (depthTo cs i) (t180.length : Int)) (wrap64 ((i : Int) + 1))))) else (none))) (fun k => ?_) (Ev.bind (opened_ev hm hH hD i hi) ?_)
    · simp only [weighhouseref06_Depth.l0]
      rw [if_pos (by omega)]
    · refine Ev.congr (fun k => ?_) (ih (i + 1) (by omega) (by omega))
      rw [if_pos (by omega), rdI cs i hil, hw, htl, w64 (by omega) (by omega), hd]
      unfold deeper opens
      by_cases h48 : opc cs i = 48
      · rw [if_pos h48, h48]
        congr 1
        unfold mx
        simp
        split <;> omega
      · rw [if_neg h48]
        by_cases h51 : opc cs i = 51
        · rw [if_pos h51, h51]
          congr 1
          unfold mx
          simp
          split <;> omega
        · rw [if_neg h51]
          congr 1
          unfold mx
          simp [h48, h51]
          split <;> omega
def depthRes (cs : List Ins) : Int × Int := match scanAll cs with | none => (0, 31) | some _ => (depthTo cs cs.length, 0)
theorem ref_depth (cs : List Ins) (hm : cs.length ≤ 1048576) : Ev (fun k => weighhouseref06_Depth.f k cs) (depthRes cs) := by
  have hM := ref_match cs hm
  unfold depthRes
  cases h : scanAll cs with
  | none =>
    have e : matchRes cs = ([], 31) := by unfold matchRes; rw [h]
    rw [e] at hM
    refine Ev.congr (f := fun k => (weighhouseref06_Match.f k cs).bind fun bt176 => (if bt176.2 = 0 then (weighhouseref06_Depth.l0 k cs bt176.1 0 0) else (some (0, bt176.2)))) (fun k => rfl) (Ev.bind hM ?_)
    exact Ev.congr (f := fun _ => some (0, 31)) (fun k => if_neg (by decide)) (Ev.now _)
  | some m =>
    have e : matchRes cs = (m, 0) := by unfold matchRes; rw [h]
    rw [e] at hM
    refine Ev.congr (f := fun k => (weighhouseref06_Match.f k cs).bind fun bt176 => (if bt176.2 = 0 then (weighhouseref06_Depth.l0 k cs bt176.1 0 0) else (some (0, bt176.2)))) (fun k => rfl) (Ev.bind hM ?_)
    exact Ev.congr (f := fun k => weighhouseref06_Depth.l0 k cs m (depthTo cs 0) ((0 : Nat) : Int)) (fun k => if_pos rfl) (depth_l0 hm h cs.length 0 (by omega) (Nat.zero_le _))
def aroundRes (cs : List Ins) (a : Int) : List Int := match scanAll cs with | none => [] | some _ => aroundTo cs a cs.length
theorem ref_around (cs : List Ins) (a : Int) (hm : cs.length ≤ 1048576) : Ev (fun k => weighhouseref06_Around.f k cs a) (aroundRes cs a) := by
  have hM := ref_match cs hm
  unfold aroundRes
  cases h : scanAll cs with
  | none =>
    have e : matchRes cs = ([], 31) := by unfold matchRes; rw [h]
    rw [e] at hM
    refine Ev.congr (f := fun k => (weighhouseref06_Match.f k cs).bind fun bt185 => (if bt185.2 = 0 then (if a < 0 then (some ([] : List Int)) else (if a ≥ (cs.length : Int) then (some ([] : List Int)) else ((weighhouseref06_opened.f k cs bt185.1 a).bind fun t189 => (some t189)))) else (some ([] : List Int)))) (fun k => rfl) (Ev.bind hM ?_)
    exact Ev.congr (f := fun _ => some []) (fun k => if_neg (by decide)) (Ev.now _)
  | some m =>
    have e : matchRes cs = (m, 0) := by unfold matchRes; rw [h]
    rw [e] at hM
    refine Ev.congr (f := fun k => (weighhouseref06_Match.f k cs).bind fun bt185 => (if bt185.2 = 0 then (if a < 0 then (some ([] : List Int)) else (if a ≥ (cs.length : Int) then (some ([] : List Int)) else ((weighhouseref06_opened.f k cs bt185.1 a).bind fun t189 => (some t189)))) else (some ([] : List Int)))) (fun k => rfl) (Ev.bind hM ?_)
    show Ev _ (aroundTo cs a cs.length)
    unfold aroundTo
    by_cases h0 : a < 0
    · rw [if_neg (by omega)]
      exact Ev.congr (f := fun _ => some []) (fun k => by dsimp only; rw [if_pos rfl, if_pos h0]) (Ev.now _)
    · by_cases h1 : a ≥ (cs.length : Int)
      · rw [if_neg (by omega)]
        exact Ev.congr (f := fun _ => some []) (fun k => by dsimp only; rw [if_pos rfl, if_neg h0, if_pos h1]) (Ev.now _)
      · obtain ⟨n, rfl⟩ := Int.eq_ofNat_of_zero_le (by omega : 0 ≤ a)
        rw [if_pos (by omega), Int.toNat_natCast, (openOf_eq h (by omega)).1]
        exact Ev.congr (f := fun k => (weighhouseref06_opened.f k cs m (n : Int)).bind fun t189 => (some t189)) (fun k => by dsimp only; rw [if_pos rfl, if_neg h0, if_neg h1]) (Ev.bind (opened_ev hm (good_H1 h) (row_DI h) n (by omega)) (Ev.now _))
theorem match_f (cs : List Ins) (hm : cs.length ≤ 1048576) : shape_Match.f cs = some (matchRes cs) := by
  unfold matchRes
  cases h : scanAll cs with
  | none => exact match_none hm h
  | some m => exact match_some hm h
theorem depth_f (cs : List Ins) (hm : cs.length ≤ 1048576) : shape_Depth.f cs = some (depthRes cs) := by
  unfold shape_Depth.f
  rw [if_pos hm]
  rfl
theorem around_f (cs : List Ins) (a : Int) (hm : cs.length ≤ 1048576) : shape_Around.f cs a = some (aroundRes cs a) := by
  unfold shape_Around.f
  rw [if_pos hm]
  rfl
theorem match_len (cs : List Ins) : (matchRes cs).1.length ≤ cs.length := by
  unfold matchRes
  cases h : scanAll cs with
  | none => exact Nat.zero_le _
  | some m => exact Nat.le_of_eq (scanTo_ok (scanAll_inv h)).1
end Go.Proofs.Ytbdmbkmokhaflaa.Th
end

section
/- ShapeArounds: the pure statement, proved: which blocks are open at any place -/
namespace Go.Proofs.Ytbdmbkmokhaflaa.PuShapeArounds
open Go.RowKit Go.Proofs.YtbdmbkmokhaflaaW.PrintWords Go.Proofs.YtbdmbkmokhaflaaW.Hb Go.Proofs.YtbdmbkmokhaflaaW.Ho Go.Proofs.Ytbdmbkmokhaflaa.Q Go.Proofs.Ytbdmbkmokhaflaa.OpShapeArounds Go.Proofs.Ytbdmbkmokhaflaa.Th

theorem around_len (cs : List Ins) (a : Int) : (aroundRes cs a).length ≤ 8 := by
  unfold aroundRes
  split
  · simp
  · unfold aroundTo
    split
    · exact openOf_len _ _
    · simp
theorem pure : Pure := by
  intro x0 x1 q0 q1
  refine Ev.rounds (g := fun k => weighhouselaw06_ShapeArounds.f k x0 x1) ?_
  by_cases hb : (x0.length : Int) > 600
  · refine Ev.congr (f := fun k => (weighhouselaw06_knows.f k).bind fun t261 => (some t261)) (fun k => ?_) (Ev.bind knows_ev (Ev.now _))
    unfold weighhouselaw06_ShapeArounds.f
    rw [if_pos hb]
  · have hm : x0.length ≤ 1048576 := by omega
    refine Ev.congr (f := fun k => (weighhouseref06_Around.f k x0 x1).bind fun t297 => ((weighhouselaw03_Ints.f k (aroundRes x0 x1) t297).bind fun t300 => (if t300 = true then ((weighhouselaw06_knows.f k).bind fun t301 => (some t301)) else (some false)))) (fun k => ?_) ?_
    · unfold weighhouselaw06_ShapeArounds.f
      rw [if_neg hb, own_f x0 hm, Option.bind_some, around_f x0 x1 hm, Option.bind_some]
    · refine Ev.bind (ref_around x0 x1 hm) ?_
      have hI := ints_ev (aroundRes x0 x1) (aroundRes x0 x1) (by have := around_len x0 x1; omega)
      rw [decide_eq_true rfl] at hI
      refine Ev.bind hI ?_
      exact Ev.congr (f := fun k => (weighhouselaw06_knows.f k).bind fun t301 => (some t301)) (fun k => if_pos rfl) (Ev.bind knows_ev (Ev.now _))
end Go.Proofs.Ytbdmbkmokhaflaa.PuShapeArounds
end
