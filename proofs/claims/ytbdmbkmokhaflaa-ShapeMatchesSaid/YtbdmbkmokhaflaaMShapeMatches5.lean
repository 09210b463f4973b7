/- texts of one claim, merged: each in a section of its own -/
import Derived.Test.YtbdmbkmokhaflaaMShapeMatches3
import Derived.Test.YtbdmbkmokhaflaaMShapeMatches4
section
-- written by hprint.py (a program of these sessions) out of the translation; Lean checks it
namespace Go.Proofs.Ytbdmbkmokhaflaa.Q
open Go.RowKit Go.Proofs.YtbdmbkmokhaflaaW.Hb Go.Proofs.YtbdmbkmokhaflaaW.PrintWords Go.Proofs.YtbdmbkmokhaflaaW.PrintLast Go.Proofs.YtbdmbkmokhaflaaW.PrintMore
attribute [local go_sem] max2_int min2_int max_two min_two max_three min_three max_four min_four   -- for this text's walks alone
set_option linter.unusedVariables false
set_option linter.unusedSimpArgs false

/-! ### weighhouseref06_Depth: function 17 -/
def weighhouseref06_Depth.l0 : Nat → List (S31) → List Int → Int → Int → Option (Int × Int)
  | 0, _, _, _, _ => none
  | k + 1, x0, x4, x6, x7 => if x7 < (x0.length : Int) then ((weighhouseref06_opened.f k x0 x4 x7).bind fun t256 => (if 0 ≤ x7 then (if ((rd_T31 x0 x7).f0) = 48 then (weighhouseref06_Depth.l0 k x0 x4 (mx x6 (wrap64 ((t256.length : Int) + 1))) (wrap64 (x7 + 1))) else (if ((rd_T31 x0 x7).f0) = 51 then (weighhouseref06_Depth.l0 k x0 x4 (mx x6 (wrap64 ((t256.length : Int) + 1))) (wrap64 (x7 + 1))) else (weighhouseref06_Depth.l0 k x0 x4 (mx x6 (t256.length : Int)) (wrap64 (x7 + 1))))) else (none))) else (some (x6, 0))
def weighhouseref06_Depth.f (k : Nat) (l0 : List (S31)) : Option (Int × Int) := (weighhouseref06_Match.f k l0).bind fun bt252 => (if bt252.2 = 0 then (weighhouseref06_Depth.l0 k l0 bt252.1 0 0) else (some (0, bt252.2)))
theorem weighhouseref06_Depth.mono_l : ∀ k, (∀ y0 y1 y2 y3, LeO (weighhouseref06_Depth.l0 k y0 y1 y2 y3) (weighhouseref06_Depth.l0 (k + 1) y0 y1 y2 y3))
  | 0 => fun _ _ _ _ r h => by simp [weighhouseref06_Depth.l0] at h
  | k + 1 => by
    have ih0 := weighhouseref06_Depth.mono_l k
    · intro y0 y1 y2 y3
      unfold weighhouseref06_Depth.l0
      repeat' first
      | (with_reducible exact ih0 _ _ _ _)
      | (with_reducible exact weighhouseref06_Match.mono _ _)
      | (with_reducible exact weighhouseref06_opened.mono _ _ _ _)
      | (with_reducible exact LeO.refl _)
      | (with_reducible exact LeO.none _)
      | (with_reducible refine LeO.ite ?_ ?_)
      | (with_reducible refine LeO.bind ?_ (fun _ => ?_))
      | exact ih0 _ _ _ _
      | exact weighhouseref06_Match.mono _ _
      | exact weighhouseref06_opened.mono _ _ _ _
      | exact LeO.none _
      | refine LeO.ite ?_ ?_
      | refine LeO.bind ?_ (fun _ => ?_)
theorem weighhouseref06_Depth.mono : ∀ a0 k, LeO (weighhouseref06_Depth.f k a0) (weighhouseref06_Depth.f (k + 1) a0) := by
  intro a0 k
  have ih0 := weighhouseref06_Depth.mono_l k
  unfold weighhouseref06_Depth.f
  repeat' first
      | (with_reducible exact ih0 _ _ _ _)
      | (with_reducible exact weighhouseref06_Match.mono _ _)
      | (with_reducible exact weighhouseref06_opened.mono _ _ _ _)
      | (with_reducible exact LeO.refl _)
      | (with_reducible exact LeO.none _)
      | (with_reducible refine LeO.ite ?_ ?_)
      | (with_reducible refine LeO.bind ?_ (fun _ => ?_))
      | exact ih0 _ _ _ _
      | exact weighhouseref06_Match.mono _ _
      | exact weighhouseref06_opened.mono _ _ _ _
      | exact LeO.none _
      | refine LeO.ite ?_ ?_
      | refine LeO.bind ?_ (fun _ => ?_)
set_option maxHeartbeats 8000000 in
set_option maxRecDepth 100000 in
theorem weighhouseref06_Depth.calls (k : Nat) (A0 : Option Addr) (c0 : Nat) (l0 : List (S31)) (r1 : Int) (r2 : Int) (w : World) (hr0 : Kd.C k31 w A0 l0.length l0) (hc0 : l0.length ≤ c0) (h : weighhouseref06_Depth.f k l0 = some (r1, r2)) :
    Calls Try.prog 17 #[.slice A0 l0.length c0] w fun e w' => e = .returned (.tuple #[.int .i64 r1, .int .i64 r2]) ∧ Below w.heap.size w w' := by
  have HR0 := Aside0.mk hr0
  have HC0 := Aside0.mk hc0
  clear hr0 hc0
  have HB := Aside0.mk (Below.refl w.heap.size w)
  have H : ((weighhouseref06_Match.f k l0).bind fun bt252 => (if bt252.2 = 0 then (weighhouseref06_Depth.l0 k l0 bt252.1 0 0) else (some (0, bt252.2)))) = some (r1, r2) := h
  clear h
  replace H := Option.bind_eq_some_iff.mp H
  obtain ⟨⟨t252, t253⟩, A20, H⟩ := H
  replace H : (if t253 = 0 then (weighhouseref06_Depth.l0 k l0 t252 0 0) else (some (0, t253))) = some (r1, r2) := H
  have A2 := Aside0.mk A20
  clear A20
  by_cases c3 : t253 = 0
  · rw [if_pos c3] at H
    have c3b0 : (t253 == 0) = true := beq_iff_eq.mpr c3
    have c3b1 : (t253 != 0) = false := bne_eq_false_iff_eq.mpr c3
    clear c3
    have H' := Aside0.mk H
    clear H
    go_enter Try.func17, Try.ntmps17
    go_wp2_with (first | ((with_reducible refine gate_callee (f := 15) rfl ?_); refine goesL_ (some 11) rfl rfl Try.func15 (by kernel_rfl) rfl #[.slice A0 l0.length c0] rfl (by (try simp only [List.map_toArray, List.map_cons, List.map_nil]); first | done | rfl | (simp only [List.length_drop, List.length_take]; rfl)) ?_; (with_reducible refine (weighhouseref06_Match.calls k _ _ l0 t252 t253 _ ?side1 ?side2 A2.out).mono ?_); (case side1 => repeat (first | exact HR0.out | (with_reducible refine Kd.C_alloc ?_ _) | (with_reducible refine Kd.C_drewN ?_ _) | (with_reducible refine Kd.C_drew ?_))); (case side2 => exact HC0.out); rintro e w4 ⟨v254, rfl, ho0, hb⟩; refine ⟨_, rfl, ?_⟩; have n0_ := Aside0.mk (Kd.R_lower ho0 (below_size (by repeat (first | (with_reducible first | exact HB.out | apply below_alloc | apply pw_below_drewN | apply below_drew1) | exact HB.out)))); have n1_ := Aside0.mk (below_step (by repeat (first | (with_reducible first | exact HB.out | apply below_alloc | apply pw_below_drewN | apply below_drew1) | exact HB.out)) hb); clear HB; have HO255 := n0_; have HB := n1_; clear n0_ n1_; (try clear hb); (try clear hb2); (try clear hk); (try clear hi); (try clear ho0)))
    go_loopg [6, 7] k (fun kq v6 v7 w' => ∃ (x6_1 : Int) (x7_1 : Int), v6 = .int .i64 x6_1 ∧ v7 = .int .i64 x7_1 ∧ Aside0 (weighhouseref06_Depth.l0 kq l0 t252 x6_1 x7_1 = some (r1, r2)) ∧ Aside0 (kq ≤ k) ∧ Aside0 (Kd.R (Kd.int .i64) 3 w' w.heap.size (fun _ => True) v254 t252) ∧ Aside0 (Below w.heap.size w w'))
    case atStart => exact ⟨(0), (0), (by first | rfl | (simp; done) | (simp [*]; done)), (by first | rfl | (simp; done) | (simp [*]; done)), H', ⟨Nat.le_refl _⟩, ⟨by (with_reducible repeat (first | apply Kd.R_alloc | apply Kd.R_drewN | apply Kd.R_drew)); exact HO255.out⟩, ⟨by repeat (first | (with_reducible first | exact HB.out | apply below_alloc | apply pw_below_drewN | apply below_drew1) | exact HB.out)⟩⟩
    case round =>
      clear H'
      try clear c1
      try clear p2
      try clear c3
      try clear c3b0
      try clear c3b1
      obtain ⟨x6_1, x7_1, rfl, rfl, HA, HK1, HO_4, HB⟩ := hrel
      cases gk with
      | zero => exact absurd HA.out (by simp [weighhouseref06_Depth.l0])
      | succ k1 =>
        have H := HA.out
        clear HA
        simp only [weighhouseref06_Depth.l0] at H
        by_cases c5 : x7_1 < (l0.length : Int)
        · rw [if_pos c5] at H
          have c5b0 : decide (x7_1 < (l0.length : Int)) = true := decide_eq_true c5
          clear c5
          replace H := Option.bind_eq_some_iff.mp H
          obtain ⟨t256, A60, H⟩ := H
          replace H : (if 0 ≤ x7_1 then (if ((rd_T31 l0 x7_1).f0) = 48 then (weighhouseref06_Depth.l0 k1 l0 t252 (mx x6_1 (wrap64 ((t256.length : Int) + 1))) (wrap64 (x7_1 + 1))) else (if ((rd_T31 l0 x7_1).f0) = 51 then (weighhouseref06_Depth.l0 k1 l0 t252 (mx x6_1 (wrap64 ((t256.length : Int) + 1))) (wrap64 (x7_1 + 1))) else (weighhouseref06_Depth.l0 k1 l0 t252 (mx x6_1 (t256.length : Int)) (wrap64 (x7_1 + 1))))) else (none)) = some (r1, r2) := H
          have A6 := Aside0.mk A60
          clear A60
          by_cases c7 : 0 ≤ x7_1
          · rw [if_pos c7] at H
            have c7b0 : decide (0 ≤ x7_1) = true := decide_eq_true c7
            clear c7
            by_cases c8 : ((rd_T31 l0 x7_1).f0) = 48
            · rw [if_pos c8] at H
              have c8b0 : (((rd_T31 l0 x7_1).f0) == 48) = true := beq_iff_eq.mpr c8
              have c8b1 : (((rd_T31 l0 x7_1).f0) != 48) = false := bne_eq_false_iff_eq.mpr c8
              clear c8
              obtain ⟨ji9, hji9⟩ : ∃ j_ : Int, (mx x6_1 (wrap64 ((t256.length : Int) + 1))) = j_ := ⟨_, rfl⟩
              replace H : (weighhouseref06_Depth.l0 k1 l0 t252 ji9 (wrap64 (x7_1 + 1))) = some (r1, r2) := by first | (rw [hji9] at H; exact H) | (simp only [hji9] at H ⊢; exact H)
              (try rw [hji9] at A6)
              have hji9_ : (if x6_1 < (wrap64 ((t256.length : Int) + 1)) then (wrap64 ((t256.length : Int) + 1)) else x6_1) = ji9 := hji9
              have H' := Aside0.mk H
              clear H
              obtain ⟨Ao10, co10, eo10⟩ := Kd.R_slice HO_4.out
              subst eo10
              go_wp2_with (first | ((with_reducible refine gate_callee (f := 24) rfl ?_); refine goesL_ (some 26) rfl rfl Try.func24 (by kernel_rfl) rfl #[.slice A0 l0.length c0, .slice Ao10 t252.length co10, .int .i64 x7_1] rfl (by (try simp only [List.map_toArray, List.map_cons, List.map_nil]); first | done | rfl | (simp only [List.length_drop, List.length_take]; rfl)) ?_; (with_reducible refine (weighhouseref06_opened.calls k1 _ _ l0 _ _ t252 x7_1 t256 _ ?side1 ?side2 ?side3 ?side4 A6.out).mono ?_); (case side1 => repeat (first | exact (Kd.C_below HR0.out HB.out) | (with_reducible refine Kd.C_alloc ?_ _) | (with_reducible refine Kd.C_drewN ?_ _) | (with_reducible refine Kd.C_drew ?_))); (case side2 => exact HC0.out); (case side3 => repeat (first | exact (Kd.R_reads' HO_4.out).2.2 | (with_reducible refine Kd.C_alloc ?_ _) | (with_reducible refine Kd.C_drewN ?_ _) | (with_reducible refine Kd.C_drew ?_))); (case side4 => exact (Kd.R_reads' HO_4.out).2.1); rintro e w11 ⟨v257, rfl, ho0, hb⟩; refine ⟨_, rfl, ?_⟩; have n0_ := Aside0.mk (Kd.R_elder' (by (with_reducible repeat (first | apply Kd.R_alloc | apply Kd.R_drewN | apply Kd.R_drew)); exact HO_4.out) (Kd.R_base ho0) hb); have n1_ := Aside0.mk (Kd.R_lower (Kd.R_new' ho0 (Kd.R_lt (by (with_reducible repeat (first | apply Kd.R_alloc | apply Kd.R_drewN | apply Kd.R_drew)); exact HO_4.out))) (below_size (by repeat (first | (with_reducible first | exact HB.out | apply below_alloc | apply pw_below_drewN | apply below_drew1) | exact HB.out)))); have n2_ := Aside0.mk (below_step (by repeat (first | (with_reducible first | exact HB.out | apply below_alloc | apply pw_below_drewN | apply below_drew1) | exact HB.out)) hb); clear HO_4; clear HB; have HO_4 := n0_; have HO258 := n1_; have HB := n2_; clear n0_ n1_ n2_; (try clear hb); (try clear hb2); (try clear hk); (try clear hi); (try clear ho0); obtain ⟨Ao12, co12, eo12⟩ := Kd.R_slice HO258.out; subst eo12; have p259 : 0 ≤ (x7_1 : Int) := of_decide_eq_true (by first | (with_reducible assumption) | assumption); have q259 : x7_1 < (l0.length : Int) := of_decide_eq_true (by first | (with_reducible assumption) | assumption); obtain ⟨ad259, e259, hx259_0, hx259_1⟩ := at_T31 HR0.out x7_1 p259 q259; cases e259; replace hx259_0 := (HB.out.cell (World.block_lt_of_cell? w _ hx259_0)).trans hx259_0; replace hx259_1 := (HB.out.cell (World.block_lt_of_cell? w _ hx259_1)).trans hx259_1; replace p259 := eq_true p259; replace q259 := eq_true q259))
              go_roundg k1
              case measure => have := HK1.out; omega
              case rel => exact ⟨(ji9), (wrap64 (x7_1 + 1)), (by first | rfl | (simp; done) | (simp only [← hji9] <;> (first | rfl | simp)) | (simp [*]; done)), (by first | rfl | (simp; done) | (simp [*]; done)), H', ⟨by have := HK1.out; omega⟩, ⟨by (with_reducible repeat (first | apply Kd.R_alloc | apply Kd.R_drewN | apply Kd.R_drew)); exact Kd.R_mono HO_4.out (fun _ hk => trivial)⟩, ⟨by repeat (first | (with_reducible first | exact HB.out | apply below_alloc | apply pw_below_drewN | apply below_drew1) | exact HB.out)⟩⟩
            · rw [if_neg c8] at H
              have c8b0 : (((rd_T31 l0 x7_1).f0) == 48) = false := beq_eq_false_iff_ne.mpr c8
              have c8b1 : (((rd_T31 l0 x7_1).f0) != 48) = true := bne_iff_ne.mpr c8
              by_cases c13 : ((rd_T31 l0 x7_1).f0) = 51
              · rw [if_pos c13] at H
                have c13b0 : (((rd_T31 l0 x7_1).f0) == 51) = true := beq_iff_eq.mpr c13
                have c13b1 : (((rd_T31 l0 x7_1).f0) != 51) = false := bne_eq_false_iff_eq.mpr c13
                clear c13
                obtain ⟨ji14, hji14⟩ : ∃ j_ : Int, (mx x6_1 (wrap64 ((t256.length : Int) + 1))) = j_ := ⟨_, rfl⟩
                replace H : (weighhouseref06_Depth.l0 k1 l0 t252 ji14 (wrap64 (x7_1 + 1))) = some (r1, r2) := by first | (rw [hji14] at H; exact H) | (simp only [hji14] at H ⊢; exact H)
                (try rw [hji14] at A6)
                have hji14_ : (if x6_1 < (wrap64 ((t256.length : Int) + 1)) then (wrap64 ((t256.length : Int) + 1)) else x6_1) = ji14 := hji14
                have H' := Aside0.mk H
                clear H
                obtain ⟨Ao15, co15, eo15⟩ := Kd.R_slice HO_4.out
                subst eo15
                go_wp2_with (first | ((with_reducible refine gate_callee (f := 24) rfl ?_); refine goesL_ (some 26) rfl rfl Try.func24 (by kernel_rfl) rfl #[.slice A0 l0.length c0, .slice Ao15 t252.length co15, .int .i64 x7_1] rfl (by (try simp only [List.map_toArray, List.map_cons, List.map_nil]); first | done | rfl | (simp only [List.length_drop, List.length_take]; rfl)) ?_; (with_reducible refine (weighhouseref06_opened.calls k1 _ _ l0 _ _ t252 x7_1 t256 _ ?side1 ?side2 ?side3 ?side4 A6.out).mono ?_); (case side1 => repeat (first | exact (Kd.C_below HR0.out HB.out) | (with_reducible refine Kd.C_alloc ?_ _) | (with_reducible refine Kd.C_drewN ?_ _) | (with_reducible refine Kd.C_drew ?_))); (case side2 => exact HC0.out); (case side3 => repeat (first | exact (Kd.R_reads' HO_4.out).2.2 | (with_reducible refine Kd.C_alloc ?_ _) | (with_reducible refine Kd.C_drewN ?_ _) | (with_reducible refine Kd.C_drew ?_))); (case side4 => exact (Kd.R_reads' HO_4.out).2.1); rintro e w16 ⟨v257, rfl, ho0, hb⟩; refine ⟨_, rfl, ?_⟩; have n0_ := Aside0.mk (Kd.R_elder' (by (with_reducible repeat (first | apply Kd.R_alloc | apply Kd.R_drewN | apply Kd.R_drew)); exact HO_4.out) (Kd.R_base ho0) hb); have n1_ := Aside0.mk (Kd.R_lower (Kd.R_new' ho0 (Kd.R_lt (by (with_reducible repeat (first | apply Kd.R_alloc | apply Kd.R_drewN | apply Kd.R_drew)); exact HO_4.out))) (below_size (by repeat (first | (with_reducible first | exact HB.out | apply below_alloc | apply pw_below_drewN | apply below_drew1) | exact HB.out)))); have n2_ := Aside0.mk (below_step (by repeat (first | (with_reducible first | exact HB.out | apply below_alloc | apply pw_below_drewN | apply below_drew1) | exact HB.out)) hb); clear HO_4; clear HB; have HO_4 := n0_; have HO258 := n1_; have HB := n2_; clear n0_ n1_ n2_; (try clear hb); (try clear hb2); (try clear hk); (try clear hi); (try clear ho0); obtain ⟨Ao17, co17, eo17⟩ := Kd.R_slice HO258.out; subst eo17; have p259 : 0 ≤ (x7_1 : Int) := of_decide_eq_true (by first | (with_reducible assumption) | assumption); have q259 : x7_1 < (l0.length : Int) := of_decide_eq_true (by first | (with_reducible assumption) | assumption); obtain ⟨ad259, e259, hx259_0, hx259_1⟩ := at_T31 HR0.out x7_1 p259 q259; cases e259; replace hx259_0 := (HB.out.cell (World.block_lt_of_cell? w _ hx259_0)).trans hx259_0; replace hx259_1 := (HB.out.cell (World.block_lt_of_cell? w _ hx259_1)).trans hx259_1; replace p259 := eq_true p259; replace q259 := eq_true q259; have p260 : 0 ≤ (x7_1 : Int) := of_decide_eq_true (by first | (with_reducible assumption) | assumption); have q260 : x7_1 < (l0.length : Int) := of_decide_eq_true (by first | (with_reducible assumption) | assumption); obtain ⟨ad260, e260, hx260_0, hx260_1⟩ := at_T31 HR0.out x7_1 p260 q260; obtain rfl : ad259 = ad260 := (by injection e260); replace hx260_0 := (HB.out.cell (World.block_lt_of_cell? w _ hx260_0)).trans hx260_0; replace hx260_1 := (HB.out.cell (World.block_lt_of_cell? w _ hx260_1)).trans hx260_1; replace p260 := eq_true p260; replace q260 := eq_true q260))
                go_roundg k1
                case measure => have := HK1.out; omega
                case rel => exact ⟨(ji14), (wrap64 (x7_1 + 1)), (by first | rfl | (simp; done) | (simp only [← hji14] <;> (first | rfl | simp)) | (simp [*]; done)), (by first | rfl | (simp; done) | (simp [*]; done)), H', ⟨by have := HK1.out; omega⟩, ⟨by (with_reducible repeat (first | apply Kd.R_alloc | apply Kd.R_drewN | apply Kd.R_drew)); exact Kd.R_mono HO_4.out (fun _ hk => trivial)⟩, ⟨by repeat (first | (with_reducible first | exact HB.out | apply below_alloc | apply pw_below_drewN | apply below_drew1) | exact HB.out)⟩⟩
              · rw [if_neg c13] at H
                have c13b0 : (((rd_T31 l0 x7_1).f0) == 51) = false := beq_eq_false_iff_ne.mpr c13
                have c13b1 : (((rd_T31 l0 x7_1).f0) != 51) = true := bne_iff_ne.mpr c13
                obtain ⟨ji18, hji18⟩ : ∃ j_ : Int, (mx x6_1 (t256.length : Int)) = j_ := ⟨_, rfl⟩
                replace H : (weighhouseref06_Depth.l0 k1 l0 t252 ji18 (wrap64 (x7_1 + 1))) = some (r1, r2) := by first | (rw [hji18] at H; exact H) | (simp only [hji18] at H ⊢; exact H)
                (try rw [hji18] at A6)
                have hji18_ : (if x6_1 < (t256.length : Int) then (t256.length : Int) else x6_1) = ji18 := hji18
                have H' := Aside0.mk H
                clear H
                obtain ⟨Ao19, co19, eo19⟩ := Kd.R_slice HO_4.out
                subst eo19
                go_wp2_with (first | ((with_reducible refine gate_callee (f := 24) rfl ?_); refine goesL_ (some 26) rfl rfl Try.func24 (by kernel_rfl) rfl #[.slice A0 l0.length c0, .slice Ao19 t252.length co19, .int .i64 x7_1] rfl (by (try simp only [List.map_toArray, List.map_cons, List.map_nil]); first | done | rfl | (simp only [List.length_drop, List.length_take]; rfl)) ?_; (with_reducible refine (weighhouseref06_opened.calls k1 _ _ l0 _ _ t252 x7_1 t256 _ ?side1 ?side2 ?side3 ?side4 A6.out).mono ?_); (case side1 => repeat (first | exact (Kd.C_below HR0.out HB.out) | (with_reducible refine Kd.C_alloc ?_ _) | (with_reducible refine Kd.C_drewN ?_ _) | (with_reducible refine Kd.C_drew ?_))); (case side2 => exact HC0.out); (case side3 => repeat (first | exact (Kd.R_reads' HO_4.out).2.2 | (with_reducible refine Kd.C_alloc ?_ _) | (with_reducible refine Kd.C_drewN ?_ _) | (with_reducible refine Kd.C_drew ?_))); (case side4 => exact (Kd.R_reads' HO_4.out).2.1); rintro e w20 ⟨v257, rfl, ho0, hb⟩; refine ⟨_, rfl, ?_⟩; have n0_ := Aside0.mk (Kd.R_elder' (by (with_reducible repeat (first | apply Kd.R_alloc | apply Kd.R_drewN | apply Kd.R_drew)); exact HO_4.out) (Kd.R_base ho0) hb); have n1_ := Aside0.mk (Kd.R_lower (Kd.R_new' ho0 (Kd.R_lt (by (with_reducible repeat (first | apply Kd.R_alloc | apply Kd.R_drewN | apply Kd.R_drew)); exact HO_4.out))) (below_size (by repeat (first | (with_reducible first | exact HB.out | apply below_alloc | apply pw_below_drewN | apply below_drew1) | exact HB.out)))); have n2_ := Aside0.mk (below_step (by repeat (first | (with_reducible first | exact HB.out | apply below_alloc | apply pw_below_drewN | apply below_drew1) | exact HB.out)) hb); clear HO_4; clear HB; have HO_4 := n0_; have HO258 := n1_; have HB := n2_; clear n0_ n1_ n2_; (try clear hb); (try clear hb2); (try clear hk); (try clear hi); (try clear ho0); obtain ⟨Ao21, co21, eo21⟩ := Kd.R_slice HO258.out; subst eo21; have p259 : 0 ≤ (x7_1 : Int) := of_decide_eq_true (by first | (with_reducible assumption) | assumption); have q259 : x7_1 < (l0.length : Int) := of_decide_eq_true (by first | (with_reducible assumption) | assumption); obtain ⟨ad259, e259, hx259_0, hx259_1⟩ := at_T31 HR0.out x7_1 p259 q259; cases e259; replace hx259_0 := (HB.out.cell (World.block_lt_of_cell? w _ hx259_0)).trans hx259_0; replace hx259_1 := (HB.out.cell (World.block_lt_of_cell? w _ hx259_1)).trans hx259_1; replace p259 := eq_true p259; replace q259 := eq_true q259; have p260 : 0 ≤ (x7_1 : Int) := of_decide_eq_true (by first | (with_reducible assumption) | assumption); have q260 : x7_1 < (l0.length : Int) := of_decide_eq_true (by first | (with_reducible assumption) | assumption); obtain ⟨ad260, e260, hx260_0, hx260_1⟩ := at_T31 HR0.out x7_1 p260 q260; obtain rfl : ad259 = ad260 := (by injection e260); replace hx260_0 := (HB.out.cell (World.block_lt_of_cell? w _ hx260_0)).trans hx260_0; replace hx260_1 := (HB.out.cell (World.block_lt_of_cell? w _ hx260_1)).trans hx260_1; replace p260 := eq_true p260; replace q260 := eq_true q260))
                go_roundg k1
                case measure => have := HK1.out; omega
                case rel => exact ⟨(ji18), (wrap64 (x7_1 + 1)), (by first | rfl | (simp; done) | (simp only [← hji18] <;> (first | rfl | simp)) | (simp [*]; done)), (by first | rfl | (simp; done) | (simp [*]; done)), H', ⟨by have := HK1.out; omega⟩, ⟨by (with_reducible repeat (first | apply Kd.R_alloc | apply Kd.R_drewN | apply Kd.R_drew)); exact Kd.R_mono HO_4.out (fun _ hk => trivial)⟩, ⟨by repeat (first | (with_reducible first | exact HB.out | apply below_alloc | apply pw_below_drewN | apply below_drew1) | exact HB.out)⟩⟩
          · rw [if_neg c7] at H
            exact absurd H (by simp)
        · rw [if_neg c5] at H
          have c5b0 : decide (x7_1 < (l0.length : Int)) = false := decide_eq_false c5
          clear c5
          simp only [Option.some.injEq, Prod.mk.injEq] at H
          obtain ⟨rfl, rfl⟩ := H
          go_wp2
          go_ret2
          exact ⟨by first | rfl | (simp [errW_none, errW_some] <;> rfl) | (simp [*, errW_none, errW_some] <;> rfl), by repeat (first | (with_reducible first | exact HB.out | apply below_alloc | apply pw_below_drewN | apply below_drew1) | exact HB.out)⟩
  · rw [if_neg c3] at H
    have c3b0 : (t253 == 0) = false := beq_eq_false_iff_ne.mpr c3
    have c3b1 : (t253 != 0) = true := bne_iff_ne.mpr c3
    simp only [Option.some.injEq, Prod.mk.injEq] at H
    obtain ⟨rfl, rfl⟩ := H
    go_enter Try.func17, Try.ntmps17
    go_wp2_with (first | ((with_reducible refine gate_callee (f := 15) rfl ?_); refine goesL_ (some 11) rfl rfl Try.func15 (by kernel_rfl) rfl #[.slice A0 l0.length c0] rfl (by (try simp only [List.map_toArray, List.map_cons, List.map_nil]); first | done | rfl | (simp only [List.length_drop, List.length_take]; rfl)) ?_; (with_reducible refine (weighhouseref06_Match.calls k _ _ l0 t252 t253 _ ?side1 ?side2 A2.out).mono ?_); (case side1 => repeat (first | exact HR0.out | (with_reducible refine Kd.C_alloc ?_ _) | (with_reducible refine Kd.C_drewN ?_ _) | (with_reducible refine Kd.C_drew ?_))); (case side2 => exact HC0.out); rintro e w22 ⟨v254, rfl, ho0, hb⟩; refine ⟨_, rfl, ?_⟩; have n0_ := Aside0.mk (Kd.R_lower ho0 (below_size (by repeat (first | (with_reducible first | exact HB.out | apply below_alloc | apply pw_below_drewN | apply below_drew1) | exact HB.out)))); have n1_ := Aside0.mk (below_step (by repeat (first | (with_reducible first | exact HB.out | apply below_alloc | apply pw_below_drewN | apply below_drew1) | exact HB.out)) hb); clear HB; have HO255 := n0_; have HB := n1_; clear n0_ n1_; (try clear hb); (try clear hb2); (try clear hk); (try clear hi); (try clear ho0)))
    go_ret2
    exact ⟨by first | rfl | (simp [errW_none, errW_some] <;> rfl) | (simp [*, errW_none, errW_some] <;> rfl), by repeat (first | (with_reducible first | exact HB.out | apply below_alloc | apply pw_below_drewN | apply below_drew1) | exact HB.out)⟩

end Go.Proofs.Ytbdmbkmokhaflaa.Q
end

section
-- written by hprint.py (a program of these sessions) out of the translation; Lean checks it
namespace Go.Proofs.Ytbdmbkmokhaflaa.Q
open Go.RowKit Go.Proofs.YtbdmbkmokhaflaaW.Hb Go.Proofs.YtbdmbkmokhaflaaW.PrintWords Go.Proofs.YtbdmbkmokhaflaaW.PrintLast Go.Proofs.YtbdmbkmokhaflaaW.PrintMore
attribute [local go_sem] max2_int min2_int max_two min_two max_three min_three max_four min_four   -- for this text's walks alone
set_option linter.unusedVariables false
set_option linter.unusedSimpArgs false

attribute [local go_sem high] eqA31
/-! ### weighhouselaw06_ShapeMatches: function 6 -/
def weighhouselaw06_ShapeMatches.l0 : Nat → List (S31) → List (S31) → List Int → Int → List Int → Int → Int → Int → Int → Int → Int → Option (Bool)
  | 0, _, _, _, _, _, _, _, _, _, _, _ => none
  | k + 1, x0, x3, x4, x5, x6, x7, x8, x9, x10, x11, x12 => if x12 < (x0.length : Int) then (if 0 ≤ x12 then (if x12 < (x3.length : Int) then (if (!(((rd_T31 x3 x12).f0) == ((rd_T31 x0 x12).f0)) || (!(((rd_T31 x3 x12).f1) == ((rd_T31 x0 x12).f1)))) = true then (some false) else (weighhouselaw06_ShapeMatches.l0 k x0 x3 x4 x5 x6 x7 x8 x9 x10 x11 (wrap64 (x12 + 1)))) else (none)) else (none)) else ((weighhouselaw03_Ints.f k x4 x6).bind fun t279 => (if t279 = true then ((weighhouselaw06_num.f x5).bind fun t280 => (if t280 = x7 then (if x8 = x10 then ((weighhouselaw06_num.f x9).bind fun t281 => (if t281 = x11 then ((weighhouselaw06_knows.f k).bind fun t282 => (some t282)) else (some false))) else (some false)) else (some false))) else (some false)))
def weighhouselaw06_ShapeMatches.f (k : Nat) (l0 : List (S31)) : Option (Bool) := if (l0.length : Int) > 600 then ((weighhouselaw06_knows.f k).bind fun t261 => (some t261)) else ((weighhouselaw06_Own.f l0).bind fun t262 => ((shape_Match.f t262).bind fun bt265 => ((weighhouseref06_Match.f k l0).bind fun bt269 => ((shape_Depth.f t262).bind fun bt273 => ((weighhouseref06_Depth.f k l0).bind fun bt275 => (weighhouselaw06_ShapeMatches.l0 k l0 t262 bt265.1 bt265.2 bt269.1 bt269.2 bt273.1 bt273.2 bt275.1 bt275.2 0))))))
theorem weighhouselaw06_ShapeMatches.mono_l : ∀ k, (∀ y0 y1 y2 y3 y4 y5 y6 y7 y8 y9 y10, LeO (weighhouselaw06_ShapeMatches.l0 k y0 y1 y2 y3 y4 y5 y6 y7 y8 y9 y10) (weighhouselaw06_ShapeMatches.l0 (k + 1) y0 y1 y2 y3 y4 y5 y6 y7 y8 y9 y10))
  | 0 => fun _ _ _ _ _ _ _ _ _ _ _ r h => by simp [weighhouselaw06_ShapeMatches.l0] at h
  | k + 1 => by
    have ih0 := weighhouselaw06_ShapeMatches.mono_l k
    · intro y0 y1 y2 y3 y4 y5 y6 y7 y8 y9 y10
      unfold weighhouselaw06_ShapeMatches.l0
      repeat' first
      | (with_reducible exact ih0 _ _ _ _ _ _ _ _ _ _ _)
      | (with_reducible exact weighhouselaw03_Ints.mono _ _ _)
      | (with_reducible exact weighhouselaw06_knows.mono _)
      | (with_reducible exact weighhouseref06_Depth.mono _ _)
      | (with_reducible exact weighhouseref06_Match.mono _ _)
      | (with_reducible exact LeO.refl _)
      | (with_reducible exact LeO.none _)
      | (with_reducible refine LeO.ite ?_ ?_)
      | (with_reducible refine LeO.bind ?_ (fun _ => ?_))
      | exact ih0 _ _ _ _ _ _ _ _ _ _ _
      | exact weighhouselaw03_Ints.mono _ _ _
      | exact weighhouselaw06_knows.mono _
      | exact weighhouseref06_Depth.mono _ _
      | exact weighhouseref06_Match.mono _ _
      | exact LeO.none _
      | refine LeO.ite ?_ ?_
      | refine LeO.bind ?_ (fun _ => ?_)
theorem weighhouselaw06_ShapeMatches.mono : ∀ a0 k, LeO (weighhouselaw06_ShapeMatches.f k a0) (weighhouselaw06_ShapeMatches.f (k + 1) a0) := by
  intro a0 k
  have ih0 := weighhouselaw06_ShapeMatches.mono_l k
  unfold weighhouselaw06_ShapeMatches.f
  repeat' first
      | (with_reducible exact ih0 _ _ _ _ _ _ _ _ _ _ _)
      | (with_reducible exact weighhouselaw03_Ints.mono _ _ _)
      | (with_reducible exact weighhouselaw06_knows.mono _)
      | (with_reducible exact weighhouseref06_Depth.mono _ _)
      | (with_reducible exact weighhouseref06_Match.mono _ _)
      | (with_reducible exact LeO.refl _)
      | (with_reducible exact LeO.none _)
      | (with_reducible refine LeO.ite ?_ ?_)
      | (with_reducible refine LeO.bind ?_ (fun _ => ?_))
      | exact ih0 _ _ _ _ _ _ _ _ _ _ _
      | exact weighhouselaw03_Ints.mono _ _ _
      | exact weighhouselaw06_knows.mono _
      | exact weighhouseref06_Depth.mono _ _
      | exact weighhouseref06_Match.mono _ _
      | exact LeO.none _
      | refine LeO.ite ?_ ?_
      | refine LeO.bind ?_ (fun _ => ?_)
set_option maxHeartbeats 8000000 in
set_option maxRecDepth 100000 in
theorem weighhouselaw06_ShapeMatches.calls (k : Nat) (A0 : Option Addr) (c0 : Nat) (l0 : List (S31)) (r : Bool) (w : World) (hr0 : Kd.C k31 w A0 l0.length l0) (hc0 : l0.length ≤ c0) (h : weighhouselaw06_ShapeMatches.f k l0 = some r) :
    Calls Try.prog 6 #[.slice A0 l0.length c0] w fun e w' => e = .returned (.bool r) ∧ Below w.heap.size w w' := by
  have hu31 := Try.underlying31
  have HR0 := Aside0.mk hr0
  have HC0 := Aside0.mk hc0
  clear hr0 hc0
  have HB := Aside0.mk (Below.refl w.heap.size w)
  have H : (if (l0.length : Int) > 600 then ((weighhouselaw06_knows.f k).bind fun t261 => (some t261)) else ((weighhouselaw06_Own.f l0).bind fun t262 => ((shape_Match.f t262).bind fun bt265 => ((weighhouseref06_Match.f k l0).bind fun bt269 => ((shape_Depth.f t262).bind fun bt273 => ((weighhouseref06_Depth.f k l0).bind fun bt275 => (weighhouselaw06_ShapeMatches.l0 k l0 t262 bt265.1 bt265.2 bt269.1 bt269.2 bt273.1 bt273.2 bt275.1 bt275.2 0))))))) = some r := h
  clear h
  by_cases c2 : (l0.length : Int) > 600
  · rw [if_pos c2] at H
    have c2b0 : decide (600 < (l0.length : Int)) = true := decide_eq_true c2
    have c2b1 : decide (600 < l0.length) = true := decide_eq_true (by omega)
    clear c2
    replace H := Option.bind_eq_some_iff.mp H
    obtain ⟨t261, A30, H⟩ := H
    replace H : (some t261) = some r := H
    have A3 := Aside0.mk A30
    clear A30
    obtain rfl := Option.some.inj H
    go_enter Try.func6, Try.ntmps6
    go_wp2_with (first | (go_at_call 9; (with_reducible refine (weighhouselaw06_knows.calls k  t261 _ A3.out).mono ?_); rintro e w4 ⟨rfl, hb⟩; have n0_ := Aside0.mk (below_step (by repeat (first | (with_reducible first | exact HB.out | apply below_alloc | apply pw_below_drewN | apply below_drew1) | exact HB.out)) hb); clear HB; have HB := n0_; clear n0_; (try clear hb); (try clear hb2); (try clear hk); (try clear hi)))
    repeat (go_quiet (first | (go_at_call 9; (with_reducible refine (weighhouselaw06_knows.calls k  t261 _ A3.out).mono ?_); rintro e w4 ⟨rfl, hb⟩; have n0_ := Aside0.mk (below_step (by repeat (first | (with_reducible first | exact HB.out | apply below_alloc | apply pw_below_drewN | apply below_drew1) | exact HB.out)) hb); clear HB; have HB := n0_; clear n0_; (try clear hb); (try clear hb2); (try clear hk); (try clear hi))); try go_wp2_with (first | (go_at_call 9; (with_reducible refine (weighhouselaw06_knows.calls k  t261 _ A3.out).mono ?_); rintro e w4 ⟨rfl, hb⟩; have n0_ := Aside0.mk (below_step (by repeat (first | (with_reducible first | exact HB.out | apply below_alloc | apply pw_below_drewN | apply below_drew1) | exact HB.out)) hb); clear HB; have HB := n0_; clear n0_; (try clear hb); (try clear hb2); (try clear hk); (try clear hi))))
    go_ret
    exact ⟨by first | rfl | (simp [errW_none, errW_some] <;> rfl) | (simp [*, errW_none, errW_some] <;> rfl), by repeat (first | (with_reducible first | exact HB.out | apply below_alloc | apply pw_below_drewN | apply below_drew1) | exact HB.out)⟩
  · rw [if_neg c2] at H
    have c2b0 : decide (600 < (l0.length : Int)) = false := decide_eq_false c2
    have c2b1 : decide (600 < l0.length) = false := decide_eq_false (by omega)
    clear c2
    replace H := Option.bind_eq_some_iff.mp H
    obtain ⟨t262, A50, H⟩ := H
    replace H : ((shape_Match.f t262).bind fun bt265 => ((weighhouseref06_Match.f k l0).bind fun bt269 => ((shape_Depth.f t262).bind fun bt273 => ((weighhouseref06_Depth.f k l0).bind fun bt275 => (weighhouselaw06_ShapeMatches.l0 k l0 t262 bt265.1 bt265.2 bt269.1 bt269.2 bt273.1 bt273.2 bt275.1 bt275.2 0))))) = some r := H
    have A5 := Aside0.mk A50
    clear A50
    replace H := Option.bind_eq_some_iff.mp H
    obtain ⟨⟨t265, t266⟩, A60, H⟩ := H
    replace H : ((weighhouseref06_Match.f k l0).bind fun bt269 => ((shape_Depth.f t262).bind fun bt273 => ((weighhouseref06_Depth.f k l0).bind fun bt275 => (weighhouselaw06_ShapeMatches.l0 k l0 t262 t265 t266 bt269.1 bt269.2 bt273.1 bt273.2 bt275.1 bt275.2 0)))) = some r := H
    have A6 := Aside0.mk A60
    clear A60
    replace H := Option.bind_eq_some_iff.mp H
    obtain ⟨⟨t269, t270⟩, A70, H⟩ := H
    replace H : ((shape_Depth.f t262).bind fun bt273 => ((weighhouseref06_Depth.f k l0).bind fun bt275 => (weighhouselaw06_ShapeMatches.l0 k l0 t262 t265 t266 t269 t270 bt273.1 bt273.2 bt275.1 bt275.2 0))) = some r := H
    have A7 := Aside0.mk A70
    clear A70
    replace H := Option.bind_eq_some_iff.mp H
    obtain ⟨⟨t273, t274⟩, A80, H⟩ := H
    replace H : ((weighhouseref06_Depth.f k l0).bind fun bt275 => (weighhouselaw06_ShapeMatches.l0 k l0 t262 t265 t266 t269 t270 t273 t274 bt275.1 bt275.2 0)) = some r := H
    have A8 := Aside0.mk A80
    clear A80
    replace H := Option.bind_eq_some_iff.mp H
    obtain ⟨⟨t275, t276⟩, A90, H⟩ := H
    replace H : (weighhouselaw06_ShapeMatches.l0 k l0 t262 t265 t266 t269 t270 t273 t274 t275 t276 0) = some r := H
    have A9 := Aside0.mk A90
    clear A90
    have H' := Aside0.mk H
    clear H
    go_enter Try.func6, Try.ntmps6
    go_wp2_with (first | (go_at_call 11; (with_reducible refine (weighhouselaw06_Own.calls _ _ l0 t262 _ ?side1 ?side2 A5.out).mono ?_); (case side1 => repeat (first | exact HR0.out | (with_reducible refine Kd.C_alloc ?_ _) | (with_reducible refine Kd.C_drewN ?_ _) | (with_reducible refine Kd.C_drew ?_))); (case side2 => exact HC0.out); rintro e w10 ⟨v263, rfl, ho0, hb⟩; have n0_ := Aside0.mk (Kd.R_lower ho0 (below_size (by repeat (first | (with_reducible first | exact HB.out | apply below_alloc | apply pw_below_drewN | apply below_drew1) | exact HB.out)))); have n1_ := Aside0.mk (below_step (by repeat (first | (with_reducible first | exact HB.out | apply below_alloc | apply pw_below_drewN | apply below_drew1) | exact HB.out)) hb); clear HB; have HO264 := n0_; have HB := n1_; clear n0_ n1_; (try clear hb); (try clear hb2); (try clear hk); (try clear hi); (try clear ho0); obtain ⟨Ao11, co11, eo11⟩ := Kd.R_slice HO264.out; subst eo11) | (go_at_call 10; (with_reducible refine (shape_Match.calls _ _ t262 t265 t266 _ ?side1 ?side2 A6.out).mono ?_); (case side1 => repeat (first | exact (Kd.R_reads' HO264.out).2.2 | (with_reducible refine Kd.C_alloc ?_ _) | (with_reducible refine Kd.C_drewN ?_ _) | (with_reducible refine Kd.C_drew ?_))); (case side2 => exact (Kd.R_reads' HO264.out).2.1); rintro e w12 ⟨v267, rfl, ho0, hb⟩; have n0_ := Aside0.mk (Kd.R_below (by (with_reducible repeat (first | apply Kd.R_alloc | apply Kd.R_drewN | apply Kd.R_drew)); exact HO264.out) hb); have n1_ := Aside0.mk (Kd.R_lower ho0 (below_size (by repeat (first | (with_reducible first | exact HB.out | apply below_alloc | apply pw_below_drewN | apply below_drew1) | exact HB.out)))); have n2_ := Aside0.mk (below_step (by repeat (first | (with_reducible first | exact HB.out | apply below_alloc | apply pw_below_drewN | apply below_drew1) | exact HB.out)) hb); clear HO264; clear HB; have HO264 := n0_; have HO268 := n1_; have HB := n2_; clear n0_ n1_ n2_; (try clear hb); (try clear hb2); (try clear hk); (try clear hi); (try clear ho0)) | (go_at_call 15; (with_reducible refine (weighhouseref06_Match.calls k _ _ l0 t269 t270 _ ?side1 ?side2 A7.out).mono ?_); (case side1 => repeat (first | exact (Kd.C_below HR0.out HB.out) | (with_reducible refine Kd.C_alloc ?_ _) | (with_reducible refine Kd.C_drewN ?_ _) | (with_reducible refine Kd.C_drew ?_))); (case side2 => exact HC0.out); rintro e w13 ⟨v271, rfl, ho0, hb⟩; have n0_ := Aside0.mk (Kd.R_below (by (with_reducible repeat (first | apply Kd.R_alloc | apply Kd.R_drewN | apply Kd.R_drew)); exact HO264.out) hb); have n1_ := Aside0.mk (Kd.R_elder' (by (with_reducible repeat (first | apply Kd.R_alloc | apply Kd.R_drewN | apply Kd.R_drew)); exact HO268.out) (Kd.R_base ho0) hb); have n2_ := Aside0.mk (Kd.R_lower (Kd.R_new' ho0 (Kd.R_lt (by (with_reducible repeat (first | apply Kd.R_alloc | apply Kd.R_drewN | apply Kd.R_drew)); exact HO268.out))) (below_size (by repeat (first | (with_reducible first | exact HB.out | apply below_alloc | apply pw_below_drewN | apply below_drew1) | exact HB.out)))); have n3_ := Aside0.mk (below_step (by repeat (first | (with_reducible first | exact HB.out | apply below_alloc | apply pw_below_drewN | apply below_drew1) | exact HB.out)) hb); clear HO264; clear HO268; clear HB; have HO264 := n0_; have HO268 := n1_; have HO272 := n2_; have HB := n3_; clear n0_ n1_ n2_ n3_; (try clear hb); (try clear hb2); (try clear hk); (try clear hi); (try clear ho0)) | (go_at_call 16; (with_reducible refine (shape_Depth.calls _ _ t262 t273 t274 _ ?side1 ?side2 A8.out).mono ?_); (case side1 => repeat (first | exact (Kd.R_reads' HO264.out).2.2 | (with_reducible refine Kd.C_alloc ?_ _) | (with_reducible refine Kd.C_drewN ?_ _) | (with_reducible refine Kd.C_drew ?_))); (case side2 => exact (Kd.R_reads' HO264.out).2.1); rintro e w14 ⟨rfl, hb⟩; have n0_ := Aside0.mk (Kd.R_below (by (with_reducible repeat (first | apply Kd.R_alloc | apply Kd.R_drewN | apply Kd.R_drew)); exact HO264.out) hb); have n1_ := Aside0.mk (Kd.R_below (by (with_reducible repeat (first | apply Kd.R_alloc | apply Kd.R_drewN | apply Kd.R_drew)); exact HO268.out) hb); have n2_ := Aside0.mk (Kd.R_below (by (with_reducible repeat (first | apply Kd.R_alloc | apply Kd.R_drewN | apply Kd.R_drew)); exact HO272.out) hb); have n3_ := Aside0.mk (below_step (by repeat (first | (with_reducible first | exact HB.out | apply below_alloc | apply pw_below_drewN | apply below_drew1) | exact HB.out)) hb); clear HO264; clear HO268; clear HO272; clear HB; have HO264 := n0_; have HO268 := n1_; have HO272 := n2_; have HB := n3_; clear n0_ n1_ n2_ n3_; (try clear hb); (try clear hb2); (try clear hk); (try clear hi)) | (go_at_call 17; (with_reducible refine (weighhouseref06_Depth.calls k _ _ l0 t275 t276 _ ?side1 ?side2 A9.out).mono ?_); (case side1 => repeat (first | exact (Kd.C_below HR0.out HB.out) | (with_reducible refine Kd.C_alloc ?_ _) | (with_reducible refine Kd.C_drewN ?_ _) | (with_reducible refine Kd.C_drew ?_))); (case side2 => exact HC0.out); rintro e w15 ⟨rfl, hb⟩; have n0_ := Aside0.mk (Kd.R_below (by (with_reducible repeat (first | apply Kd.R_alloc | apply Kd.R_drewN | apply Kd.R_drew)); exact HO264.out) hb); have n1_ := Aside0.mk (Kd.R_below (by (with_reducible repeat (first | apply Kd.R_alloc | apply Kd.R_drewN | apply Kd.R_drew)); exact HO268.out) hb); have n2_ := Aside0.mk (Kd.R_below (by (with_reducible repeat (first | apply Kd.R_alloc | apply Kd.R_drewN | apply Kd.R_drew)); exact HO272.out) hb); have n3_ := Aside0.mk (below_step (by repeat (first | (with_reducible first | exact HB.out | apply below_alloc | apply pw_below_drewN | apply below_drew1) | exact HB.out)) hb); clear HO264; clear HO268; clear HO272; clear HB; have HO264 := n0_; have HO268 := n1_; have HO272 := n2_; have HB := n3_; clear n0_ n1_ n2_ n3_; (try clear hb); (try clear hb2); (try clear hk); (try clear hi)))
    repeat (go_quiet (first | (go_at_call 11; (with_reducible refine (weighhouselaw06_Own.calls _ _ l0 t262 _ ?side1 ?side2 A5.out).mono ?_); (case side1 => repeat (first | exact HR0.out | (with_reducible refine Kd.C_alloc ?_ _) | (with_reducible refine Kd.C_drewN ?_ _) | (with_reducible refine Kd.C_drew ?_))); (case side2 => exact HC0.out); rintro e w10 ⟨v263, rfl, ho0, hb⟩; have n0_ := Aside0.mk (Kd.R_lower ho0 (below_size (by repeat (first | (with_reducible first | exact HB.out | apply below_alloc | apply pw_below_drewN | apply below_drew1) | exact HB.out)))); have n1_ := Aside0.mk (below_step (by repeat (first | (with_reducible first | exact HB.out | apply below_alloc | apply pw_below_drewN | apply below_drew1) | exact HB.out)) hb); clear HB; have HO264 := n0_; have HB := n1_; clear n0_ n1_; (try clear hb); (try clear hb2); (try clear hk); (try clear hi); (try clear ho0); obtain ⟨Ao11, co11, eo11⟩ := Kd.R_slice HO264.out; subst eo11) | (go_at_call 10; (with_reducible refine (shape_Match.calls _ _ t262 t265 t266 _ ?side1 ?side2 A6.out).mono ?_); (case side1 => repeat (first | exact (Kd.R_reads' HO264.out).2.2 | (with_reducible refine Kd.C_alloc ?_ _) | (with_reducible refine Kd.C_drewN ?_ _) | (with_reducible refine Kd.C_drew ?_))); (case side2 => exact (Kd.R_reads' HO264.out).2.1); rintro e w12 ⟨v267, rfl, ho0, hb⟩; have n0_ := Aside0.mk (Kd.R_below (by (with_reducible repeat (first | apply Kd.R_alloc | apply Kd.R_drewN | apply Kd.R_drew)); exact HO264.out) hb); have n1_ := Aside0.mk (Kd.R_lower ho0 (below_size (by repeat (first | (with_reducible first | exact HB.out | apply below_alloc | apply pw_below_drewN | apply below_drew1) | exact HB.out)))); have n2_ := Aside0.mk (below_step (by repeat (first | (with_reducible first | exact HB.out | apply below_alloc | apply pw_below_drewN | apply below_drew1) | exact HB.out)) hb); clear HO264; clear HB; have HO264 := n0_; have HO268 := n1_; have HB := n2_; clear n0_ n1_ n2_; (try clear hb); (try clear hb2); (try clear hk); (try clear hi); (try clear ho0)) | (go_at_call 15; (with_reducible refine (weighhouseref06_Match.calls k _ _ l0 t269 t270 _ ?side1 ?side2 A7.out).mono ?_); (case side1 => repeat (first | exact (Kd.C_below HR0.out HB.out) | (with_reducible refine Kd.C_alloc ?_ _) | (with_reducible refine Kd.C_drewN ?_ _) | (with_reducible refine Kd.C_drew ?_))); (case side2 => exact HC0.out); rintro e w13 ⟨v271, rfl, ho0, hb⟩; have n0_ := Aside0.mk (Kd.R_below (by (with_reducible repeat (first | apply Kd.R_alloc | apply Kd.R_drewN | apply Kd.R_drew)); exact HO264.out) hb); have n1_ := Aside0.mk (Kd.R_elder' (by (with_reducible repeat (first | apply Kd.R_alloc | apply Kd.R_drewN | apply Kd.R_drew)); exact HO268.out) (Kd.R_base ho0) hb); have n2_ := Aside0.mk (Kd.R_lower (Kd.R_new' ho0 (Kd.R_lt (by (with_reducible repeat (first | apply Kd.R_alloc | apply Kd.R_drewN | apply Kd.R_drew)); exact HO268.out))) (below_size (by repeat (first | (with_reducible first | exact HB.out | apply below_alloc | apply pw_below_drewN | apply below_drew1) | exact HB.out)))); have n3_ := Aside0.mk (below_step (by repeat (first | (with_reducible first | exact HB.out | apply below_alloc | apply pw_below_drewN | apply below_drew1) | exact HB.out)) hb); clear HO264; clear HO268; clear HB; have HO264 := n0_; have HO268 := n1_; have HO272 := n2_; have HB := n3_; clear n0_ n1_ n2_ n3_; (try clear hb); (try clear hb2); (try clear hk); (try clear hi); (try clear ho0)) | (go_at_call 16; (with_reducible refine (shape_Depth.calls _ _ t262 t273 t274 _ ?side1 ?side2 A8.out).mono ?_); (case side1 => repeat (first | exact (Kd.R_reads' HO264.out).2.2 | (with_reducible refine Kd.C_alloc ?_ _) | (with_reducible refine Kd.C_drewN ?_ _) | (with_reducible refine Kd.C_drew ?_))); (case side2 => exact (Kd.R_reads' HO264.out).2.1); rintro e w14 ⟨rfl, hb⟩; have n0_ := Aside0.mk (Kd.R_below (by (with_reducible repeat (first | apply Kd.R_alloc | apply Kd.R_drewN | apply Kd.R_drew)); exact HO264.out) hb); have n1_ := Aside0.mk (Kd.R_below (by (with_reducible repeat (first | apply Kd.R_alloc | apply Kd.R_drewN | apply Kd.R_drew)); exact HO268.out) hb); have n2_ := Aside0.mk (Kd.R_below (by (with_reducible repeat (first | apply Kd.R_alloc | apply Kd.R_drewN | apply Kd.R_drew)); exact HO272.out) hb); have n3_ := Aside0.mk (below_step (by repeat (first | (with_reducible first | exact HB.out | apply below_alloc | apply pw_below_drewN | apply below_drew1) | exact HB.out)) hb); clear HO264; clear HO268; clear HO272; clear HB; have HO264 := n0_; have HO268 := n1_; have HO272 := n2_; have HB := n3_; clear n0_ n1_ n2_ n3_; (try clear hb); (try clear hb2); (try clear hk); (try clear hi)) | (go_at_call 17; (with_reducible refine (weighhouseref06_Depth.calls k _ _ l0 t275 t276 _ ?side1 ?side2 A9.out).mono ?_); (case side1 => repeat (first | exact (Kd.C_below HR0.out HB.out) | (with_reducible refine Kd.C_alloc ?_ _) | (with_reducible refine Kd.C_drewN ?_ _) | (with_reducible refine Kd.C_drew ?_))); (case side2 => exact HC0.out); rintro e w15 ⟨rfl, hb⟩; have n0_ := Aside0.mk (Kd.R_below (by (with_reducible repeat (first | apply Kd.R_alloc | apply Kd.R_drewN | apply Kd.R_drew)); exact HO264.out) hb); have n1_ := Aside0.mk (Kd.R_below (by (with_reducible repeat (first | apply Kd.R_alloc | apply Kd.R_drewN | apply Kd.R_drew)); exact HO268.out) hb); have n2_ := Aside0.mk (Kd.R_below (by (with_reducible repeat (first | apply Kd.R_alloc | apply Kd.R_drewN | apply Kd.R_drew)); exact HO272.out) hb); have n3_ := Aside0.mk (below_step (by repeat (first | (with_reducible first | exact HB.out | apply below_alloc | apply pw_below_drewN | apply below_drew1) | exact HB.out)) hb); clear HO264; clear HO268; clear HO272; clear HB; have HO264 := n0_; have HO268 := n1_; have HO272 := n2_; have HB := n3_; clear n0_ n1_ n2_ n3_; (try clear hb); (try clear hb2); (try clear hk); (try clear hi))); try go_wp2_with (first | (go_at_call 11; (with_reducible refine (weighhouselaw06_Own.calls _ _ l0 t262 _ ?side1 ?side2 A5.out).mono ?_); (case side1 => repeat (first | exact HR0.out | (with_reducible refine Kd.C_alloc ?_ _) | (with_reducible refine Kd.C_drewN ?_ _) | (with_reducible refine Kd.C_drew ?_))); (case side2 => exact HC0.out); rintro e w10 ⟨v263, rfl, ho0, hb⟩; have n0_ := Aside0.mk (Kd.R_lower ho0 (below_size (by repeat (first | (with_reducible first | exact HB.out | apply below_alloc | apply pw_below_drewN | apply below_drew1) | exact HB.out)))); have n1_ := Aside0.mk (below_step (by repeat (first | (with_reducible first | exact HB.out | apply below_alloc | apply pw_below_drewN | apply below_drew1) | exact HB.out)) hb); clear HB; have HO264 := n0_; have HB := n1_; clear n0_ n1_; (try clear hb); (try clear hb2); (try clear hk); (try clear hi); (try clear ho0); obtain ⟨Ao11, co11, eo11⟩ := Kd.R_slice HO264.out; subst eo11) | (go_at_call 10; (with_reducible refine (shape_Match.calls _ _ t262 t265 t266 _ ?side1 ?side2 A6.out).mono ?_); (case side1 => repeat (first | exact (Kd.R_reads' HO264.out).2.2 | (with_reducible refine Kd.C_alloc ?_ _) | (with_reducible refine Kd.C_drewN ?_ _) | (with_reducible refine Kd.C_drew ?_))); (case side2 => exact (Kd.R_reads' HO264.out).2.1); rintro e w12 ⟨v267, rfl, ho0, hb⟩; have n0_ := Aside0.mk (Kd.R_below (by (with_reducible repeat (first | apply Kd.R_alloc | apply Kd.R_drewN | apply Kd.R_drew)); exact HO264.out) hb); have n1_ := Aside0.mk (Kd.R_lower ho0 (below_size (by repeat (first | (with_reducible first | exact HB.out | apply below_alloc | apply pw_below_drewN | apply below_drew1) | exact HB.out)))); have n2_ := Aside0.mk (below_step (by repeat (first | (with_reducible first | exact HB.out | apply below_alloc | apply pw_below_drewN | apply below_drew1) | exact HB.out)) hb); clear HO264; clear HB; have HO264 := n0_; have HO268 := n1_; have HB := n2_; clear n0_ n1_ n2_; (try clear hb); (try clear hb2); (try clear hk); (try clear hi); (try clear ho0)) | (go_at_call 15; (with_reducible refine (weighhouseref06_Match.calls k _ _ l0 t269 t270 _ ?side1 ?side2 A7.out).mono ?_); (case side1 => repeat (first | exact (Kd.C_below HR0.out HB.out) | (with_reducible refine Kd.C_alloc ?_ _) | (with_reducible refine Kd.C_drewN ?_ _) | (with_reducible refine Kd.C_drew ?_))); (case side2 => exact HC0.out); rintro e w13 ⟨v271, rfl, ho0, hb⟩; have n0_ := Aside0.mk (Kd.R_below (by (with_reducible repeat (first | apply Kd.R_alloc | apply Kd.R_drewN | apply Kd.R_drew)); exact HO264.out) hb); have n1_ := Aside0.mk (Kd.R_elder' (by (with_reducible repeat (first | apply Kd.R_alloc | apply Kd.R_drewN | apply Kd.R_drew)); exact HO268.out) (Kd.R_base ho0) hb); have n2_ := Aside0.mk (Kd.R_lower (Kd.R_new' ho0 (Kd.R_lt (by (with_reducible repeat (first | apply Kd.R_alloc | apply Kd.R_drewN | apply Kd.R_drew)); exact HO268.out))) (below_size (by repeat (first | (with_reducible first | exact HB.out | apply below_alloc | apply pw_below_drewN | apply below_drew1) | exact HB.out)))); have n3_ := Aside0.mk (below_step (by repeat (first | (with_reducible first | exact HB.out | apply below_alloc | apply pw_below_drewN | apply below_drew1) | exact HB.out)) hb); clear HO264; clear HO268; clear HB; have HO264 := n0_; have HO268 := n1_; have HO272 := n2_; have HB := n3_; clear n0_ n1_ n2_ n3_; (try clear hb); (try clear hb2); (try clear hk); (try clear hi); (try clear ho0)) | (go_at_call 16; (with_reducible refine (shape_Depth.calls _ _ t262 t273 t274 _ ?side1 ?side2 A8.out).mono ?_); (case side1 => repeat (first | exact (Kd.R_reads' HO264.out).2.2 | (with_reducible refine Kd.C_alloc ?_ _) | (with_reducible refine Kd.C_drewN ?_ _) | (with_reducible refine Kd.C_drew ?_))); (case side2 => exact (Kd.R_reads' HO264.out).2.1); rintro e w14 ⟨rfl, hb⟩; have n0_ := Aside0.mk (Kd.R_below (by (with_reducible repeat (first | apply Kd.R_alloc | apply Kd.R_drewN | apply Kd.R_drew)); exact HO264.out) hb); have n1_ := Aside0.mk (Kd.R_below (by (with_reducible repeat (first | apply Kd.R_alloc | apply Kd.R_drewN | apply Kd.R_drew)); exact HO268.out) hb); have n2_ := Aside0.mk (Kd.R_below (by (with_reducible repeat (first | apply Kd.R_alloc | apply Kd.R_drewN | apply Kd.R_drew)); exact HO272.out) hb); have n3_ := Aside0.mk (below_step (by repeat (first | (with_reducible first | exact HB.out | apply below_alloc | apply pw_below_drewN | apply below_drew1) | exact HB.out)) hb); clear HO264; clear HO268; clear HO272; clear HB; have HO264 := n0_; have HO268 := n1_; have HO272 := n2_; have HB := n3_; clear n0_ n1_ n2_ n3_; (try clear hb); (try clear hb2); (try clear hk); (try clear hi)) | (go_at_call 17; (with_reducible refine (weighhouseref06_Depth.calls k _ _ l0 t275 t276 _ ?side1 ?side2 A9.out).mono ?_); (case side1 => repeat (first | exact (Kd.C_below HR0.out HB.out) | (with_reducible refine Kd.C_alloc ?_ _) | (with_reducible refine Kd.C_drewN ?_ _) | (with_reducible refine Kd.C_drew ?_))); (case side2 => exact HC0.out); rintro e w15 ⟨rfl, hb⟩; have n0_ := Aside0.mk (Kd.R_below (by (with_reducible repeat (first | apply Kd.R_alloc | apply Kd.R_drewN | apply Kd.R_drew)); exact HO264.out) hb); have n1_ := Aside0.mk (Kd.R_below (by (with_reducible repeat (first | apply Kd.R_alloc | apply Kd.R_drewN | apply Kd.R_drew)); exact HO268.out) hb); have n2_ := Aside0.mk (Kd.R_below (by (with_reducible repeat (first | apply Kd.R_alloc | apply Kd.R_drewN | apply Kd.R_drew)); exact HO272.out) hb); have n3_ := Aside0.mk (below_step (by repeat (first | (with_reducible first | exact HB.out | apply below_alloc | apply pw_below_drewN | apply below_drew1) | exact HB.out)) hb); clear HO264; clear HO268; clear HO272; clear HB; have HO264 := n0_; have HO268 := n1_; have HO272 := n2_; have HB := n3_; clear n0_ n1_ n2_ n3_; (try clear hb); (try clear hb2); (try clear hk); (try clear hi))))
    go_loopg [12] k (fun kq v12 w' => ∃ (x12_1 : Int), v12 = .int .i64 x12_1 ∧ Aside0 (weighhouselaw06_ShapeMatches.l0 kq l0 t262 t265 t266 t269 t270 t273 t274 t275 t276 x12_1 = some r) ∧ Aside0 (kq ≤ k) ∧ Aside0 (Kd.R k31 31 w' w.heap.size (fun _ => True) (.slice Ao11 t262.length co11) t262) ∧ Aside0 (Kd.R (Kd.int .i64) 3 w' w.heap.size (fun k_ => some k_ ≠ (v271 : Value).ownBlock) v267 t265) ∧ Aside0 (Kd.R (Kd.int .i64) 3 w' w.heap.size (fun k_ => some k_ ≠ (v267 : Value).ownBlock) v271 t269) ∧ Aside0 (Below w.heap.size w w'))
    case atStart => exact ⟨(0), (by first | rfl | (simp; done) | (simp [*]; done)), H', ⟨Nat.le_refl _⟩, ⟨by (with_reducible repeat (first | apply Kd.R_alloc | apply Kd.R_drewN | apply Kd.R_drew)); exact HO264.out⟩, ⟨by (with_reducible repeat (first | apply Kd.R_alloc | apply Kd.R_drewN | apply Kd.R_drew)); exact Kd.R_mono HO268.out (fun _ hk => hk.2)⟩, ⟨by (with_reducible repeat (first | apply Kd.R_alloc | apply Kd.R_drewN | apply Kd.R_drew)); exact Kd.R_mono HO272.out (fun _ hk => hk.2)⟩, ⟨by repeat (first | (with_reducible first | exact HB.out | apply below_alloc | apply pw_below_drewN | apply below_drew1) | exact HB.out)⟩⟩
    case round =>
      clear H'
      try clear c2
      try clear c2b0
      try clear c2b1
      try clear p2
      try clear c6
      obtain ⟨x12_1, rfl, HA, HK1, HO_3, HO_4, HO_6, HB⟩ := hrel
      cases gk with
      | zero => exact absurd HA.out (by simp [weighhouselaw06_ShapeMatches.l0])
      | succ k1 =>
        have H := HA.out
        clear HA
        simp only [weighhouselaw06_ShapeMatches.l0] at H
        by_cases c16 : x12_1 < (l0.length : Int)
        · rw [if_pos c16] at H
          have c16b0 : decide (x12_1 < (l0.length : Int)) = true := decide_eq_true c16
          clear c16
          by_cases c17 : 0 ≤ x12_1
          · rw [if_pos c17] at H
            have c17b0 : decide (0 ≤ x12_1) = true := decide_eq_true c17
            clear c17
            by_cases c18 : x12_1 < (t262.length : Int)
            · rw [if_pos c18] at H
              have c18b0 : decide (x12_1 < (t262.length : Int)) = true := decide_eq_true c18
              clear c18
              by_cases c19 : (!(((rd_T31 t262 x12_1).f0) == ((rd_T31 l0 x12_1).f0)) || (!(((rd_T31 t262 x12_1).f1) == ((rd_T31 l0 x12_1).f1)))) = true
              · rw [if_pos c19] at H
                have c19b0 : (!(((rd_T31 t262 x12_1).f0) == ((rd_T31 l0 x12_1).f0)) || (!(((rd_T31 t262 x12_1).f1) == ((rd_T31 l0 x12_1).f1)))) = true := c19
                clear c19
                obtain rfl := Option.some.inj H
                have p277 : 0 ≤ (x12_1 : Int) := of_decide_eq_true (by first | (with_reducible assumption) | assumption)
                have q277 : x12_1 < (t262.length : Int) := of_decide_eq_true (by first | (with_reducible assumption) | assumption)
                obtain ⟨ad277, e277, hx277_0, hx277_1⟩ := at_T31 (Kd.R_reads' HO_3.out).2.2 x12_1 p277 q277
                cases e277
                replace p277 := eq_true p277
                replace q277 := eq_true q277
                have p278 : 0 ≤ (x12_1 : Int) := of_decide_eq_true (by first | (with_reducible assumption) | assumption)
                have q278 : x12_1 < (l0.length : Int) := of_decide_eq_true (by first | (with_reducible assumption) | assumption)
                obtain ⟨ad278, e278, hx278_0, hx278_1⟩ := at_T31 HR0.out x12_1 p278 q278
                cases e278
                replace hx278_0 := (HB.out.cell (World.block_lt_of_cell? w _ hx278_0)).trans hx278_0
                replace hx278_1 := (HB.out.cell (World.block_lt_of_cell? w _ hx278_1)).trans hx278_1
                replace p278 := eq_true p278
                replace q278 := eq_true q278
                go_wp2
                repeat (go_quiet (fail); try go_wp2)
                go_ret
                exact ⟨by first | rfl | (simp [errW_none, errW_some] <;> rfl) | (simp [*, errW_none, errW_some] <;> rfl), by repeat (first | (with_reducible first | exact HB.out | apply below_alloc | apply pw_below_drewN | apply below_drew1) | exact HB.out)⟩
              · rw [if_neg c19] at H
                have c19b0 : (!(((rd_T31 t262 x12_1).f0) == ((rd_T31 l0 x12_1).f0)) || (!(((rd_T31 t262 x12_1).f1) == ((rd_T31 l0 x12_1).f1)))) = false := by simpa using c19
                clear c19
                have H' := Aside0.mk H
                clear H
                have p277 : 0 ≤ (x12_1 : Int) := of_decide_eq_true (by first | (with_reducible assumption) | assumption)
                have q277 : x12_1 < (t262.length : Int) := of_decide_eq_true (by first | (with_reducible assumption) | assumption)
                obtain ⟨ad277, e277, hx277_0, hx277_1⟩ := at_T31 (Kd.R_reads' HO_3.out).2.2 x12_1 p277 q277
                cases e277
                replace p277 := eq_true p277
                replace q277 := eq_true q277
                have p278 : 0 ≤ (x12_1 : Int) := of_decide_eq_true (by first | (with_reducible assumption) | assumption)
                have q278 : x12_1 < (l0.length : Int) := of_decide_eq_true (by first | (with_reducible assumption) | assumption)
                obtain ⟨ad278, e278, hx278_0, hx278_1⟩ := at_T31 HR0.out x12_1 p278 q278
                cases e278
                replace hx278_0 := (HB.out.cell (World.block_lt_of_cell? w _ hx278_0)).trans hx278_0
                replace hx278_1 := (HB.out.cell (World.block_lt_of_cell? w _ hx278_1)).trans hx278_1
                replace p278 := eq_true p278
                replace q278 := eq_true q278
                go_wp2
                repeat (go_quiet (fail); try go_wp2)
                go_roundg k1
                case measure => have := HK1.out; omega
                case rel => exact ⟨(wrap64 (x12_1 + 1)), (by first | rfl | (simp; done) | (simp [*]; done)), H', ⟨by have := HK1.out; omega⟩, ⟨by (with_reducible repeat (first | apply Kd.R_alloc | apply Kd.R_drewN | apply Kd.R_drew)); exact HO_3.out⟩, ⟨by (with_reducible repeat (first | apply Kd.R_alloc | apply Kd.R_drewN | apply Kd.R_drew)); exact HO_4.out⟩, ⟨by (with_reducible repeat (first | apply Kd.R_alloc | apply Kd.R_drewN | apply Kd.R_drew)); exact HO_6.out⟩, ⟨by repeat (first | (with_reducible first | exact HB.out | apply below_alloc | apply pw_below_drewN | apply below_drew1) | exact HB.out)⟩⟩
            · rw [if_neg c18] at H
              exact absurd H (by simp)
          · rw [if_neg c17] at H
            exact absurd H (by simp)
        · rw [if_neg c16] at H
          have c16b0 : decide (x12_1 < (l0.length : Int)) = false := decide_eq_false c16
          clear c16
          replace H := Option.bind_eq_some_iff.mp H
          obtain ⟨t279, A200, H⟩ := H
          replace H : (if t279 = true then ((weighhouselaw06_num.f t266).bind fun t280 => (if t280 = t270 then (if t273 = t275 then ((weighhouselaw06_num.f t274).bind fun t281 => (if t281 = t276 then ((weighhouselaw06_knows.f k1).bind fun t282 => (some t282)) else (some false))) else (some false)) else (some false))) else (some false)) = some r := H
          have A20 := Aside0.mk A200
          clear A200
          by_cases c21 : t279 = true
          · subst c21
            have H1 : ((weighhouselaw06_num.f t266).bind fun t280 => (if t280 = t270 then (if t273 = t275 then ((weighhouselaw06_num.f t274).bind fun t281 => (if t281 = t276 then ((weighhouselaw06_knows.f k1).bind fun t282 => (some t282)) else (some false))) else (some false)) else (some false))) = some r := by rw [if_pos rfl] at H; exact H
            clear H
            have H := H1
            clear H1
            replace H := Option.bind_eq_some_iff.mp H
            obtain ⟨t280, A220, H⟩ := H
            replace H : (if t280 = t270 then (if t273 = t275 then ((weighhouselaw06_num.f t274).bind fun t281 => (if t281 = t276 then ((weighhouselaw06_knows.f k1).bind fun t282 => (some t282)) else (some false))) else (some false)) else (some false)) = some r := H
            have A22 := Aside0.mk A220
            clear A220
            by_cases c23 : t280 = t270
            · rw [if_pos c23] at H
              have c23b0 : (t280 == t270) = true := beq_iff_eq.mpr c23
              have c23b1 : (t280 != t270) = false := bne_eq_false_iff_eq.mpr c23
              clear c23
              by_cases c24 : t273 = t275
              · rw [if_pos c24] at H
                have c24b0 : (t273 == t275) = true := beq_iff_eq.mpr c24
                have c24b1 : (t273 != t275) = false := bne_eq_false_iff_eq.mpr c24
                clear c24
                replace H := Option.bind_eq_some_iff.mp H
                obtain ⟨t281, A250, H⟩ := H
                replace H : (if t281 = t276 then ((weighhouselaw06_knows.f k1).bind fun t282 => (some t282)) else (some false)) = some r := H
                have A25 := Aside0.mk A250
                clear A250
                by_cases c26 : t281 = t276
                · rw [if_pos c26] at H
                  have c26b0 : (t281 == t276) = true := beq_iff_eq.mpr c26
                  have c26b1 : (t281 != t276) = false := bne_eq_false_iff_eq.mpr c26
                  clear c26
                  replace H := Option.bind_eq_some_iff.mp H
                  obtain ⟨t282, A270, H⟩ := H
                  replace H : (some t282) = some r := H
                  have A27 := Aside0.mk A270
                  clear A270
                  obtain rfl := Option.some.inj H
                  obtain ⟨Ao28, co28, eo28⟩ := Kd.R_slice HO_4.out
                  subst eo28
                  obtain ⟨Ao29, co29, eo29⟩ := Kd.R_slice HO_6.out
                  subst eo29
                  go_wp2_with (first | (go_at_call 18; (with_reducible refine (weighhouselaw03_Ints.calls k1 _ _ t265 _ _ t269 true _ ?side1 ?side2 ?side3 ?side4 A20.out).mono ?_); (case side1 => repeat (first | exact (Kd.R_reads' HO_4.out).2.2 | (with_reducible refine Kd.C_alloc ?_ _) | (with_reducible refine Kd.C_drewN ?_ _) | (with_reducible refine Kd.C_drew ?_))); (case side2 => exact (Kd.R_reads' HO_4.out).2.1); (case side3 => repeat (first | exact (Kd.R_reads' HO_6.out).2.2 | (with_reducible refine Kd.C_alloc ?_ _) | (with_reducible refine Kd.C_drewN ?_ _) | (with_reducible refine Kd.C_drew ?_))); (case side4 => exact (Kd.R_reads' HO_6.out).2.1); rintro e w' ⟨rfl, ⟨nd, rfl⟩⟩; (try first | exact ⟨rfl, _, World.drewN_drewN _ _ _⟩ | exact ⟨rfl, _, Eq.trans (World.drewN_drewN _ _ _) (congrArg (World.drewN _) (Nat.add_assoc _ _ _))⟩)) | (go_at_call 12; (with_reducible refine (weighhouselaw06_num.calls t266 t280 _ A22.out).mono ?_); rintro e w' ⟨rfl, ⟨nd, rfl⟩⟩; (try first | exact ⟨rfl, _, World.drewN_drewN _ _ _⟩ | exact ⟨rfl, _, Eq.trans (World.drewN_drewN _ _ _) (congrArg (World.drewN _) (Nat.add_assoc _ _ _))⟩)) | (go_at_call 12; (with_reducible refine (weighhouselaw06_num.calls t274 t281 _ A25.out).mono ?_); rintro e w' ⟨rfl, ⟨nd, rfl⟩⟩; (try first | exact ⟨rfl, _, World.drewN_drewN _ _ _⟩ | exact ⟨rfl, _, Eq.trans (World.drewN_drewN _ _ _) (congrArg (World.drewN _) (Nat.add_assoc _ _ _))⟩)) | (go_at_call 9; (with_reducible refine (weighhouselaw06_knows.calls k1  t282 _ A27.out).mono ?_); rintro e w30 ⟨rfl, hb⟩; have n0_ := Aside0.mk (Kd.R_below (by (with_reducible repeat (first | apply Kd.R_alloc | apply Kd.R_drewN | apply Kd.R_drew)); exact HO_3.out) hb); have n1_ := Aside0.mk (Kd.R_below (by (with_reducible repeat (first | apply Kd.R_alloc | apply Kd.R_drewN | apply Kd.R_drew)); exact HO_4.out) hb); have n2_ := Aside0.mk (Kd.R_below (by (with_reducible repeat (first | apply Kd.R_alloc | apply Kd.R_drewN | apply Kd.R_drew)); exact HO_6.out) hb); have n3_ := Aside0.mk (below_step (by repeat (first | (with_reducible first | exact HB.out | apply below_alloc | apply pw_below_drewN | apply below_drew1) | exact HB.out)) hb); clear HO_3; clear HO_4; clear HO_6; clear HB; have HO_3 := n0_; have HO_4 := n1_; have HO_6 := n2_; have HB := n3_; clear n0_ n1_ n2_ n3_; (try clear hb); (try clear hb2); (try clear hk); (try clear hi)))
                  repeat (go_quiet (first | (go_at_call 18; (with_reducible refine (weighhouselaw03_Ints.calls k1 _ _ t265 _ _ t269 true _ ?side1 ?side2 ?side3 ?side4 A20.out).mono ?_); (case side1 => repeat (first | exact (Kd.R_reads' HO_4.out).2.2 | (with_reducible refine Kd.C_alloc ?_ _) | (with_reducible refine Kd.C_drewN ?_ _) | (with_reducible refine Kd.C_drew ?_))); (case side2 => exact (Kd.R_reads' HO_4.out).2.1); (case side3 => repeat (first | exact (Kd.R_reads' HO_6.out).2.2 | (with_reducible refine Kd.C_alloc ?_ _) | (with_reducible refine Kd.C_drewN ?_ _) | (with_reducible refine Kd.C_drew ?_))); (case side4 => exact (Kd.R_reads' HO_6.out).2.1); rintro e w' ⟨rfl, ⟨nd, rfl⟩⟩; (try first | exact ⟨rfl, _, World.drewN_drewN _ _ _⟩ | exact ⟨rfl, _, Eq.trans (World.drewN_drewN _ _ _) (congrArg (World.drewN _) (Nat.add_assoc _ _ _))⟩)) | (go_at_call 12; (with_reducible refine (weighhouselaw06_num.calls t266 t280 _ A22.out).mono ?_); rintro e w' ⟨rfl, ⟨nd, rfl⟩⟩; (try first | exact ⟨rfl, _, World.drewN_drewN _ _ _⟩ | exact ⟨rfl, _, Eq.trans (World.drewN_drewN _ _ _) (congrArg (World.drewN _) (Nat.add_assoc _ _ _))⟩)) | (go_at_call 12; (with_reducible refine (weighhouselaw06_num.calls t274 t281 _ A25.out).mono ?_); rintro e w' ⟨rfl, ⟨nd, rfl⟩⟩; (try first | exact ⟨rfl, _, World.drewN_drewN _ _ _⟩ | exact ⟨rfl, _, Eq.trans (World.drewN_drewN _ _ _) (congrArg (World.drewN _) (Nat.add_assoc _ _ _))⟩)) | (go_at_call 9; (with_reducible refine (weighhouselaw06_knows.calls k1  t282 _ A27.out).mono ?_); rintro e w30 ⟨rfl, hb⟩; have n0_ := Aside0.mk (Kd.R_below (by (with_reducible repeat (first | apply Kd.R_alloc | apply Kd.R_drewN | apply Kd.R_drew)); exact HO_3.out) hb); have n1_ := Aside0.mk (Kd.R_below (by (with_reducible repeat (first | apply Kd.R_alloc | apply Kd.R_drewN | apply Kd.R_drew)); exact HO_4.out) hb); have n2_ := Aside0.mk (Kd.R_below (by (with_reducible repeat (first | apply Kd.R_alloc | apply Kd.R_drewN | apply Kd.R_drew)); exact HO_6.out) hb); have n3_ := Aside0.mk (below_step (by repeat (first | (with_reducible first | exact HB.out | apply below_alloc | apply pw_below_drewN | apply below_drew1) | exact HB.out)) hb); clear HO_3; clear HO_4; clear HO_6; clear HB; have HO_3 := n0_; have HO_4 := n1_; have HO_6 := n2_; have HB := n3_; clear n0_ n1_ n2_ n3_; (try clear hb); (try clear hb2); (try clear hk); (try clear hi))); try go_wp2_with (first | (go_at_call 18; (with_reducible refine (weighhouselaw03_Ints.calls k1 _ _ t265 _ _ t269 true _ ?side1 ?side2 ?side3 ?side4 A20.out).mono ?_); (case side1 => repeat (first | exact (Kd.R_reads' HO_4.out).2.2 | (with_reducible refine Kd.C_alloc ?_ _) | (with_reducible refine Kd.C_drewN ?_ _) | (with_reducible refine Kd.C_drew ?_))); (case side2 => exact (Kd.R_reads' HO_4.out).2.1); (case side3 => repeat (first | exact (Kd.R_reads' HO_6.out).2.2 | (with_reducible refine Kd.C_alloc ?_ _) | (with_reducible refine Kd.C_drewN ?_ _) | (with_reducible refine Kd.C_drew ?_))); (case side4 => exact (Kd.R_reads' HO_6.out).2.1); rintro e w' ⟨rfl, ⟨nd, rfl⟩⟩; (try first | exact ⟨rfl, _, World.drewN_drewN _ _ _⟩ | exact ⟨rfl, _, Eq.trans (World.drewN_drewN _ _ _) (congrArg (World.drewN _) (Nat.add_assoc _ _ _))⟩)) | (go_at_call 12; (with_reducible refine (weighhouselaw06_num.calls t266 t280 _ A22.out).mono ?_); rintro e w' ⟨rfl, ⟨nd, rfl⟩⟩; (try first | exact ⟨rfl, _, World.drewN_drewN _ _ _⟩ | exact ⟨rfl, _, Eq.trans (World.drewN_drewN _ _ _) (congrArg (World.drewN _) (Nat.add_assoc _ _ _))⟩)) | (go_at_call 12; (with_reducible refine (weighhouselaw06_num.calls t274 t281 _ A25.out).mono ?_); rintro e w' ⟨rfl, ⟨nd, rfl⟩⟩; (try first | exact ⟨rfl, _, World.drewN_drewN _ _ _⟩ | exact ⟨rfl, _, Eq.trans (World.drewN_drewN _ _ _) (congrArg (World.drewN _) (Nat.add_assoc _ _ _))⟩)) | (go_at_call 9; (with_reducible refine (weighhouselaw06_knows.calls k1  t282 _ A27.out).mono ?_); rintro e w30 ⟨rfl, hb⟩; have n0_ := Aside0.mk (Kd.R_below (by (with_reducible repeat (first | apply Kd.R_alloc | apply Kd.R_drewN | apply Kd.R_drew)); exact HO_3.out) hb); have n1_ := Aside0.mk (Kd.R_below (by (with_reducible repeat (first | apply Kd.R_alloc | apply Kd.R_drewN | apply Kd.R_drew)); exact HO_4.out) hb); have n2_ := Aside0.mk (Kd.R_below (by (with_reducible repeat (first | apply Kd.R_alloc | apply Kd.R_drewN | apply Kd.R_drew)); exact HO_6.out) hb); have n3_ := Aside0.mk (below_step (by repeat (first | (with_reducible first | exact HB.out | apply below_alloc | apply pw_below_drewN | apply below_drew1) | exact HB.out)) hb); clear HO_3; clear HO_4; clear HO_6; clear HB; have HO_3 := n0_; have HO_4 := n1_; have HO_6 := n2_; have HB := n3_; clear n0_ n1_ n2_ n3_; (try clear hb); (try clear hb2); (try clear hk); (try clear hi))))
                  go_ret
                  exact ⟨by first | rfl | (simp [errW_none, errW_some] <;> rfl) | (simp [*, errW_none, errW_some] <;> rfl), by repeat (first | (with_reducible first | exact HB.out | apply below_alloc | apply pw_below_drewN | apply below_drew1) | exact HB.out)⟩
                · rw [if_neg c26] at H
                  have c26b0 : (t281 == t276) = false := beq_eq_false_iff_ne.mpr c26
                  have c26b1 : (t281 != t276) = true := bne_iff_ne.mpr c26
                  obtain rfl := Option.some.inj H
                  obtain ⟨Ao31, co31, eo31⟩ := Kd.R_slice HO_4.out
                  subst eo31
                  obtain ⟨Ao32, co32, eo32⟩ := Kd.R_slice HO_6.out
                  subst eo32
                  go_wp2_with (first | (go_at_call 18; (with_reducible refine (weighhouselaw03_Ints.calls k1 _ _ t265 _ _ t269 true _ ?side1 ?side2 ?side3 ?side4 A20.out).mono ?_); (case side1 => repeat (first | exact (Kd.R_reads' HO_4.out).2.2 | (with_reducible refine Kd.C_alloc ?_ _) | (with_reducible refine Kd.C_drewN ?_ _) | (with_reducible refine Kd.C_drew ?_))); (case side2 => exact (Kd.R_reads' HO_4.out).2.1); (case side3 => repeat (first | exact (Kd.R_reads' HO_6.out).2.2 | (with_reducible refine Kd.C_alloc ?_ _) | (with_reducible refine Kd.C_drewN ?_ _) | (with_reducible refine Kd.C_drew ?_))); (case side4 => exact (Kd.R_reads' HO_6.out).2.1); rintro e w' ⟨rfl, ⟨nd, rfl⟩⟩; (try first | exact ⟨rfl, _, World.drewN_drewN _ _ _⟩ | exact ⟨rfl, _, Eq.trans (World.drewN_drewN _ _ _) (congrArg (World.drewN _) (Nat.add_assoc _ _ _))⟩)) | (go_at_call 12; (with_reducible refine (weighhouselaw06_num.calls t266 t280 _ A22.out).mono ?_); rintro e w' ⟨rfl, ⟨nd, rfl⟩⟩; (try first | exact ⟨rfl, _, World.drewN_drewN _ _ _⟩ | exact ⟨rfl, _, Eq.trans (World.drewN_drewN _ _ _) (congrArg (World.drewN _) (Nat.add_assoc _ _ _))⟩)) | (go_at_call 12; (with_reducible refine (weighhouselaw06_num.calls t274 t281 _ A25.out).mono ?_); rintro e w' ⟨rfl, ⟨nd, rfl⟩⟩; (try first | exact ⟨rfl, _, World.drewN_drewN _ _ _⟩ | exact ⟨rfl, _, Eq.trans (World.drewN_drewN _ _ _) (congrArg (World.drewN _) (Nat.add_assoc _ _ _))⟩)))
                  repeat (go_quiet (first | (go_at_call 18; (with_reducible refine (weighhouselaw03_Ints.calls k1 _ _ t265 _ _ t269 true _ ?side1 ?side2 ?side3 ?side4 A20.out).mono ?_); (case side1 => repeat (first | exact (Kd.R_reads' HO_4.out).2.2 | (with_reducible refine Kd.C_alloc ?_ _) | (with_reducible refine Kd.C_drewN ?_ _) | (with_reducible refine Kd.C_drew ?_))); (case side2 => exact (Kd.R_reads' HO_4.out).2.1); (case side3 => repeat (first | exact (Kd.R_reads' HO_6.out).2.2 | (with_reducible refine Kd.C_alloc ?_ _) | (with_reducible refine Kd.C_drewN ?_ _) | (with_reducible refine Kd.C_drew ?_))); (case side4 => exact (Kd.R_reads' HO_6.out).2.1); rintro e w' ⟨rfl, ⟨nd, rfl⟩⟩; (try first | exact ⟨rfl, _, World.drewN_drewN _ _ _⟩ | exact ⟨rfl, _, Eq.trans (World.drewN_drewN _ _ _) (congrArg (World.drewN _) (Nat.add_assoc _ _ _))⟩)) | (go_at_call 12; (with_reducible refine (weighhouselaw06_num.calls t266 t280 _ A22.out).mono ?_); rintro e w' ⟨rfl, ⟨nd, rfl⟩⟩; (try first | exact ⟨rfl, _, World.drewN_drewN _ _ _⟩ | exact ⟨rfl, _, Eq.trans (World.drewN_drewN _ _ _) (congrArg (World.drewN _) (Nat.add_assoc _ _ _))⟩)) | (go_at_call 12; (with_reducible refine (weighhouselaw06_num.calls t274 t281 _ A25.out).mono ?_); rintro e w' ⟨rfl, ⟨nd, rfl⟩⟩; (try first | exact ⟨rfl, _, World.drewN_drewN _ _ _⟩ | exact ⟨rfl, _, Eq.trans (World.drewN_drewN _ _ _) (congrArg (World.drewN _) (Nat.add_assoc _ _ _))⟩))); try go_wp2_with (first | (go_at_call 18; (with_reducible refine (weighhouselaw03_Ints.calls k1 _ _ t265 _ _ t269 true _ ?side1 ?side2 ?side3 ?side4 A20.out).mono ?_); (case side1 => repeat (first | exact (Kd.R_reads' HO_4.out).2.2 | (with_reducible refine Kd.C_alloc ?_ _) | (with_reducible refine Kd.C_drewN ?_ _) | (with_reducible refine Kd.C_drew ?_))); (case side2 => exact (Kd.R_reads' HO_4.out).2.1); (case side3 => repeat (first | exact (Kd.R_reads' HO_6.out).2.2 | (with_reducible refine Kd.C_alloc ?_ _) | (with_reducible refine Kd.C_drewN ?_ _) | (with_reducible refine Kd.C_drew ?_))); (case side4 => exact (Kd.R_reads' HO_6.out).2.1); rintro e w' ⟨rfl, ⟨nd, rfl⟩⟩; (try first | exact ⟨rfl, _, World.drewN_drewN _ _ _⟩ | exact ⟨rfl, _, Eq.trans (World.drewN_drewN _ _ _) (congrArg (World.drewN _) (Nat.add_assoc _ _ _))⟩)) | (go_at_call 12; (with_reducible refine (weighhouselaw06_num.calls t266 t280 _ A22.out).mono ?_); rintro e w' ⟨rfl, ⟨nd, rfl⟩⟩; (try first | exact ⟨rfl, _, World.drewN_drewN _ _ _⟩ | exact ⟨rfl, _, Eq.trans (World.drewN_drewN _ _ _) (congrArg (World.drewN _) (Nat.add_assoc _ _ _))⟩)) | (go_at_call 12; (with_reducible refine (weighhouselaw06_num.calls t274 t281 _ A25.out).mono ?_); rintro e w' ⟨rfl, ⟨nd, rfl⟩⟩; (try first | exact ⟨rfl, _, World.drewN_drewN _ _ _⟩ | exact ⟨rfl, _, Eq.trans (World.drewN_drewN _ _ _) (congrArg (World.drewN _) (Nat.add_assoc _ _ _))⟩))))
                  go_ret
                  exact ⟨by first | rfl | (simp [errW_none, errW_some] <;> rfl) | (simp [*, errW_none, errW_some] <;> rfl), by repeat (first | (with_reducible first | exact HB.out | apply below_alloc | apply pw_below_drewN | apply below_drew1) | exact HB.out)⟩
              · rw [if_neg c24] at H
                have c24b0 : (t273 == t275) = false := beq_eq_false_iff_ne.mpr c24
                have c24b1 : (t273 != t275) = true := bne_iff_ne.mpr c24
                obtain rfl := Option.some.inj H
                obtain ⟨Ao33, co33, eo33⟩ := Kd.R_slice HO_4.out
                subst eo33
                obtain ⟨Ao34, co34, eo34⟩ := Kd.R_slice HO_6.out
                subst eo34
                go_wp2_with (first | (go_at_call 18; (with_reducible refine (weighhouselaw03_Ints.calls k1 _ _ t265 _ _ t269 true _ ?side1 ?side2 ?side3 ?side4 A20.out).mono ?_); (case side1 => repeat (first | exact (Kd.R_reads' HO_4.out).2.2 | (with_reducible refine Kd.C_alloc ?_ _) | (with_reducible refine Kd.C_drewN ?_ _) | (with_reducible refine Kd.C_drew ?_))); (case side2 => exact (Kd.R_reads' HO_4.out).2.1); (case side3 => repeat (first | exact (Kd.R_reads' HO_6.out).2.2 | (with_reducible refine Kd.C_alloc ?_ _) | (with_reducible refine Kd.C_drewN ?_ _) | (with_reducible refine Kd.C_drew ?_))); (case side4 => exact (Kd.R_reads' HO_6.out).2.1); rintro e w' ⟨rfl, ⟨nd, rfl⟩⟩; (try first | exact ⟨rfl, _, World.drewN_drewN _ _ _⟩ | exact ⟨rfl, _, Eq.trans (World.drewN_drewN _ _ _) (congrArg (World.drewN _) (Nat.add_assoc _ _ _))⟩)) | (go_at_call 12; (with_reducible refine (weighhouselaw06_num.calls t266 t280 _ A22.out).mono ?_); rintro e w' ⟨rfl, ⟨nd, rfl⟩⟩; (try first | exact ⟨rfl, _, World.drewN_drewN _ _ _⟩ | exact ⟨rfl, _, Eq.trans (World.drewN_drewN _ _ _) (congrArg (World.drewN _) (Nat.add_assoc _ _ _))⟩)))
                repeat (go_quiet (first | (go_at_call 18; (with_reducible refine (weighhouselaw03_Ints.calls k1 _ _ t265 _ _ t269 true _ ?side1 ?side2 ?side3 ?side4 A20.out).mono ?_); (case side1 => repeat (first | exact (Kd.R_reads' HO_4.out).2.2 | (with_reducible refine Kd.C_alloc ?_ _) | (with_reducible refine Kd.C_drewN ?_ _) | (with_reducible refine Kd.C_drew ?_))); (case side2 => exact (Kd.R_reads' HO_4.out).2.1); (case side3 => repeat (first | exact (Kd.R_reads' HO_6.out).2.2 | (with_reducible refine Kd.C_alloc ?_ _) | (with_reducible refine Kd.C_drewN ?_ _) | (with_reducible refine Kd.C_drew ?_))); (case side4 => exact (Kd.R_reads' HO_6.out).2.1); rintro e w' ⟨rfl, ⟨nd, rfl⟩⟩; (try first | exact ⟨rfl, _, World.drewN_drewN _ _ _⟩ | exact ⟨rfl, _, Eq.trans (World.drewN_drewN _ _ _) (congrArg (World.drewN _) (Nat.add_assoc _ _ _))⟩)) | (go_at_call 12; (with_reducible refine (weighhouselaw06_num.calls t266 t280 _ A22.out).mono ?_); rintro e w' ⟨rfl, ⟨nd, rfl⟩⟩; (try first | exact ⟨rfl, _, World.drewN_drewN _ _ _⟩ | exact ⟨rfl, _, Eq.trans (World.drewN_drewN _ _ _) (congrArg (World.drewN _) (Nat.add_assoc _ _ _))⟩))); try go_wp2_with (first | (go_at_call 18; (with_reducible refine (weighhouselaw03_Ints.calls k1 _ _ t265 _ _ t269 true _ ?side1 ?side2 ?side3 ?side4 A20.out).mono ?_); (case side1 => repeat (first | exact (Kd.R_reads' HO_4.out).2.2 | (with_reducible refine Kd.C_alloc ?_ _) | (with_reducible refine Kd.C_drewN ?_ _) | (with_reducible refine Kd.C_drew ?_))); (case side2 => exact (Kd.R_reads' HO_4.out).2.1); (case side3 => repeat (first | exact (Kd.R_reads' HO_6.out).2.2 | (with_reducible refine Kd.C_alloc ?_ _) | (with_reducible refine Kd.C_drewN ?_ _) | (with_reducible refine Kd.C_drew ?_))); (case side4 => exact (Kd.R_reads' HO_6.out).2.1); rintro e w' ⟨rfl, ⟨nd, rfl⟩⟩; (try first | exact ⟨rfl, _, World.drewN_drewN _ _ _⟩ | exact ⟨rfl, _, Eq.trans (World.drewN_drewN _ _ _) (congrArg (World.drewN _) (Nat.add_assoc _ _ _))⟩)) | (go_at_call 12; (with_reducible refine (weighhouselaw06_num.calls t266 t280 _ A22.out).mono ?_); rintro e w' ⟨rfl, ⟨nd, rfl⟩⟩; (try first | exact ⟨rfl, _, World.drewN_drewN _ _ _⟩ | exact ⟨rfl, _, Eq.trans (World.drewN_drewN _ _ _) (congrArg (World.drewN _) (Nat.add_assoc _ _ _))⟩))))
                go_ret
                exact ⟨by first | rfl | (simp [errW_none, errW_some] <;> rfl) | (simp [*, errW_none, errW_some] <;> rfl), by repeat (first | (with_reducible first | exact HB.out | apply below_alloc | apply pw_below_drewN | apply below_drew1) | exact HB.out)⟩
            · rw [if_neg c23] at H
              have c23b0 : (t280 == t270) = false := beq_eq_false_iff_ne.mpr c23
              have c23b1 : (t280 != t270) = true := bne_iff_ne.mpr c23
              obtain rfl := Option.some.inj H
              obtain ⟨Ao35, co35, eo35⟩ := Kd.R_slice HO_4.out
              subst eo35
              obtain ⟨Ao36, co36, eo36⟩ := Kd.R_slice HO_6.out
              subst eo36
              go_wp2_with (first | (go_at_call 18; (with_reducible refine (weighhouselaw03_Ints.calls k1 _ _ t265 _ _ t269 true _ ?side1 ?side2 ?side3 ?side4 A20.out).mono ?_); (case side1 => repeat (first | exact (Kd.R_reads' HO_4.out).2.2 | (with_reducible refine Kd.C_alloc ?_ _) | (with_reducible refine Kd.C_drewN ?_ _) | (with_reducible refine Kd.C_drew ?_))); (case side2 => exact (Kd.R_reads' HO_4.out).2.1); (case side3 => repeat (first | exact (Kd.R_reads' HO_6.out).2.2 | (with_reducible refine Kd.C_alloc ?_ _) | (with_reducible refine Kd.C_drewN ?_ _) | (with_reducible refine Kd.C_drew ?_))); (case side4 => exact (Kd.R_reads' HO_6.out).2.1); rintro e w' ⟨rfl, ⟨nd, rfl⟩⟩; (try first | exact ⟨rfl, _, World.drewN_drewN _ _ _⟩ | exact ⟨rfl, _, Eq.trans (World.drewN_drewN _ _ _) (congrArg (World.drewN _) (Nat.add_assoc _ _ _))⟩)) | (go_at_call 12; (with_reducible refine (weighhouselaw06_num.calls t266 t280 _ A22.out).mono ?_); rintro e w' ⟨rfl, ⟨nd, rfl⟩⟩; (try first | exact ⟨rfl, _, World.drewN_drewN _ _ _⟩ | exact ⟨rfl, _, Eq.trans (World.drewN_drewN _ _ _) (congrArg (World.drewN _) (Nat.add_assoc _ _ _))⟩)))
              repeat (go_quiet (first | (go_at_call 18; (with_reducible refine (weighhouselaw03_Ints.calls k1 _ _ t265 _ _ t269 true _ ?side1 ?side2 ?side3 ?side4 A20.out).mono ?_); (case side1 => repeat (first | exact (Kd.R_reads' HO_4.out).2.2 | (with_reducible refine Kd.C_alloc ?_ _) | (with_reducible refine Kd.C_drewN ?_ _) | (with_reducible refine Kd.C_drew ?_))); (case side2 => exact (Kd.R_reads' HO_4.out).2.1); (case side3 => repeat (first | exact (Kd.R_reads' HO_6.out).2.2 | (with_reducible refine Kd.C_alloc ?_ _) | (with_reducible refine Kd.C_drewN ?_ _) | (with_reducible refine Kd.C_drew ?_))); (case side4 => exact (Kd.R_reads' HO_6.out).2.1); rintro e w' ⟨rfl, ⟨nd, rfl⟩⟩; (try first | exact ⟨rfl, _, World.drewN_drewN _ _ _⟩ | exact ⟨rfl, _, Eq.trans (World.drewN_drewN _ _ _) (congrArg (World.drewN _) (Nat.add_assoc _ _ _))⟩)) | (go_at_call 12; (with_reducible refine (weighhouselaw06_num.calls t266 t280 _ A22.out).mono ?_); rintro e w' ⟨rfl, ⟨nd, rfl⟩⟩; (try first | exact ⟨rfl, _, World.drewN_drewN _ _ _⟩ | exact ⟨rfl, _, Eq.trans (World.drewN_drewN _ _ _) (congrArg (World.drewN _) (Nat.add_assoc _ _ _))⟩))); try go_wp2_with (first | (go_at_call 18; (with_reducible refine (weighhouselaw03_Ints.calls k1 _ _ t265 _ _ t269 true _ ?side1 ?side2 ?side3 ?side4 A20.out).mono ?_); (case side1 => repeat (first | exact (Kd.R_reads' HO_4.out).2.2 | (with_reducible refine Kd.C_alloc ?_ _) | (with_reducible refine Kd.C_drewN ?_ _) | (with_reducible refine Kd.C_drew ?_))); (case side2 => exact (Kd.R_reads' HO_4.out).2.1); (case side3 => repeat (first | exact (Kd.R_reads' HO_6.out).2.2 | (with_reducible refine Kd.C_alloc ?_ _) | (with_reducible refine Kd.C_drewN ?_ _) | (with_reducible refine Kd.C_drew ?_))); (case side4 => exact (Kd.R_reads' HO_6.out).2.1); rintro e w' ⟨rfl, ⟨nd, rfl⟩⟩; (try first | exact ⟨rfl, _, World.drewN_drewN _ _ _⟩ | exact ⟨rfl, _, Eq.trans (World.drewN_drewN _ _ _) (congrArg (World.drewN _) (Nat.add_assoc _ _ _))⟩)) | (go_at_call 12; (with_reducible refine (weighhouselaw06_num.calls t266 t280 _ A22.out).mono ?_); rintro e w' ⟨rfl, ⟨nd, rfl⟩⟩; (try first | exact ⟨rfl, _, World.drewN_drewN _ _ _⟩ | exact ⟨rfl, _, Eq.trans (World.drewN_drewN _ _ _) (congrArg (World.drewN _) (Nat.add_assoc _ _ _))⟩))))
              go_ret
              exact ⟨by first | rfl | (simp [errW_none, errW_some] <;> rfl) | (simp [*, errW_none, errW_some] <;> rfl), by repeat (first | (with_reducible first | exact HB.out | apply below_alloc | apply pw_below_drewN | apply below_drew1) | exact HB.out)⟩
          · replace c21 := Bool.eq_false_iff.mpr c21
            subst c21
            have H1 : (some false) = some r := by rw [if_neg (show ¬ (false = true) by decide)] at H; exact H
            clear H
            have H := H1
            clear H1
            obtain rfl := Option.some.inj H
            obtain ⟨Ao37, co37, eo37⟩ := Kd.R_slice HO_4.out
            subst eo37
            obtain ⟨Ao38, co38, eo38⟩ := Kd.R_slice HO_6.out
            subst eo38
            go_wp2_with (first | (go_at_call 18; (with_reducible refine (weighhouselaw03_Ints.calls k1 _ _ t265 _ _ t269 false _ ?side1 ?side2 ?side3 ?side4 A20.out).mono ?_); (case side1 => repeat (first | exact (Kd.R_reads' HO_4.out).2.2 | (with_reducible refine Kd.C_alloc ?_ _) | (with_reducible refine Kd.C_drewN ?_ _) | (with_reducible refine Kd.C_drew ?_))); (case side2 => exact (Kd.R_reads' HO_4.out).2.1); (case side3 => repeat (first | exact (Kd.R_reads' HO_6.out).2.2 | (with_reducible refine Kd.C_alloc ?_ _) | (with_reducible refine Kd.C_drewN ?_ _) | (with_reducible refine Kd.C_drew ?_))); (case side4 => exact (Kd.R_reads' HO_6.out).2.1); rintro e w' ⟨rfl, ⟨nd, rfl⟩⟩; (try first | exact ⟨rfl, _, World.drewN_drewN _ _ _⟩ | exact ⟨rfl, _, Eq.trans (World.drewN_drewN _ _ _) (congrArg (World.drewN _) (Nat.add_assoc _ _ _))⟩)))
            repeat (go_quiet (first | (go_at_call 18; (with_reducible refine (weighhouselaw03_Ints.calls k1 _ _ t265 _ _ t269 false _ ?side1 ?side2 ?side3 ?side4 A20.out).mono ?_); (case side1 => repeat (first | exact (Kd.R_reads' HO_4.out).2.2 | (with_reducible refine Kd.C_alloc ?_ _) | (with_reducible refine Kd.C_drewN ?_ _) | (with_reducible refine Kd.C_drew ?_))); (case side2 => exact (Kd.R_reads' HO_4.out).2.1); (case side3 => repeat (first | exact (Kd.R_reads' HO_6.out).2.2 | (with_reducible refine Kd.C_alloc ?_ _) | (with_reducible refine Kd.C_drewN ?_ _) | (with_reducible refine Kd.C_drew ?_))); (case side4 => exact (Kd.R_reads' HO_6.out).2.1); rintro e w' ⟨rfl, ⟨nd, rfl⟩⟩; (try first | exact ⟨rfl, _, World.drewN_drewN _ _ _⟩ | exact ⟨rfl, _, Eq.trans (World.drewN_drewN _ _ _) (congrArg (World.drewN _) (Nat.add_assoc _ _ _))⟩))); try go_wp2_with (first | (go_at_call 18; (with_reducible refine (weighhouselaw03_Ints.calls k1 _ _ t265 _ _ t269 false _ ?side1 ?side2 ?side3 ?side4 A20.out).mono ?_); (case side1 => repeat (first | exact (Kd.R_reads' HO_4.out).2.2 | (with_reducible refine Kd.C_alloc ?_ _) | (with_reducible refine Kd.C_drewN ?_ _) | (with_reducible refine Kd.C_drew ?_))); (case side2 => exact (Kd.R_reads' HO_4.out).2.1); (case side3 => repeat (first | exact (Kd.R_reads' HO_6.out).2.2 | (with_reducible refine Kd.C_alloc ?_ _) | (with_reducible refine Kd.C_drewN ?_ _) | (with_reducible refine Kd.C_drew ?_))); (case side4 => exact (Kd.R_reads' HO_6.out).2.1); rintro e w' ⟨rfl, ⟨nd, rfl⟩⟩; (try first | exact ⟨rfl, _, World.drewN_drewN _ _ _⟩ | exact ⟨rfl, _, Eq.trans (World.drewN_drewN _ _ _) (congrArg (World.drewN _) (Nat.add_assoc _ _ _))⟩))))
            go_ret
            exact ⟨by first | rfl | (simp [errW_none, errW_some] <;> rfl) | (simp [*, errW_none, errW_some] <;> rfl), by repeat (first | (with_reducible first | exact HB.out | apply below_alloc | apply pw_below_drewN | apply below_drew1) | exact HB.out)⟩

end Go.Proofs.Ytbdmbkmokhaflaa.Q
end

section
/- what the readings of the parameters of ShapeMatches give -/
set_option linter.unusedVariables false
set_option linter.unusedSimpArgs false
namespace Go.Proofs.Ytbdmbkmokhaflaa.OpShapeMatches
open Go.RowKit Go.Proofs.YtbdmbkmokhaflaaW.PrintWords Go.Proofs.YtbdmbkmokhaflaaW.Hb Go.Proofs.YtbdmbkmokhaflaaW.Ho Go.Proofs.Ytbdmbkmokhaflaa.Q

theorem opens_slice' {P : Program} {t : TypeId} {α : Type} {d : Kd α} {e B : Nat} {Q : α → Prop} (ht : P.underlying t = some (.slice e)) (hs : P.cellsOf e = d.sz) (hB : P.bytesOf e = B) (hp : Opens P d e Q) :
    Opens P (Kd.slice e d) t (fun xs => xs.length * B ≤ reachBytes ∧ xs.length ≤ maxLen ∧ ∀ x ∈ xs, Q x) := by
  subst hB
  exact opens_slice ht hs hp
def QS31 (x : S31) : Prop := ((Lit.int .i64 (x.f0)).wf = true) ∧ ((Lit.int .i64 (x.f1)).wf = true)
theorem open_S31 : Opens Try.prog k31 31 QS31 := by
  intro H enc w base spare held fuel cs x h hw
  obtain ⟨xs, n, _, hx, hl, hxl, hf⟩ := DataW.trod_struct Try.underlying31 h
  rw [show Try.prog.cellsOf 31 = 2 from by kernel_rfl] at hl
  obtain ⟨c0, c1, rfl⟩ : ∃ c0 c1, cs = [c0, c1] := by
    clear hf hx h
    match cs, hl with
    | [c0, c1], _ => exact ⟨c0, c1, rfl⟩
  obtain ⟨y0, y1, rfl⟩ : ∃ y0 y1, xs = [y0, y1] := by
    have hxl2 : xs.length = 2 := hxl
    clear hxl hf hx
    match xs, hxl2 with
    | [y0, y1], _ => exact ⟨y0, y1, rfl⟩
  subst hx
  have g0 : DataW.trod enc Try.prog w base spare held n 3 (([c0, c1].drop 0).take (Try.prog.cellsOf 3)) = some y0 := hf 0 _ rfl
  rw [show Try.prog.cellsOf 3 = 1 from by kernel_rfl] at g0
  replace g0 : DataW.trod enc Try.prog w base spare held n 3 [c0] = some y0 := g0
  obtain ⟨v0, K0, q0⟩ := (opens_int Try.underlying3) enc w base spare held n _ _ g0 (fun m hm => hw m (weights_field (j := 0) (tj := 3) Try.underlying31 rfl rfl m hm))
  have g1 : DataW.trod enc Try.prog w base spare held n 3 (([c0, c1].drop 1).take (Try.prog.cellsOf 3)) = some y1 := hf 1 _ rfl
  rw [show Try.prog.cellsOf 3 = 1 from by kernel_rfl] at g1
  replace g1 : DataW.trod enc Try.prog w base spare held n 3 [c1] = some y1 := g1
  obtain ⟨v1, K1, q1⟩ := (opens_int Try.underlying3) enc w base spare held n _ _ g1 (fun m hm => hw m (weights_field (j := 1) (tj := 3) Try.underlying31 rfl rfl m hm))
  exact ⟨⟨v0, v1⟩, ⟨[c0], [c1], rfl, K0, K1⟩, ⟨q0, q1⟩⟩
end Go.Proofs.Ytbdmbkmokhaflaa.OpShapeMatches
end

section
/- the pure statement of ShapeMatches -/
namespace Go.Proofs.Ytbdmbkmokhaflaa.PuShapeMatches
open Go.RowKit Go.Proofs.YtbdmbkmokhaflaaW.PrintWords Go.Proofs.YtbdmbkmokhaflaaW.Hb Go.Proofs.YtbdmbkmokhaflaaW.Ho Go.Proofs.Ytbdmbkmokhaflaa.Q Go.Proofs.Ytbdmbkmokhaflaa.OpShapeMatches
def Pure : Prop := ∀ (x0 : List (S31)), ((x0).length * 16 ≤ reachBytes ∧ (x0).length ≤ maxLen ∧ ∀ y ∈ (x0), QS31 (y)) → ∃ k, weighhouselaw06_ShapeMatches.f k x0 = some true
end Go.Proofs.Ytbdmbkmokhaflaa.PuShapeMatches
end

section
/- layer 6, plain: what closes a block, read from its opener on; the scan with a stack -/
set_option linter.unusedVariables false
set_option linter.unusedSimpArgs false
namespace Go.Shape6

/-- Looking for the end of the block that a opens: running (how deep, its else), or over (its else, its end). -/
inductive CS where
  | run (d : Nat) (x : Int)
  | fin (x e : Int)
  deriving DecidableEq
def isOp (v : Int) : Bool := decide (v = 48) || decide (v = 51)
def clS (o : Nat → Int) (a i : Nat) : CS → CS
  | .fin x e => .fin x e
  | .run d x =>
    if isOp (o i) then .run (d + 1) x
    else if o i = 49 then (if d = 0 then (if 0 ≤ x ∨ o a ≠ 48 then .fin (-1) (-1) else .run 0 i) else .run d x)
    else if o i = 50 then (if d = 0 then .fin x i else .run (d - 1) x)
    else .run d x
/-- Ahead of instruction i. -/
def cl (o : Nat → Int) (a : Nat) : Nat → CS
  | 0 => .run 0 (-1)
  | i + 1 => if i ≤ a then .run 0 (-1) else clS o a i (cl o a i)
theorem cl_start (o : Nat → Int) (a : Nat) : cl o a (a + 1) = .run 0 (-1) := by simp [cl]
theorem cl_succ (o : Nat → Int) (a i : Nat) (h : a < i) : cl o a (i + 1) = clS o a i (cl o a i) := by
  rw [cl, if_neg (by omega)]
theorem cl_fin_mono {o : Nat → Int} {a i j : Nat} {x e : Int} (h : cl o a i = .fin x e) (ha : a < i) (hij : i ≤ j) : cl o a j = .fin x e := by
  induction j with
  | zero => omega
  | succ j ih =>
    rcases Nat.lt_or_ge i (j + 1) with hlt | hge
    · rw [cl_succ o a j (by omega), ih (by omega)]
      rfl
    · obtain rfl : i = j + 1 := by omega
      exact h
/-- What holds while it runs, and when it is over. -/
def clOk (o : Nat → Int) (a i : Nat) : CS → Prop
  | .run d x => x = -1 ∨ ((a : Int) < x ∧ x < i ∧ o x.toNat = 49 ∧ o a = 48)
  | .fin x e => (x = -1 ∧ e = -1) ∨ ((a : Int) < e ∧ e < i ∧ o e.toNat = 50 ∧ (x = -1 ∨ ((a : Int) < x ∧ x < e ∧ o x.toNat = 49 ∧ o a = 48)))
theorem cl_ok (o : Nat → Int) (a i : Nat) (h : a < i) : clOk o a i (cl o a i) := by
  induction i with
  | zero => omega
  | succ i ih =>
    by_cases hai : a < i
    · rw [cl_succ o a i hai]
      have h := ih hai
      cases hc : cl o a i with
      | fin x e =>
        rw [hc] at h
        simp only [clS, clOk] at h ⊢
        rcases h with h | ⟨h1, h2, h3, h4⟩
        · exact .inl h
        · exact .inr ⟨h1, by omega, h3, h4⟩
      | run d x =>
        rw [hc] at h
        simp only [clOk] at h
        have hx : x = -1 ∨ ((a : Int) < x ∧ x < (i + 1 : Nat) ∧ o x.toNat = 49 ∧ o a = 48) := by
          rcases h with h | ⟨h1, h2, h3⟩
          · exact .inl h
          · exact .inr ⟨h1, by omega, h3⟩
        unfold clS
        dsimp only
        split
        · exact hx
        · split
          · split
            · split
              · exact .inl ⟨rfl, rfl⟩
              · rename_i h49 _ hn
                refine .inr ⟨by omega, by omega, by simpa using h49, ?_⟩
                have : ¬ o a ≠ 48 := fun hh => hn (.inr hh)
                omega
            · exact hx
          · split
            · split
              · rename_i h50 _
                refine .inr ⟨by omega, by omega, by simpa using h50, ?_⟩
                rcases h with h | ⟨h1, h2, h3⟩
                · exact .inl h
                · exact .inr ⟨h1, h2, h3⟩
              · exact hx
            · exact hx
    · obtain rfl : i = a := by omega
      rw [cl_start]
      exact .inl rfl
/-- Of two that run, the inner one runs less deep. -/
theorem cl_nest {o : Nat → Int} {a b i : Nat} {d d' : Nat} {x x' : Int} (hab : a < b) (hbi : b < i) (hb : isOp (o b) = true)
    (h : cl o a i = .run d x) (h' : cl o b i = .run d' x') : d' < d := by
  induction i generalizing d d' x x' with
  | zero => omega
  | succ i ih =>
    rw [cl_succ o a i (by omega)] at h
    by_cases hbi' : b < i
    · rw [cl_succ o b i hbi'] at h'
      cases hc : cl o a i with
      | fin _ _ => rw [hc] at h; cases h
      | run e y =>
        cases hc' : cl o b i with
        | fin _ _ => rw [hc'] at h'; cases h'
        | run e' y' =>
          have hi := ih hbi' hc hc'
          rw [hc] at h
          rw [hc'] at h'
          unfold clS at h h'
          dsimp only at h h'
          split at h
          · rename_i ho
            rw [if_pos ho] at h'
            cases h; cases h'
            omega
          · rename_i ho
            rw [if_neg ho] at h'
            split at h
            · rename_i h9
              rw [if_pos h9] at h'
              rw [if_neg (by omega)] at h
              cases h
              split at h'
              · split at h'
                · cases h'
                · cases h'
                  omega
              · cases h'
                omega
            · rename_i h9
              rw [if_neg h9] at h'
              split at h
              · rename_i h0
                rw [if_pos h0] at h'
                rw [if_neg (by omega)] at h
                cases h
                split at h'
                · cases h'
                · cases h'
                  omega
              · rename_i h0
                rw [if_neg h0] at h'
                cases h; cases h'
                omega
    · obtain rfl : b = i := by omega
      rw [cl_start] at h'
      cases h'
      cases hc : cl o a b with
      | fin _ _ => rw [hc] at h; cases h
      | run e y =>
        rw [hc] at h
        unfold clS at h
        dsimp only at h
        rw [if_pos hb] at h
        cases h
        omega
/-- An outer block is not over while an inner one runs: if a is over (with a true end) ahead of i and b > a runs at i, then b was opened behind a's end. -/
theorem cl_over {o : Nat → Int} {a b i : Nat} {d' : Nat} {x e x' : Int} (hab : a < b) (hbi : b < i) (hb : isOp (o b) = true)
    (h : cl o a i = .fin x e) (h' : cl o b i = .run d' x') : cl o a (b + 1) = .fin x e := by
  induction i generalizing d' x' with
  | zero => omega
  | succ i ih =>
    by_cases hbi' : b < i
    · rw [cl_succ o b i hbi'] at h'
      cases hc' : cl o b i with
      | fin _ _ => rw [hc'] at h'; cases h'
      | run e' y' =>
        rw [cl_succ o a i (by omega)] at h
        cases hc : cl o a i with
        | fin _ _ =>
          rw [hc] at h
          cases h
          exact ih hbi' hc hc'
        | run d y =>
          have hn := cl_nest hab hbi' hb hc hc'
          rw [hc] at h
          unfold clS at h
          dsimp only at h
          split at h
          · cases h
          · split at h
            · rw [if_neg (by omega)] at h
              cases h
            · split at h
              · rw [if_neg (by omega)] at h
                cases h
              · cases h
    · obtain rfl : b = i := by omega
      exact h
end Go.Shape6
end

section
/- layer 6: what the stack of the scan says of the closing of blocks -/
set_option linter.unusedVariables false
set_option linter.unusedSimpArgs false
namespace Go.Proofs.Ytbdmbkmokhaflaa.Th
open Go.Shape6 Go.Proofs.Ytbdmbkmokhaflaa.Q

structure L1 (o : Nat → Int) (i : Nat) (g : List (Nat × Int)) : Prop where
  fr : ∀ (j a : Nat) (x : Int), g[j]? = some (a, x) → a < i ∧ isOp (o a) = true ∧ cl o a i = .run (g.length - 1 - j) x
  up : ∀ (j j' a : Nat) (x : Int) (a' : Nat) (x' : Int), j < j' → g[j]? = some (a, x) → g[j']? = some (a', x') → a < a'
  cl_ : ∀ a, a < i → isOp (o a) = true → (∀ (j : Nat) (x : Int), g[j]? ≠ some (a, x)) → ∃ x e, cl o a i = .fin x e ∧ 0 ≤ e
  el : ∀ k : Nat, k < i → o k = 49 → ∃ a, a < k ∧ isOp (o a) = true ∧ ((∃ d, cl o a i = .run d k) ∨ ∃ e, cl o a i = .fin k e ∧ 0 ≤ e)
  en : ∀ k : Nat, k < i → o k = 50 → ∃ a, a < k ∧ isOp (o a) = true ∧ ∃ x, cl o a i = .fin x k
theorem isOp_iff {v : Int} : isOp v = true ↔ v = 48 ∨ v = 51 := by simp [isOp]
theorem isOp_not {v : Int} (h : ¬ (v = 48 ∨ v = 51)) : isOp v = false := by
  cases he : isOp v
  · rfl
  · exact absurd (isOp_iff.1 he) h
variable {o : Nat → Int} {i : Nat} {g : List (Nat × Int)}
theorem lt_of_get {α : Type} {l : List α} {j : Nat} {v : α} (h : l[j]? = some v) : j < l.length := by
  rcases Nat.lt_or_ge j l.length with hl | hl
  · exact hl
  · rw [List.getElem?_eq_none hl] at h
    cases h
/-- An opener that runs is on the stack. -/
theorem L1.run_ (h : L1 o i g) {a d : Nat} {x : Int} (ha : a < i) (ho : isOp (o a) = true) (hc : cl o a i = .run d x) : ∃ j, g[j]? = some (a, x) ∧ d = g.length - 1 - j := by
  by_cases hn : ∃ (j : Nat) (y : Int), g[j]? = some (a, y)
  · obtain ⟨j, y, hj⟩ := hn
    have h1 := (h.fr j a y hj).2.2
    rw [hc] at h1
    injection h1 with h2 h3
    exact ⟨j, by rw [hj, h3], h2⟩
  · obtain ⟨y, e, h1, _⟩ := h.cl_ a ha ho (fun j y hj => hn ⟨j, y, hj⟩)
    rw [hc] at h1
    cases h1
theorem L1.fin_ {a : Nat} {x e : Int} (ha : a < i) (hc : cl o a i = .fin x e) : cl o a (i + 1) = .fin x e := cl_fin_mono hc ha (Nat.le_succ i)
theorem L1.start (o : Nat → Int) : L1 o 0 [] := ⟨fun j a x h => by simp at h, fun j j' a x a' x' _ h => by simp at h, fun a h => absurd h (Nat.not_lt_zero a), fun k h => absurd h (Nat.not_lt_zero k), fun k h => absurd h (Nat.not_lt_zero k)⟩
theorem L1.push (h : L1 o i g) (ho : isOp (o i) = true) : L1 o (i + 1) (g ++ [(i, -1)]) := by
  have hs : ∀ {a d : Nat} {x : Int}, a < i → cl o a i = .run d x → cl o a (i + 1) = .run (d + 1) x := by
    intro a d x ha hc
    rw [cl_succ o a i ha, hc]
    unfold clS
    dsimp only
    rw [if_pos ho]
  have hb := isOp_iff.1 ho
  refine ⟨fun j a x hj => ?_, fun j j' a x a' x' hjj hj hj' => ?_, fun a ha hoa hn => ?_, fun k hk hk9 => ?_, fun k hk hk0 => ?_⟩
  · rw [List.getElem?_append] at hj
    split at hj
    · rename_i hl
      obtain ⟨h1, h2, h3⟩ := h.fr j a x hj
      refine ⟨by omega, h2, ?_⟩
      rw [hs h1 h3]
      congr 1
      simp
      omega
    · rename_i hl
      have h0 := lt_of_get hj
      simp at h0
      have e0 : j - g.length = 0 := by omega
      rw [e0] at hj
      simp at hj
      obtain ⟨rfl, rfl⟩ := hj
      refine ⟨by omega, ho, ?_⟩
      rw [cl_start]
      congr 1
      simp
      omega
  · rw [List.getElem?_append] at hj hj'
    split at hj'
    · rename_i hl
      rw [if_pos (by omega)] at hj
      exact h.up j j' a x a' x' hjj hj hj'
    · rename_i hl
      have h0 := lt_of_get hj'
      simp at h0
      rw [if_pos (by omega)] at hj
      have e0 : j' - g.length = 0 := by omega
      rw [e0] at hj'
      simp at hj'
      obtain ⟨rfl, rfl⟩ := hj'
      exact (h.fr j a x hj).1
  · by_cases hai : a = i
    · subst hai
      exact absurd (by simp) (hn g.length (-1))
    · obtain ⟨x, e, h1, h2⟩ := h.cl_ a (by omega) hoa (fun j x hj => hn j x (by rw [List.getElem?_append_left (lt_of_get hj)]; exact hj))
      exact ⟨x, e, L1.fin_ (by omega) h1, h2⟩
  · by_cases hki : k = i
    · subst hki
      omega
    · obtain ⟨a, h1, h2, h3⟩ := h.el k (by omega) hk9
      refine ⟨a, h1, h2, ?_⟩
      rcases h3 with ⟨d, h3⟩ | ⟨e, h3, h4⟩
      · exact .inl ⟨_, hs (by omega) h3⟩
      · exact .inr ⟨e, L1.fin_ (by omega) h3, h4⟩
  · by_cases hki : k = i
    · subst hki
      omega
    · obtain ⟨a, h1, h2, x, h3⟩ := h.en k (by omega) hk0
      exact ⟨a, h1, h2, x, L1.fin_ (by omega) h3⟩
theorem L1.skip (h : L1 o i g) (h1 : isOp (o i) = false) (h2 : o i ≠ 49) (h3 : o i ≠ 50) : L1 o (i + 1) g := by
  have hs : ∀ {a : Nat} {c : CS}, a < i → cl o a i = c → cl o a (i + 1) = c := by
    intro a c ha hc
    rw [cl_succ o a i ha, hc]
    unfold clS
    cases c
    · dsimp only
      rw [h1, if_neg (by decide), if_neg h2, if_neg h3]
    · rfl
  refine ⟨fun j a x hj => ?_, h.up, fun a ha hoa hn => ?_, fun k hk hk9 => ?_, fun k hk hk0 => ?_⟩
  · obtain ⟨a1, a2, a3⟩ := h.fr j a x hj
    exact ⟨by omega, a2, hs a1 a3⟩
  · by_cases hai : a = i
    · subst hai
      rw [h1] at hoa
      cases hoa
    · obtain ⟨x, e, b1, b2⟩ := h.cl_ a (by omega) hoa hn
      exact ⟨x, e, hs (by omega) b1, b2⟩
  · by_cases hki : k = i
    · subst hki
      exact absurd hk9 h2
    · obtain ⟨a, b1, b2, b3⟩ := h.el k (by omega) hk9
      refine ⟨a, b1, b2, ?_⟩
      rcases b3 with ⟨d, b3⟩ | ⟨e, b3, b4⟩
      · exact .inl ⟨_, hs (by omega) b3⟩
      · exact .inr ⟨e, hs (by omega) b3, b4⟩
  · by_cases hki : k = i
    · subst hki
      exact absurd hk0 h3
    · obtain ⟨a, b1, b2, x, b3⟩ := h.en k (by omega) hk0
      exact ⟨a, b1, b2, x, hs (by omega) b3⟩
theorem L1.else_ (h : L1 o i g) (h9 : o i = 49) {k0 a0 : Nat} {x0 : Int} (hk : g.length = k0 + 1) (hg : g[k0]? = some (a0, x0)) (hx : ¬ 0 ≤ x0) (ho : o a0 = 48) : L1 o (i + 1) (g.set k0 (a0, (i : Int))) := by
  have hni : isOp (o i) = false := isOp_not (by omega)
  have hdeep : ∀ {a d : Nat} {x : Int}, a < i → cl o a i = .run (d + 1) x → cl o a (i + 1) = .run (d + 1) x := by
    intro a d x ha hc
    rw [cl_succ o a i ha, hc]
    unfold clS
    dsimp only
    rw [hni, if_neg (by decide), if_pos h9, if_neg (by omega)]
  obtain ⟨t1, t2, t3⟩ := h.fr k0 a0 x0 hg
  have htop : cl o a0 (i + 1) = .run 0 i := by
    rw [cl_succ o a0 i t1, t3, hk, show k0 + 1 - 1 - k0 = 0 by omega]
    unfold clS
    dsimp only
    rw [hni, if_neg (by decide), if_pos h9, if_pos rfl, if_neg (by omega)]
  have hlow : ∀ {j a : Nat} {x : Int}, j ≠ k0 → g[j]? = some (a, x) → a < i ∧ cl o a (i + 1) = .run (g.length - 1 - j) x := by
    intro j a x hj hgj
    have hl := lt_of_get hgj
    obtain ⟨b1, b2, b3⟩ := h.fr j a x hgj
    obtain ⟨d, hd⟩ : ∃ d, g.length - 1 - j = d + 1 := ⟨g.length - 2 - j, by omega⟩
    rw [hd] at b3 ⊢
    exact ⟨b1, hdeep b1 b3⟩
  refine ⟨fun j a x hj => ?_, fun j j' a x a' x' hjj hj hj' => ?_, fun a ha hoa hn => ?_, fun k hk' hk9 => ?_, fun k hk' hk0 => ?_⟩
  · rw [List.length_set]
    by_cases hjk : j = k0
    · subst hjk
      rw [List.getElem?_set_self (by omega)] at hj
      cases hj
      refine ⟨by omega, t2, ?_⟩
      rw [htop, hk, show j + 1 - 1 - j = 0 by omega]
    · rw [List.getElem?_set_ne (fun e => hjk e.symm)] at hj
      obtain ⟨b1, b2⟩ := hlow hjk hj
      exact ⟨by omega, (h.fr j a x hj).2.1, b2⟩
  · have hx1 : ∃ y, g[j]? = some (a, y) := by
      by_cases hjk : j = k0
      · subst hjk
        rw [List.getElem?_set_self (by omega)] at hj
        cases hj
        exact ⟨_, hg⟩
      · rw [List.getElem?_set_ne (fun e => hjk e.symm)] at hj
        exact ⟨_, hj⟩
    have hx2 : ∃ y, g[j']? = some (a', y) := by
      by_cases hjk : j' = k0
      · subst hjk
        rw [List.getElem?_set_self (by omega)] at hj'
        cases hj'
        exact ⟨_, hg⟩
      · rw [List.getElem?_set_ne (fun e => hjk e.symm)] at hj'
        exact ⟨_, hj'⟩
    obtain ⟨y, hy⟩ := hx1
    obtain ⟨y', hy'⟩ := hx2
    exact h.up j j' a y a' y' hjj hy hy'
  · by_cases hai : a = i
    · subst hai
      rw [hni] at hoa
      cases hoa
    · obtain ⟨x, e, b1, b2⟩ := h.cl_ a (by omega) hoa (fun j x hj => by
        by_cases hjk : j = k0
        · subst hjk
          rw [hg] at hj
          cases hj
          exact hn j i (by rw [List.getElem?_set_self (by omega)])
        · exact hn j x (by rw [List.getElem?_set_ne (fun e => hjk e.symm)]; exact hj))
      exact ⟨x, e, L1.fin_ (by omega) b1, b2⟩
  · by_cases hki : k = i
    · subst hki
      exact ⟨a0, t1, t2, .inl ⟨0, htop⟩⟩
    · obtain ⟨a, b1, b2, b3⟩ := h.el k (by omega) hk9
      refine ⟨a, b1, b2, ?_⟩
      rcases b3 with ⟨d, b3⟩ | ⟨e, b3, b4⟩
      · obtain ⟨j, hj, hd⟩ := h.run_ (by omega) b2 b3
        by_cases hjk : j = k0
        · subst hjk
          rw [hg] at hj
          cases hj
          omega
        · exact .inl ⟨_, (hlow hjk hj).2⟩
      · exact .inr ⟨e, L1.fin_ (by omega) b3, b4⟩
  · by_cases hki : k = i
    · subst hki
      omega
    · obtain ⟨a, b1, b2, x, b3⟩ := h.en k (by omega) hk0
      exact ⟨a, b1, b2, x, L1.fin_ (by omega) b3⟩
theorem L1.end_ (h : L1 o i g) (h0 : o i = 50) {k0 a0 : Nat} {x0 : Int} (hk : g.length = k0 + 1) (hg : g[k0]? = some (a0, x0)) : L1 o (i + 1) (g.take k0) ∧ cl o a0 (i + 1) = .fin x0 i := by
  have hni : isOp (o i) = false := isOp_not (by omega)
  have hdeep : ∀ {a d : Nat} {x : Int}, a < i → cl o a i = .run (d + 1) x → cl o a (i + 1) = .run d x := by
    intro a d x ha hc
    rw [cl_succ o a i ha, hc]
    unfold clS
    dsimp only
    rw [hni, if_neg (by decide), if_neg (by omega), if_pos h0, if_neg (by omega)]
    rfl
  obtain ⟨t1, t2, t3⟩ := h.fr k0 a0 x0 hg
  have htop : cl o a0 (i + 1) = .fin x0 i := by
    rw [cl_succ o a0 i t1, t3, hk, show k0 + 1 - 1 - k0 = 0 by omega]
    unfold clS
    dsimp only
    rw [hni, if_neg (by decide), if_neg (by omega), if_pos h0, if_pos rfl]
  have htk : ∀ {j : Nat} {v : Nat × Int}, (g.take k0)[j]? = some v ↔ j < k0 ∧ g[j]? = some v := by
    intro j v
    rw [List.getElem?_take]
    split
    · rename_i hl
      exact ⟨fun h => ⟨hl, h⟩, fun h => h.2⟩
    · rename_i hl
      exact ⟨fun h => (by cases h), fun h => absurd h.1 hl⟩
  have hlen : (g.take k0).length = k0 := by rw [List.length_take]; omega
  refine ⟨⟨fun j a x hj => ?_, fun j j' a x a' x' hjj hj hj' => h.up j j' a x a' x' hjj (htk.1 hj).2 (htk.1 hj').2, fun a ha hoa hn => ?_, fun k hk' hk9 => ?_, fun k hk' hk0 => ?_⟩, htop⟩
  · obtain ⟨hjl, hj⟩ := htk.1 hj
    obtain ⟨b1, b2, b3⟩ := h.fr j a x hj
    rw [hlen]
    refine ⟨by omega, b2, ?_⟩
    rw [show g.length - 1 - j = (k0 - 1 - j) + 1 by omega] at b3
    exact hdeep b1 b3
  · by_cases hai : a = i
    · subst hai
      rw [hni] at hoa
      cases hoa
    · by_cases ha0 : a = a0
      · subst ha0
        exact ⟨x0, i, htop, by omega⟩
      · obtain ⟨x, e, b1, b2⟩ := h.cl_ a (by omega) hoa (fun j x hj => by
          have hl := lt_of_get hj
          by_cases hjk : j = k0
          · subst hjk
            rw [hg] at hj
            cases hj
            exact ha0 rfl
          · exact hn j x (htk.2 ⟨by omega, hj⟩))
        exact ⟨x, e, L1.fin_ (by omega) b1, b2⟩
  · by_cases hki : k = i
    · subst hki
      omega
    · obtain ⟨a, b1, b2, b3⟩ := h.el k (by omega) hk9
      refine ⟨a, b1, b2, ?_⟩
      rcases b3 with ⟨d, b3⟩ | ⟨e, b3, b4⟩
      · cases d with
        | zero =>
          obtain ⟨j, hj, hd⟩ := h.run_ (by omega) b2 b3
          have hl := lt_of_get hj
          have hjk : j = k0 := by omega
          subst hjk
          rw [hg] at hj
          cases hj
          exact .inr ⟨i, htop, by omega⟩
        | succ d => exact .inl ⟨d, hdeep (by omega) b3⟩
      · exact .inr ⟨e, L1.fin_ (by omega) b3, b4⟩
  · by_cases hki : k = i
    · subst hki
      exact ⟨a0, t1, t2, x0, htop⟩
    · obtain ⟨a, b1, b2, x, b3⟩ := h.en k (by omega) hk0
      exact ⟨a, b1, b2, x, L1.fin_ (by omega) b3⟩
end Go.Proofs.Ytbdmbkmokhaflaa.Th
end

section
/- layer 6: the scan, read: the stack, and where instructions lead -/
set_option linter.unusedVariables false
set_option linter.unusedSimpArgs false
namespace Go.Proofs.Ytbdmbkmokhaflaa.Th
open Go.Shape6 Go.Proofs.Ytbdmbkmokhaflaa.Q

def pr (b : Fr) : Nat × Int := (b.a, b.o)
abbrev opc (cs : List Ins) : Nat → Int := Q.opAt cs
/-- The loop that a Leave at k leaves. -/
def Tgt (cs : List Ins) (k a : Nat) : Prop := ∃ m0 fs0 j b, scanTo cs k = some (m0, fs0) ∧ topLoop cs (fs0.map Fr.a) = some j ∧ fs0[j]? = some b ∧ b.a = a
theorem Tgt.det {cs : List Ins} {k a a' : Nat} (h : Tgt cs k a) (h' : Tgt cs k a') : a = a' := by
  obtain ⟨m, fs, j, b, h1, h2, h3, h4⟩ := h
  obtain ⟨m', fs', j', b', h1', h2', h3', h4'⟩ := h'
  rw [h1] at h1'
  cases h1'
  rw [h2] at h2'
  cases h2'
  rw [h3] at h3'
  cases h3'
  rw [← h4, ← h4']
theorem last_get {α : Type} {l : List α} {b : α} (h : l.getLast? = some b) : ∃ k, l.length = k + 1 ∧ l[k]? = some b := by
  rw [List.getLast?_eq_getElem?] at h
  have := lt_of_get h
  exact ⟨l.length - 1, by omega, h⟩
theorem map_set_same {fs : List Fr} {j : Nat} {b b' : Fr} (h : fs[j]? = some b) (he : pr b' = pr b) : (fs.set j b').map pr = fs.map pr := by
  apply List.ext_getElem?
  intro q
  rw [List.getElem?_map, List.getElem?_map, List.getElem?_set]
  split
  · rename_i e
    subst e
    rw [if_pos (lt_of_get h), h]
    simp [he]
  · rfl
theorem setAll_get (m l : List Int) (x : Int) (k : Nat) (h0 : ∀ q ∈ l, 0 ≤ q) : (setAll m l x)[k]? = if (k : Int) ∈ l ∧ k < m.length then some x else m[k]? := by
  unfold setAll
  induction l generalizing m with
  | nil => simp
  | cons q l ih =>
    rw [List.foldl_cons, ih _ (fun y hy => h0 y (List.mem_cons_of_mem _ hy)), List.length_set, List.getElem?_set]
    have hq := h0 q (List.mem_cons_self ..)
    by_cases h1 : (k : Int) ∈ l ∧ k < m.length
    · rw [if_pos h1, if_pos ⟨List.mem_cons_of_mem _ h1.1, h1.2⟩]
    · rw [if_neg h1]
      by_cases h2 : q.toNat = k
      · rw [if_pos h2]
        by_cases h3 : k < m.length
        · rw [if_pos (by omega), if_pos ⟨by rw [List.mem_cons]; exact .inl (by omega), h3⟩]
        · rw [if_neg (by omega), if_neg (fun h => h3 h.2), List.getElem?_eq_none (by omega)]
      · rw [if_neg h2, if_neg]
        rintro ⟨h3, h4⟩
        rcases List.mem_cons.1 h3 with h3 | h3
        · omega
        · exact h1 ⟨h3, h4⟩
/-- Where the else of a block was read, it was read at depth 0. -/
theorem cl_else {o : Nat → Int} {a i : Nat} (ha : a < i) : (∀ d (x : Nat), cl o a i = .run d x → a < x ∧ x < i ∧ cl o a x = .run 0 (-1)) ∧ (∀ (x : Nat) (e : Int), 0 ≤ e → cl o a i = .fin x e → a < x ∧ x < i ∧ cl o a x = .run 0 (-1)) := by
  induction i with
  | zero => omega
  | succ i ih =>
    by_cases hai : a < i
    · obtain ⟨ih1, ih2⟩ := ih hai
      have hok := cl_ok o a i hai
      rw [cl_succ o a i hai]
      cases hc : cl o a i with
      | fin x e =>
        refine ⟨fun d x' h => (by cases h), fun x' e' he' h => ?_⟩
        cases h
        obtain ⟨h1, h2, h3⟩ := ih2 _ _ he' hc
        exact ⟨h1, by omega, h3⟩
      | run d x =>
        rw [hc] at hok
        have ih1' : ∀ x' : Nat, x = x' → a < x' ∧ x' < i + 1 ∧ cl o a x' = .run 0 (-1) := by
          intro x' hx
          subst hx
          obtain ⟨h1, h2, h3⟩ := ih1 d x' hc
          exact ⟨h1, by omega, h3⟩
        unfold clS
        dsimp only
        constructor
        · intro d' x' h
          split at h
          · cases h
            exact ih1' x' rfl
          · split at h
            · split at h
              · split at h
                · cases h
                · rename_i hd hx
                  have hxm : x = -1 := by
                    rcases hok with h5 | h5
                    · exact h5
                    · omega
                  cases h
                  exact ⟨hai, by omega, by rw [hc, hd, hxm]⟩
              · cases h
                exact ih1' x' rfl
            · split at h
              · split at h
                · cases h
                · cases h
                  exact ih1' x' rfl
              · cases h
                exact ih1' x' rfl
        · intro x' e' he' h
          split at h
          · cases h
          · split at h
            · split at h
              · split at h
                · cases h
                · cases h
              · cases h
            · split at h
              · split at h
                · cases h
                  exact ih1' x' rfl
                · cases h
              · cases h
    · obtain rfl : a = i := by omega
      rw [cl_start]
      exact ⟨fun d x h => (by injection h with h1 h2; omega), fun x e _ h => (by cases h)⟩
/-- Ahead of its end a block ran at depth 0. -/
theorem cl_end {o : Nat → Int} {a i : Nat} (ha : a < i) (x : Int) (e : Nat) (h : cl o a i = .fin x e) : a < e ∧ e < i ∧ cl o a e = .run 0 x := by
  induction i with
  | zero => omega
  | succ i ih =>
    by_cases hai : a < i
    · rw [cl_succ o a i hai] at h
      cases hc : cl o a i with
      | fin y z =>
        rw [hc] at h
        cases h
        obtain ⟨h1, h2, h3⟩ := ih hai hc
        exact ⟨h1, by omega, h3⟩
      | run d y =>
        rw [hc] at h
        unfold clS at h
        dsimp only at h
        split at h
        · cases h
        · split at h
          · split at h
            · split at h
              · injection h with h1 h2
                omega
              · cases h
            · cases h
          · split at h
            · split at h
              · rename_i hd
                injection h with h1 h2
                have : i = e := by omega
                subst this
                exact ⟨hai, by omega, by rw [hc, hd, h1]⟩
              · cases h
            · cases h
    · obtain rfl : a = i := by omega
      rw [cl_start] at h
      cases h
theorem run0_inj {o : Nat → Int} {a b k : Nat} {x y : Int} (hoa : isOp (o a) = true) (hob : isOp (o b) = true) (ha : a < k) (hb : b < k) (h1 : cl o a k = .run 0 x) (h2 : cl o b k = .run 0 y) : a = b := by
  rcases Nat.lt_trichotomy a b with h | h | h
  · have := cl_nest h hb hob h1 h2
    omega
  · exact h
  · have := cl_nest h ha hoa h2 h1
    omega
theorem scan_L1 {cs : List Ins} {i : Nat} {m : List Int} {fs : List Fr} (h : scanTo cs i = some (m, fs)) : L1 (opc cs) i (fs.map pr) := by
  induction i generalizing m fs with
  | zero =>
    cases h
    exact L1.start _
  | succ i ih =>
    obtain ⟨⟨m1, fs1⟩, h1, h2⟩ := Option.bind_eq_some_iff.1 h
    have hL := ih h1
    have h2 : scanStep cs i m1 fs1 = some (m, fs) := h2
    unfold scanStep at h2
    split at h2
    · rename_i ho
      split at h2
      · cases h2
        have := hL.push (isOp_iff.2 ho)
        rw [List.map_append]
        exact this
      · cases h2
    · rename_i ho
      split at h2
      · rename_i h9
        split at h2
        · cases h2
        · rename_i b hb
          split at h2
          · cases h2
          · rename_i hx
            cases h2
            obtain ⟨k0, hk, hg⟩ := last_get hb
            have e1 : fs1.length - 1 = k0 := by omega
            have hx1 : ¬ 0 ≤ b.o := fun hh => hx (.inl hh)
            have hx2 : opc cs b.a = 48 := Classical.byContradiction (fun hh => hx (.inr hh))
            have := hL.else_ h9 (k0 := k0) (a0 := b.a) (x0 := b.o) (by rw [List.length_map]; exact hk) (by rw [List.getElem?_map, hg]; rfl) hx1 hx2
            rw [e1, List.map_set]
            exact this
      · rename_i h9
        split at h2
        · rename_i h0
          split at h2
          · cases h2
          · rename_i b hb
            cases h2
            obtain ⟨k0, hk, hg⟩ := last_get hb
            have e1 : fs1.length - 1 = k0 := by omega
            have := (hL.end_ h0 (k0 := k0) (a0 := b.a) (x0 := b.o) (by rw [List.length_map]; exact hk) (by rw [List.getElem?_map, hg]; rfl)).1
            rw [e1, List.map_take]
            exact this
        · rename_i h0
          split at h2
          · split at h2
            · cases h2
            · rename_i j hj
              cases h2
              have hl := topLoop_lt hj
              rw [List.length_map] at hl
              rw [map_set_same (List.getElem?_eq_getElem hl) (by rw [List.getElem?_eq_getElem hl]; rfl)]
              exact hL.skip (isOp_not ho) h9 h0
          · cases h2
            exact hL.skip (isOp_not ho) h9 h0
end Go.Proofs.Ytbdmbkmokhaflaa.Th
end

section
/- layer 6: the scan, read: where instructions lead -/
set_option linter.unusedVariables false
set_option linter.unusedSimpArgs false
namespace Go.Proofs.Ytbdmbkmokhaflaa.Th
open Go.Shape6 Go.Proofs.Ytbdmbkmokhaflaa.Q

def val : CS → Int
  | .run _ x => x
  | .fin x e => if 0 ≤ x then x else e
def special (v : Int) : Prop := v = 48 ∨ v = 49 ∨ v = 50 ∨ v = 51 ∨ v = 52
theorem cl_keep {o : Nat → Int} {a i : Nat} (ha : a < i) (h : ∀ x, cl o a i = .run 0 x → o i ≠ 49 ∧ o i ≠ 50) :
    val (cl o a (i + 1)) = val (cl o a i) ∧ ∀ x e, cl o a (i + 1) = .fin x e → cl o a i = .fin x e := by
  rw [cl_succ o a i ha]
  cases hc : cl o a i with
  | fin x e => exact ⟨rfl, fun _ _ h => h⟩
  | run d x =>
    have h0 : d = 0 → o i ≠ 49 ∧ o i ≠ 50 := fun hd => h x (by rw [hc, hd])
    unfold clS
    dsimp only
    split
    · exact ⟨rfl, fun _ _ h => (by cases h)⟩
    · split
      · split
        · rename_i h9 hd
          exact absurd h9 (h0 hd).1
        · exact ⟨rfl, fun _ _ h => (by cases h)⟩
      · split
        · split
          · rename_i h5 hd
            exact absurd h5 (h0 hd).2
          · exact ⟨rfl, fun _ _ h => (by cases h)⟩
        · exact ⟨rfl, fun _ _ h => (by cases h)⟩
structure L2 (cs : List Ins) (i : Nat) (m : List Int) (fs : List Fr) : Prop where
  m1 : ∀ a, a < i → isOp (opc cs a) = true → m[a]? = some (val (cl (opc cs) a i))
  m2 : ∀ (a : Nat) (x : Int) (e : Nat), a < i → isOp (opc cs a) = true → cl (opc cs) a i = .fin x e → m[e]? = some (a : Int) ∧ (0 ≤ x → m[x.toNat]? = some (e : Int))
  m4 : ∀ k : Nat, k < i → opc cs k = 52 → ∃ a, Tgt cs k a ∧ ((∃ b ∈ fs, b.a = a ∧ (k : Int) ∈ b.l) ∨ ∃ (x : Int) (e : Nat), cl (opc cs) a i = .fin x e ∧ m[k]? = some (e : Int))
  m5 : ∀ k, k < cs.length → ¬ special (opc cs k) → m[k]? = some (-1)
  m6 : ∀ k, i ≤ k → k < cs.length → m[k]? = some (-1)
  lv : ∀ b ∈ fs, ∀ q ∈ b.l, ∃ k : Nat, q = (k : Int) ∧ k < i ∧ opc cs k = 52 ∧ Tgt cs k b.a
theorem Tgt.ok {cs : List Ins} {k a : Nat} (h : Tgt cs k a) : a < k ∧ opc cs a = 51 ∧ ∃ d x, cl (opc cs) a k = .run d x := by
  obtain ⟨m, fs, j, b, h1, h2, h3, h4⟩ := h
  have hL := scan_L1 h1
  have hf := hL.fr j b.a b.o (by rw [List.getElem?_map, h3]; rfl)
  have hl : loopAt cs (fs.map Fr.a) j = true := by
    have h2' := List.find?_some h2
    exact h2'
  have ho : opc cs b.a = 51 := by
    have := of_decide_eq_true hl
    rw [List.getElem?_map, h3] at this
    exact this
  rw [← h4]
  exact ⟨hf.1, ho, _, _, hf.2.2⟩
theorem fin_facts {cs : List Ins} {a i : Nat} {x : Int} {e : Nat} (ha : a < i) (h : cl (opc cs) a i = .fin x e) : a < e ∧ e < i ∧ opc cs e = 50 ∧ (x = -1 ∨ ((a : Int) < x ∧ x < e ∧ opc cs x.toNat = 49 ∧ opc cs a = 48)) := by
  have := cl_ok (opc cs) a i ha
  rw [h] at this
  rcases this with ⟨h1, h2⟩ | ⟨h1, h2, h3, h4⟩
  · omega
  · rw [Int.toNat_natCast] at h3
    exact ⟨by omega, by omega, h3, h4⟩
theorem run_facts {cs : List Ins} {a i d : Nat} {x : Int} (ha : a < i) (h : cl (opc cs) a i = .run d x) : x = -1 ∨ ((a : Int) < x ∧ x < i ∧ opc cs x.toNat = 49 ∧ opc cs a = 48) := by
  have := cl_ok (opc cs) a i ha
  rw [h] at this
  exact this
theorem L2.same {cs : List Ins} {i : Nat} {m : List Int} {fs fs' : List Fr} (h : L2 cs i m fs) (hi : i < cs.length) (hk : ∀ a, a < i → ∀ x, cl (opc cs) a i = .run 0 x → opc cs i ≠ 49 ∧ opc cs i ≠ 50) (hfs : ∀ b ∈ fs, ∃ b' ∈ fs', b'.a = b.a ∧ ∀ q ∈ b.l, q ∈ b'.l)
    (h4 : opc cs i = 52 → ∃ a, Tgt cs i a ∧ ∃ b ∈ fs', b.a = a ∧ (i : Int) ∈ b.l) (hlv : ∀ b ∈ fs', ∀ q ∈ b.l, ∃ k : Nat, q = (k : Int) ∧ k < i + 1 ∧ opc cs k = 52 ∧ Tgt cs k b.a) : L2 cs (i + 1) m fs' := by
  refine ⟨fun a ha ho => ?_, fun a x e ha ho hc => ?_, fun k hk' hk2 => ?_, h.m5, fun k hk1 hk2 => h.m6 k (by omega) hk2, hlv⟩
  · by_cases hai : a = i
    · subst hai
      rw [cl_start]
      exact h.m6 a (Nat.le_refl _) hi
    · rw [h.m1 a (by omega) ho, (cl_keep (by omega) (hk a (by omega))).1]
  · by_cases hai : a = i
    · subst hai
      rw [cl_start] at hc
      cases hc
    · exact h.m2 a x e (by omega) ho ((cl_keep (by omega) (hk a (by omega))).2 x e hc)
  · by_cases hki : k = i
    · subst hki
      obtain ⟨a, h1, h2⟩ := h4 hk2
      exact ⟨a, h1, .inl h2⟩
    · obtain ⟨a, h1, h2⟩ := h.m4 k (by omega) hk2
      refine ⟨a, h1, ?_⟩
      rcases h2 with ⟨b, hb, hb2, hb3⟩ | ⟨x, e, hc, hm⟩
      · obtain ⟨b', hb', e1, e2⟩ := hfs b hb
        exact .inl ⟨b', hb', e1.trans hb2, e2 _ hb3⟩
      · exact .inr ⟨x, e, cl_fin_mono hc (by have := h1.ok.1; omega) (Nat.le_succ i), hm⟩
theorem scan_L2 {cs : List Ins} {i : Nat} {m : List Int} {fs : List Fr} (hn : i ≤ cs.length) (h : scanTo cs i = some (m, fs)) : L2 cs i m fs := by
  induction i generalizing m fs with
  | zero =>
    cases h
    have hr : ∀ k, k < cs.length → (List.replicate cs.length (-1 : Int))[k]? = some (-1) := fun k hk => by rw [List.getElem?_replicate, if_pos hk]
    exact ⟨fun a ha => absurd ha (Nat.not_lt_zero a), fun a x e ha => absurd ha (Nat.not_lt_zero a), fun k hk => absurd hk (Nat.not_lt_zero k), fun k hk _ => hr k hk, fun k _ hk => hr k hk, fun b hb => (by cases hb)⟩
  | succ i ih =>
    obtain ⟨⟨m1, fs1⟩, h1, h2⟩ := Option.bind_eq_some_iff.1 h
    have hL := scan_L1 h1
    have hI := ih (by omega) h1
    have hok := scanTo_ok h1
    have h2 : scanStep cs i m1 fs1 = some (m, fs) := h2
    have hlv' : ∀ b ∈ fs1, ∀ q ∈ b.l, ∃ k : Nat, q = (k : Int) ∧ k < i + 1 ∧ opc cs k = 52 ∧ Tgt cs k b.a := fun b hb q hq => by
      obtain ⟨k, e1, e2, e3⟩ := hI.lv b hb q hq
      exact ⟨k, e1, by omega, e3⟩
    unfold scanStep at h2
    split at h2
    · rename_i ho
      have ho : opc cs i = 48 ∨ opc cs i = 51 := ho
      split at h2
      · cases h2
        refine hI.same (by omega) (fun a _ x _ => by omega) (fun b hb => ⟨b, List.mem_append_left _ hb, rfl, fun _ h => h⟩) (fun h => by omega) (fun b hb q hq => ?_)
        rcases List.mem_append.1 hb with hb | hb
        · exact hlv' b hb q hq
        · rw [List.mem_singleton.1 hb] at hq
          cases hq
      · cases h2
    · rename_i ho
      have ho : ¬ (opc cs i = 48 ∨ opc cs i = 51) := ho
      split at h2
      · rename_i h9
        have h9 : opc cs i = 49 := h9
        split at h2
        · cases h2
        · rename_i b hb
          split at h2
          · cases h2
          · rename_i hx
            cases h2
            obtain ⟨k0, hk, hg⟩ := last_get hb
            have e1 : fs1.length - 1 = k0 := by omega
            have hgm : (fs1.map pr)[k0]? = some (b.a, b.o) := by rw [List.getElem?_map, hg]; rfl
            have hlm : (fs1.map pr).length = k0 + 1 := by rw [List.length_map]; exact hk
            have hx1 : ¬ 0 ≤ b.o := fun hh => hx (.inl hh)
            have hx2 : opc cs b.a = 48 := Classical.byContradiction (fun hh => hx (.inr hh))
            obtain ⟨t1, t2, t3⟩ := hL.fr k0 b.a b.o hgm
            rw [hlm, show k0 + 1 - 1 - k0 = 0 by omega] at t3
            have htop : cl (opc cs) b.a (i + 1) = .run 0 i := by
              have h3 := (hL.else_ h9 hlm hgm hx1 hx2).fr k0 b.a i (by rw [List.getElem?_set_self (by omega)])
              rw [List.length_set, hlm, show k0 + 1 - 1 - k0 = 0 by omega] at h3
              exact h3.2.2
            have hkeep : ∀ a, a < i → isOp (opc cs a) = true → a ≠ b.a → val (cl (opc cs) a (i + 1)) = val (cl (opc cs) a i) ∧ ∀ x e, cl (opc cs) a (i + 1) = .fin x e → cl (opc cs) a i = .fin x e := fun a ha hoa hne => cl_keep ha (fun x hx => absurd (run0_inj hoa t2 ha t1 hx t3) hne)
            have hmem : b ∈ fs1 := getLast_mem' hb
            have hset : ∀ k, k ≠ b.a → (m1.set b.a (i : Int))[k]? = m1[k]? := fun k hk => List.getElem?_set_ne (fun e => hk e.symm)
            have hset0 : (m1.set b.a (i : Int))[b.a]? = some (i : Int) := List.getElem?_set_self (by rw [hok.1]; omega)
            rw [e1]
            refine ⟨fun a ha hoa => ?_, fun a x e ha hoa hc => ?_, fun k hk' hk2 => ?_, fun k hk1 hk2 => ?_, fun k hk1 hk2 => ?_, fun b' hb' q hq => ?_⟩
            · by_cases hab : a = b.a
              · subst hab
                rw [hset0, htop]
                rfl
              · by_cases hai : a = i
                · subst hai
                  exact absurd (isOp_iff.1 hoa) ho
                · rw [hset a hab, hI.m1 a (by omega) hoa, (hkeep a (by omega) hoa hab).1]
            · by_cases hab : a = b.a
              · subst hab
                rw [htop] at hc
                cases hc
              · by_cases hai : a = i
                · subst hai
                  exact absurd (isOp_iff.1 hoa) ho
                · have hc' := (hkeep a (by omega) hoa hab).2 x e hc
                  obtain ⟨f1, f2, f3, f4⟩ := fin_facts (by omega) hc'
                  obtain ⟨g1, g2⟩ := hI.m2 a x e (by omega) hoa hc'
                  refine ⟨by rw [hset e (fun hh => by rw [hh] at f3; omega)]; exact g1, fun h0 => ?_⟩
                  rw [hset x.toNat (fun hh => by
                    rcases f4 with f4 | f4
                    · omega
                    · rw [hh] at f4
                      omega)]
                  exact g2 h0
            · by_cases hki : k = i
              · subst hki
                omega
              · obtain ⟨a, h3, h4⟩ := hI.m4 k (by omega) hk2
                refine ⟨a, h3, ?_⟩
                rcases h4 with ⟨b', hb', hb2, hb3⟩ | ⟨x, e, hc, hm⟩
                · obtain ⟨q, hq, hqe⟩ := List.getElem_of_mem hb'
                  by_cases hqk : q = k0
                  · subst hqk
                    rw [List.getElem?_eq_getElem hq] at hg
                    have hbb : b' = b := by rw [← hqe]; exact Option.some.inj hg
                    exact .inl ⟨⟨b.a, i, b.l⟩, List.mem_set hq _, by rw [← hb2, hbb], by rw [← hbb]; exact hb3⟩
                  · exact .inl ⟨b', List.mem_iff_getElem?.2 ⟨q, by rw [List.getElem?_set_ne (fun e => hqk e.symm), List.getElem?_eq_getElem hq, hqe]⟩, hb2, hb3⟩
                · refine .inr ⟨x, e, cl_fin_mono hc (by have := h3.ok.1; omega) (Nat.le_succ i), ?_⟩
                  rw [hset k (fun hh => by rw [hh] at hk2; omega)]
                  exact hm
            · rw [hset k (fun hh => hk2 (by rw [hh]; exact .inl hx2))]
              exact hI.m5 k hk1 hk2
            · rw [hset k (by omega)]
              exact hI.m6 k (by omega) hk2
            · rcases List.mem_or_eq_of_mem_set hb' with hb' | hb'
              · exact hlv' b' hb' q hq
              · rw [hb'] at hq ⊢
                exact hlv' b hmem q hq
      · rename_i h9
        have h9 : opc cs i ≠ 49 := h9
        split at h2
        · rename_i h0
          have h0 : opc cs i = 50 := h0
          split at h2
          · cases h2
          · rename_i b hb
            cases h2
            obtain ⟨k0, hk, hg⟩ := last_get hb
            have e1 : fs1.length - 1 = k0 := by omega
            have hgm : (fs1.map pr)[k0]? = some (b.a, b.o) := by rw [List.getElem?_map, hg]; rfl
            have hlm : (fs1.map pr).length = k0 + 1 := by rw [List.length_map]; exact hk
            obtain ⟨t1, t2, t3⟩ := hL.fr k0 b.a b.o hgm
            rw [hlm, show k0 + 1 - 1 - k0 = 0 by omega] at t3
            have htop := (hL.end_ h0 hlm hgm).2
            have hkeep : ∀ a, a < i → isOp (opc cs a) = true → a ≠ b.a → val (cl (opc cs) a (i + 1)) = val (cl (opc cs) a i) ∧ ∀ x e, cl (opc cs) a (i + 1) = .fin x e → cl (opc cs) a i = .fin x e := fun a ha hoa hne => cl_keep ha (fun x hx => absurd (run0_inj hoa t2 ha t1 hx t3) hne)
            have hmem : b ∈ fs1 := getLast_mem' hb
            have hrf := run_facts t1 t3
            have hix : ∃ ix : Nat, (if 0 ≤ b.o then b.o.toNat else b.a) = ix ∧ ix < i ∧ (0 ≤ b.o → (ix : Int) = b.o ∧ opc cs ix = 49) ∧ (¬ 0 ≤ b.o → ix = b.a) := by
              by_cases hbo : 0 ≤ b.o
              · rw [if_pos hbo]
                rcases hrf with h3 | ⟨h3, h4, h5, h6⟩
                · omega
                · exact ⟨_, rfl, by omega, fun _ => ⟨by omega, h5⟩, fun h => absurd hbo h⟩
              · rw [if_neg hbo]
                exact ⟨_, rfl, t1, fun h => absurd h hbo, fun _ => rfl⟩
            obtain ⟨ix, hixe, hix1, hix2, hix3⟩ := hix
            rw [hixe, e1]
            have hml := hok.1
            have hl0 : ∀ q ∈ b.l, 0 ≤ q := fun q hq => ((hok.2.2 b hmem).2.2.2 q hq).1
            have hnl : ∀ k : Nat, opc cs k ≠ 52 → (k : Int) ∉ b.l := fun k hk2 hkl => by
              obtain ⟨k', f1, f2, f3, f4⟩ := hI.lv b hmem _ hkl
              have : k = k' := by omega
              rw [this] at hk2
              exact hk2 f3
            have hget : ∀ k : Nat, (k : Int) ∉ b.l → k ≠ i → k ≠ ix → (setAll ((m1.set i (b.a : Int)).set ix (i : Int)) b.l (i : Int))[k]? = m1[k]? := fun k g1 g2 g3 => by
              rw [setAll_get _ _ _ _ hl0, if_neg (fun hh => g1 hh.1), List.getElem?_set_ne (fun e => g3 e.symm), List.getElem?_set_ne (fun e => g2 e.symm)]
            have hgeti : (setAll ((m1.set i (b.a : Int)).set ix (i : Int)) b.l (i : Int))[i]? = some (b.a : Int) := by
              rw [setAll_get _ _ _ _ hl0, if_neg (fun hh => hnl i (by omega) hh.1), List.getElem?_set_ne (by omega), List.getElem?_set_self (by omega)]
            have hgetx : opc cs ix ≠ 52 → (setAll ((m1.set i (b.a : Int)).set ix (i : Int)) b.l (i : Int))[ix]? = some (i : Int) := fun hne => by
              rw [setAll_get _ _ _ _ hl0, if_neg (fun hh => hnl ix hne hh.1), List.getElem?_set_self (by rw [List.length_set]; omega)]
            have hgetl : ∀ k : Nat, (k : Int) ∈ b.l → (setAll ((m1.set i (b.a : Int)).set ix (i : Int)) b.l (i : Int))[k]? = some (i : Int) := fun k hkl => by
              rw [setAll_get _ _ _ _ hl0, if_pos ⟨hkl, by rw [List.length_set, List.length_set]; have := (hok.2.2 b hmem).2.2.2 _ hkl; omega⟩]
            have hba2 : opc cs b.a = 48 ∨ opc cs b.a = 51 := isOp_iff.1 t2
            refine ⟨fun a ha hoa => ?_, fun a x e ha hoa hc => ?_, fun k hk' hk2 => ?_, fun k hk1 hk2 => ?_, fun k hk1 hk2 => ?_, fun b' hb' q hq => hlv' b' (List.mem_of_mem_take hb') q hq⟩
            · have hoa2 := isOp_iff.1 hoa
              by_cases hai : a = i
              · subst hai
                exact absurd hoa2 ho
              · by_cases hab : a = b.a
                · rw [hab, htop]
                  show _ = some (if 0 ≤ b.o then b.o else (i : Int))
                  by_cases hbo : 0 ≤ b.o
                  · rw [if_pos hbo, hget b.a (hnl b.a (by omega)) (by omega) (fun hh => by have := (hix2 hbo).2; rw [← hh] at this; omega), hI.m1 b.a t1 t2, t3]
                    rfl
                  · have h7 := hgetx (by rw [hix3 hbo]; omega)
                    have e7 := hix3 hbo
                    rw [if_neg hbo]
                    rw [e7] at h7 ⊢
                    exact h7
                · rw [hget a (hnl a (by omega)) hai (fun hh => by
                    by_cases hbo : 0 ≤ b.o
                    · have := (hix2 hbo).2
                      rw [← hh] at this
                      omega
                    · exact hab (hh.trans (hix3 hbo))), hI.m1 a (by omega) hoa, (hkeep a (by omega) hoa hab).1]
            · have hoa2 := isOp_iff.1 hoa
              by_cases hai : a = i
              · subst hai
                exact absurd hoa2 ho
              · by_cases hab : a = b.a
                · subst hab
                  rw [htop] at hc
                  injection hc with hc1 hc2
                  have : e = i := by omega
                  subst this
                  refine ⟨hgeti, fun hx0 => ?_⟩
                  rw [← hc1] at hx0 ⊢
                  have h3 := hix2 hx0
                  rw [show b.o.toNat = ix by omega]
                  exact hgetx (by omega)
                · have hc' := (hkeep a (by omega) hoa hab).2 x e hc
                  obtain ⟨f1, f2, f3, f4⟩ := fin_facts (by omega) hc'
                  obtain ⟨g1, g2⟩ := hI.m2 a x e (by omega) hoa hc'
                  have hixe2 : opc cs ix ≠ 50 := by
                    by_cases hbo : 0 ≤ b.o
                    · have := (hix2 hbo).2
                      omega
                    · rw [hix3 hbo]
                      omega
                  refine ⟨by rw [hget e (hnl e (by omega)) (by omega) (fun hh => hixe2 (by rw [← hh]; exact f3))]; exact g1, fun hx0 => ?_⟩
                  rcases f4 with f4 | ⟨f4, f5, f6, f7⟩
                  · omega
                  · rw [hget x.toNat (hnl _ (by omega)) (by omega) (fun hh => by
                      by_cases hbo : 0 ≤ b.o
                      · obtain ⟨h3, h4⟩ := hix2 hbo
                        have p1 := (cl_else (o := opc cs) t1).1 0 ix (by rw [h3]; exact t3)
                        have p2 := (cl_else (o := opc cs) (by omega : a < i)).2 ix e (by omega) (by rw [← hh, show ((x.toNat : Nat) : Int) = x by omega]; exact hc')
                        exact hab (run0_inj hoa t2 p2.1 p1.1 p2.2.2 p1.2.2)
                      · rw [hh, hix3 hbo] at f6
                        omega)]
                    exact g2 hx0
            · by_cases hki : k = i
              · subst hki
                omega
              · obtain ⟨a, h3, h4⟩ := hI.m4 k (by omega) hk2
                refine ⟨a, h3, ?_⟩
                rcases h4 with ⟨b', hb', hb2, hb3⟩ | ⟨x, e, hc, hm⟩
                · obtain ⟨q, hq, hqe⟩ := List.getElem_of_mem hb'
                  by_cases hqk : q = k0
                  · subst hqk
                    rw [List.getElem?_eq_getElem hq] at hg
                    have hbb : b' = b := by rw [← hqe]; exact Option.some.inj hg
                    exact .inr ⟨b.o, i, by rw [← hb2, hbb]; exact htop, hgetl k (by rw [← hbb]; exact hb3)⟩
                  · exact .inl ⟨b', List.mem_iff_getElem?.2 ⟨q, by rw [List.getElem?_take, if_pos (by omega), List.getElem?_eq_getElem hq, hqe]⟩, hb2, hb3⟩
                · refine .inr ⟨x, e, cl_fin_mono hc (by have := h3.ok.1; omega) (Nat.le_succ i), ?_⟩
                  rw [hget k (fun hkl => by
                    obtain ⟨k', f1, f2, f3, f4⟩ := hI.lv b hmem _ hkl
                    have hkk : k = k' := by omega
                    subst hkk
                    have := Tgt.det f4 h3
                    rw [← this, t3] at hc
                    cases hc) hki (fun hh => by
                      by_cases hbo : 0 ≤ b.o
                      · have := (hix2 hbo).2
                        rw [← hh] at this
                        omega
                      · rw [hh, hix3 hbo] at hk2
                        omega)]
                  exact hm
            · have hsp : ∀ v, v = 48 ∨ v = 51 ∨ v = 49 ∨ v = 50 ∨ v = 52 → special v := fun v hv => by unfold special; omega
              rw [hget k (hnl k (fun hh => hk2 (hsp _ (by omega)))) (fun hh => hk2 (hsp _ (by rw [hh]; omega))) (fun hh => hk2 (hsp _ (by
                rw [hh]
                by_cases hbo : 0 ≤ b.o
                · have := (hix2 hbo).2
                  omega
                · rw [hix3 hbo]
                  omega)))]
              exact hI.m5 k hk1 hk2
            · rw [hget k (fun hkl => by have := (hok.2.2 b hmem).2.2.2 _ hkl; omega) (by omega) (by omega)]
              exact hI.m6 k (by omega) hk2
        · rename_i h0
          have h0 : opc cs i ≠ 50 := h0
          split at h2
          · rename_i h52
            split at h2
            · cases h2
            · rename_i j hj
              cases h2
              have hl := topLoop_lt hj
              rw [List.length_map] at hl
              have hgj := List.getElem?_eq_getElem hl
              rw [hgj, Option.getD_some]
              have htg : Tgt cs i fs1[j].a := ⟨m, fs1, j, fs1[j], h1, hj, hgj, rfl⟩
              refine hI.same (by omega) (fun a _ x _ => ⟨h9, h0⟩) (fun b hb => ?_) (fun _ => ⟨_, htg, ⟨fs1[j].a, fs1[j].o, fs1[j].l ++ [(i : Int)]⟩, List.mem_set hl _, rfl, by simp⟩) (fun b hb q hq => ?_)
              · obtain ⟨p, hp, hpe⟩ := List.getElem_of_mem hb
                by_cases hpj : p = j
                · subst hpj
                  refine ⟨_, List.mem_set hl _, by rw [← hpe], fun q hq => ?_⟩
                  rw [← hpe] at hq
                  exact List.mem_append_left _ hq
                · exact ⟨b, List.mem_iff_getElem?.2 ⟨p, by rw [List.getElem?_set_ne (fun e => hpj e.symm), List.getElem?_eq_getElem hp, hpe]⟩, rfl, fun _ h => h⟩
              · rcases List.mem_or_eq_of_mem_set hb with hb | hb
                · exact hlv' b hb q hq
                · rw [hb] at hq ⊢
                  rcases List.mem_append.1 hq with hq | hq
                  · exact hlv' fs1[j] (List.getElem_mem hl) q hq
                  · rw [List.mem_singleton.1 hq]
                    exact ⟨i, rfl, by omega, h52, htg⟩
          · rename_i h52
            cases h2
            exact hI.same (by omega) (fun a _ x _ => ⟨h9, h0⟩) (fun b hb => ⟨b, hb, rfl, fun _ h => h⟩) (fun h => absurd h h52) hlv'
end Go.Proofs.Ytbdmbkmokhaflaa.Th
end

section
/- layer 6: what the laws' small functions come to: rows of numbers compared, own instructions, what must come -/
set_option linter.unusedVariables false
set_option linter.unusedSimpArgs false
namespace Go.Proofs.Ytbdmbkmokhaflaa.Th
open Go.RowKit Go.Proofs.YtbdmbkmokhaflaaW.PrintWords Go.Proofs.YtbdmbkmokhaflaaW.Hb Go.Proofs.Ytbdmbkmokhaflaa.Q

theorem w64 {x : Int} (h0 : -9223372036854775808 ≤ x) (h1 : x ≤ 9223372036854775807) : wrap64 x = x := by unfold wrap64; omega
theorem rdN (l : List Int) (i : Nat) (hi : i < l.length) : rd l (i : Int) = l[i] := by simp [rd, List.getD_eq_getElem?_getD, hi]
theorem ints_l0 (a b : List Int) (hl : a.length = b.length) (hm : a.length ≤ 4611686018427387904) (d : Nat) : ∀ i : Nat, a.length - i = d → i ≤ a.length → Ev (fun k => weighhouselaw03_Ints.l0 k a b (i : Int)) (decide (a.drop i = b.drop i)) := by
  induction d with
  | zero =>
    intro i hd hi
    have e1 : a.drop i = b.drop i := by rw [List.drop_eq_nil_of_le (by omega), List.drop_eq_nil_of_le (by omega)]
    rw [decide_eq_true e1]
    refine Ev.step (f := fun _ => some true) (fun k => ?_) (Ev.now _)
    simp only [weighhouselaw03_Ints.l0]
    rw [if_neg (by omega)]
  | succ d ih =>
    intro i hd hi
    have ha : i < a.length := by omega
    have hb : i < b.length := by omega
    by_cases he : a[i] = b[i]
    · have e1 : decide (a.drop i = b.drop i) = decide (a.drop (i + 1) = b.drop (i + 1)) := by
        rw [List.drop_eq_getElem_cons ha, List.drop_eq_getElem_cons hb, he]
        exact decide_eq_decide.2 ⟨fun h => (List.cons.inj h).2, fun h => by rw [h]⟩
      rw [e1]
      refine Ev.step (f := fun k => weighhouselaw03_Ints.l0 k a b ((i + 1 : Nat) : Int)) (fun k => ?_) (ih (i + 1) (by omega) (by omega))
      simp only [weighhouselaw03_Ints.l0]
      rw [if_pos (by omega), if_pos (by omega), if_pos (by omega), rdN a i ha, rdN b i hb, if_pos he, w64 (by omega) (by omega)]
      rfl
    · have e1 : decide (a.drop i = b.drop i) = false := by
        rw [List.drop_eq_getElem_cons ha, List.drop_eq_getElem_cons hb]
        exact decide_eq_false (fun h => he (List.cons.inj h).1)
      rw [e1]
      refine Ev.step (f := fun _ => some false) (fun k => ?_) (Ev.now _)
      simp only [weighhouselaw03_Ints.l0]
      rw [if_pos (by omega), if_pos (by omega), if_pos (by omega), rdN a i ha, rdN b i hb, if_neg he]
theorem ints_ev (a b : List Int) (hm : a.length ≤ 4611686018427387904) : Ev (fun k => weighhouselaw03_Ints.f k a b) (decide (a = b)) := by
  by_cases hl : a.length = b.length
  · refine Ev.congr (f := fun k => weighhouselaw03_Ints.l0 k a b ((0 : Nat) : Int)) (fun k => ?_) ?_
    · unfold weighhouselaw03_Ints.f
      rw [if_pos (by omega)]
      rfl
    · have h := ints_l0 a b hl hm a.length 0 (by omega) (by omega)
      simpa using h
  · have e : decide (a = b) = false := decide_eq_false (fun e => hl (by rw [e]))
    rw [e]
    refine Ev.congr (f := fun _ => some false) (fun k => ?_) (Ev.now _)
    unfold weighhouselaw03_Ints.f
    rw [if_neg (by omega)]
theorem own_f (l : List Ins) (h : l.length ≤ 1048576) : weighhouselaw06_Own.f l = some l := by
  unfold weighhouselaw06_Own.f
  rw [Option.bind_some, if_pos (by simp; omega)]
  rfl
theorem match_none {l : List Ins} (hl : l.length ≤ 1048576) (h : scanAll l = none) : shape_Match.f l = some ([], 31) := by
  unfold shape_Match.f
  rw [if_pos hl, h]
theorem match_some {l : List Ins} {m : List Int} (hl : l.length ≤ 1048576) (h : scanAll l = some m) : shape_Match.f l = some (m, 0) := by
  unfold shape_Match.f
  rw [if_pos hl, h]
theorem knows_ev : Ev (fun k => weighhouselaw06_knows.f k) true := by
  have h1 : shape_Match.f (([(⟨48, 0⟩ : Ins), (⟨49, 0⟩ : Ins), (⟨50, 0⟩ : Ins)] : List Ins)) = some ([1, 2, 0], 0) := match_some (by decide) (by decide +kernel)
  have h2 : shape_Match.f (([(⟨51, 1⟩ : Ins), (⟨52, 0⟩ : Ins), (⟨50, 0⟩ : Ins)] : List Ins)) = some ([2, 2, 0], 0) := match_some (by decide) (by decide +kernel)
  refine Ev.congr (f := fun k => (weighhouselaw03_Ints.f k [1, 2, 0] [1, 2, 0]).bind fun t122 => (if t122 = true then ((weighhouselaw03_Ints.f k [2, 2, 0] [2, 2, 0]).bind fun t126 => (some t126)) else (some false))) (fun k => ?_) ?_
  · unfold weighhouselaw06_knows.f
    rw [h1, Option.bind_some, h2, Option.bind_some]
    show ((weighhouselaw06_num.f 0).bind fun t117 => (weighhouselaw06_num.f 0).bind fun t118 => _) = _
    rw [show weighhouselaw06_num.f 0 = some 0 from rfl, Option.bind_some, Option.bind_some, if_pos (by rw [w64 (by omega) (by omega)]; rfl)]
  · refine Ev.bind (a := true) (ints_ev [1, 2, 0] [1, 2, 0] (by decide)) ?_
    refine Ev.congr (f := fun k => (weighhouselaw03_Ints.f k [2, 2, 0] [2, 2, 0]).bind fun t126 => (some t126)) (fun k => if_pos rfl) ?_
    exact Ev.bind (a := true) (ints_ev [2, 2, 0] [2, 2, 0] (by decide)) (Ev.now _)
end Go.Proofs.Ytbdmbkmokhaflaa.Th
end

section
/- layer 6: the document's answer, its first rounds: what closes a block, the pairs, the check of elses and ends -/
set_option linter.unusedVariables false
set_option linter.unusedSimpArgs false
namespace Go.Proofs.Ytbdmbkmokhaflaa.Th
open Go.RowKit Go.Proofs.YtbdmbkmokhaflaaW.PrintWords Go.Proofs.YtbdmbkmokhaflaaW.Hb
open Go.Shape6 Go.Proofs.Ytbdmbkmokhaflaa.Q

def ends (c : CS) : Int × Int := match c with | .run _ x => (x, -1) | .fin x e => (x, e)
def xe (cs : List Ins) (a : Nat) : Int × Int := ends (cl (opc cs) a cs.length)
theorem rdI (l : List Ins) (n : Nat) (hn : n < l.length) : (rd_T31 l (n : Int)).f0 = opc l n := by
  show _ = Q.opAt l n
  rw [opAt_lt hn]
  simp [rd_T31, List.getD_eq_getElem?_getD, hn]
theorem cl_depth {o : Nat → Int} {a i d : Nat} {x : Int} (h : cl o a i = .run d x) : d ≤ i := by
  induction i generalizing d x with
  | zero => cases h; omega
  | succ i ih =>
    unfold cl at h
    split at h
    · cases h
      omega
    · cases hc : cl o a i with
      | fin y e => rw [hc] at h; cases h
      | run d' y =>
        have := ih hc
        rw [hc] at h
        unfold clS at h
        dsimp only at h
        split at h
        · cases h; omega
        · split at h
          · split at h
            · split at h
              · cases h
              · cases h; omega
            · cases h; omega
          · split at h
            · split at h
              · cases h
              · cases h; omega
            · cases h; omega
theorem closes_l0 (cs : List Ins) (hm : cs.length ≤ 4611686018427387904) (a : Nat) (ha : a < cs.length) (q : Nat) : ∀ (i d : Nat) (x : Int), cs.length - i = q → a < i → i ≤ cs.length → cl (opc cs) a i = .run d x →
    Ev (fun k => weighhouseref06_closes.l0 k cs (a : Int) (d : Int) x (i : Int)) (xe cs a) := by
  induction q with
  | zero =>
    intro i d x hq hai hi hc
    have e : i = cs.length := by omega
    subst e
    have e2 : xe cs a = (x, -1) := by unfold xe; rw [hc]; rfl
    rw [e2]
    refine Ev.step (f := fun _ => some (x, -1)) (fun k => ?_) (Ev.now _)
    simp only [weighhouseref06_closes.l0]
    rw [if_neg (by omega)]
  | succ q ih =>
    intro i d x hq hai hi hc
    have hil : i < cs.length := by omega
    have hd := cl_depth hc
    have hs := cl_succ (opc cs) a i hai
    rw [hc] at hs
    unfold clS at hs
    dsimp only at hs
    have hw : wrap64 ((i : Int) + 1) = ((i + 1 : Nat) : Int) := by rw [w64 (by omega) (by omega)]; rfl
    have hdone : ∀ {x' e' : Int}, cl (opc cs) a (i + 1) = .fin x' e' → xe cs a = (x', e') := fun {x' e'} h => by
      unfold xe
      rw [cl_fin_mono h (by omega) (by omega : i + 1 ≤ cs.length)]
      rfl
    by_cases ho : opc cs i = 48 ∨ opc cs i = 51
    · rw [if_pos (isOp_iff.2 ho)] at hs
      refine Ev.step (f := fun k => weighhouseref06_closes.j1 k cs (a : Int) (d : Int) x (i : Int) (opc cs i) true) (fun k => ?_) ?_
      · simp only [weighhouseref06_closes.l0]
        rw [if_pos (by omega), if_pos (by omega), rdI cs i hil]
        rcases ho with h | h
        · rw [if_pos h, h]
          rfl
        · rw [if_neg (by omega), h]
          rfl
      · refine Ev.step (f := fun k => weighhouseref06_closes.l0 k cs (a : Int) ((d + 1 : Nat) : Int) x ((i + 1 : Nat) : Int)) (fun k => ?_) (ih (i + 1) (d + 1) x (by omega) (by omega) (by omega) hs)
        simp only [weighhouseref06_closes.j1]
        rw [if_true, hw, w64 (by omega) (by omega)]
        rfl
    · rw [isOp_not ho, if_neg (by decide)] at hs
      refine Ev.step (f := fun k => weighhouseref06_closes.j1 k cs (a : Int) (d : Int) x (i : Int) (opc cs i) false) (fun k => ?_) ?_
      · simp only [weighhouseref06_closes.l0]
        rw [if_pos (by omega), if_pos (by omega), rdI cs i hil, if_neg (by omega), show (opc cs i == 51) = false by simp; omega]
      · by_cases h9 : opc cs i = 49
        · rw [if_pos h9] at hs
          have hj2 : ∀ b : Bool, (b = true ↔ (d = 0 ∧ (0 ≤ x ∨ opc cs a ≠ 48))) → Ev (fun k => weighhouseref06_closes.j2 k cs (a : Int) (d : Int) x (i : Int) b) (xe cs a) := by
            intro b hb
            by_cases hd0 : d = 0
            · rw [if_pos hd0] at hs
              by_cases hx : 0 ≤ x ∨ opc cs a ≠ 48
              · rw [if_pos hx] at hs
                rw [hdone hs, hb.2 ⟨hd0, hx⟩]
                refine Ev.step (f := fun _ => some (-1, -1)) (fun k => ?_) (Ev.now _)
                simp only [weighhouseref06_closes.j2]
                rw [if_true]
              · rw [if_neg hx] at hs
                have hbf : b = false := by
                  cases b
                  · rfl
                  · exact absurd (hb.1 rfl).2 hx
                rw [hbf]
                refine Ev.step (f := fun k => weighhouseref06_closes.l0 k cs (a : Int) ((0 : Nat) : Int) (i : Int) ((i + 1 : Nat) : Int)) (fun k => ?_) (ih (i + 1) 0 i (by omega) (by omega) (by omega) hs)
                simp only [weighhouseref06_closes.j2]
                rw [if_neg (by decide), if_pos (by omega), hw, hd0]
            · rw [if_neg hd0] at hs
              have hbf : b = false := by
                cases b
                · rfl
                · exact absurd (hb.1 rfl).1 hd0
              rw [hbf]
              refine Ev.step (f := fun k => weighhouseref06_closes.l0 k cs (a : Int) (d : Int) x ((i + 1 : Nat) : Int)) (fun k => ?_) (ih (i + 1) d x (by omega) (by omega) (by omega) hs)
              simp only [weighhouseref06_closes.j2]
              rw [if_neg (by decide), if_neg (by omega), hw]
          by_cases hd0 : d = 0
          · by_cases hx : x ≥ 0
            · refine Ev.step (f := fun k => weighhouseref06_closes.j2 k cs (a : Int) (d : Int) x (i : Int) true) (fun k => ?_) (hj2 true ⟨fun _ => ⟨hd0, .inl hx⟩, fun _ => rfl⟩)
              simp only [weighhouseref06_closes.j1]
              rw [if_neg (by decide), if_pos h9, if_pos (by omega), if_pos hx]
            · refine Ev.step (f := fun k => weighhouseref06_closes.j2 k cs (a : Int) (d : Int) x (i : Int) (opc cs a != 48)) (fun k => ?_) (hj2 _ ⟨fun h => ⟨hd0, .inr (by simpa using h)⟩, fun h => by
                rcases h.2 with h | h
                · exact absurd h hx
                · simpa using h⟩)
              simp only [weighhouseref06_closes.j1]
              rw [if_neg (by decide), if_pos h9, if_pos (by omega), if_neg hx, if_pos (by omega), if_pos (by omega), rdI cs a ha]
          · refine Ev.step (f := fun k => weighhouseref06_closes.j2 k cs (a : Int) (d : Int) x (i : Int) false) (fun k => ?_) (hj2 false ⟨fun h => (by cases h), fun h => absurd h.1 hd0⟩)
            simp only [weighhouseref06_closes.j1]
            rw [if_neg (by decide), if_pos h9, if_neg (by omega)]
        · rw [if_neg h9] at hs
          by_cases h0 : opc cs i = 50
          · rw [if_pos h0] at hs
            by_cases hd0 : d = 0
            · rw [if_pos hd0] at hs
              rw [hdone hs]
              refine Ev.step (f := fun _ => some (x, (i : Int))) (fun k => ?_) (Ev.now _)
              simp only [weighhouseref06_closes.j1]
              rw [if_neg (by decide), if_neg h9, if_pos h0, if_pos (by omega)]
            · rw [if_neg hd0] at hs
              refine Ev.step (f := fun k => weighhouseref06_closes.l0 k cs (a : Int) ((d - 1 : Nat) : Int) x ((i + 1 : Nat) : Int)) (fun k => ?_) (ih (i + 1) (d - 1) x (by omega) (by omega) (by omega) hs)
              simp only [weighhouseref06_closes.j1]
              rw [if_neg (by decide), if_neg h9, if_pos h0, if_neg (by omega), hw, w64 (by omega) (by omega), show (d : Int) - 1 = ((d - 1 : Nat) : Int) by omega]
          · rw [if_neg h0] at hs
            refine Ev.step (f := fun k => weighhouseref06_closes.l0 k cs (a : Int) (d : Int) x ((i + 1 : Nat) : Int)) (fun k => ?_) (ih (i + 1) d x (by omega) (by omega) (by omega) hs)
            simp only [weighhouseref06_closes.j1]
            rw [if_neg (by decide), if_neg h9, if_neg h0, hw]
theorem closes_ev (cs : List Ins) (hm : cs.length ≤ 4611686018427387904) (a : Nat) (ha : a < cs.length) : Ev (fun k => weighhouseref06_closes.f k cs (a : Int)) (xe cs a) := by
  refine Ev.congr (f := fun k => weighhouseref06_closes.l0 k cs (a : Int) ((0 : Nat) : Int) (-1) ((a + 1 : Nat) : Int)) (fun k => ?_) (closes_l0 cs hm a ha _ (a + 1) 0 (-1) rfl (by omega) (by omega) (cl_start _ _))
  unfold weighhouseref06_closes.f
  rw [w64 (by omega) (by omega)]
  rfl
/-- What ends mean. -/
theorem xe_ok {cs : List Ins} {a : Nat} (ha : a < cs.length) (h : 0 ≤ (xe cs a).2) : ∃ (x : Int) (e : Nat), cl (opc cs) a cs.length = .fin x e ∧ xe cs a = (x, (e : Int)) := by
  unfold xe at h ⊢
  cases hc : cl (opc cs) a cs.length with
  | run d x => rw [hc] at h; exact absurd h (by show ¬ (0 : Int) ≤ -1; decide)
  | fin x e =>
    rw [hc] at h
    have h : 0 ≤ e := h
    exact ⟨x, e.toNat, by rw [Int.toNat_of_nonneg h], by rw [Int.toNat_of_nonneg h]; rfl⟩
theorem xe_of {cs : List Ins} {a : Nat} {x e : Int} (h : cl (opc cs) a cs.length = .fin x e) : xe cs a = (x, e) := by unfold xe; rw [h]; rfl
/-- The pairs, round by round. -/
def mBs (cs : List Ins) (i : Nat) (m : List Int) : List Int :=
  if isOp (opc cs i) = true then
    (if 0 ≤ (xe cs i).1 then (((m.set i (xe cs i).2).set (xe cs i).2.toNat (i : Int)).set i (xe cs i).1).set (xe cs i).1.toNat (xe cs i).2 else (m.set i (xe cs i).2).set (xe cs i).2.toNat (i : Int))
  else m
def mB (cs : List Ins) : Nat → List Int
  | 0 => List.replicate cs.length (-1)
  | i + 1 => mBs cs i (mB cs i)
theorem mBs_len (cs : List Ins) (i : Nat) (m : List Int) : (mBs cs i m).length = m.length := by
  unfold mBs
  split
  · split <;> simp
  · rfl
theorem mB_len (cs : List Ins) (i : Nat) : (mB cs i).length = cs.length := by
  induction i with
  | zero => simp [mB]
  | succ i ih => rw [mB, mBs_len, ih]
theorem B_step (cs : List Ins) (hm : cs.length ≤ 4611686018427387904) (i : Nat) (hi : i < cs.length) (m : List Int) (hl : m.length = cs.length) (r : List Int × Int)
    (hok : (isOp (opc cs i) = true → 0 ≤ (xe cs i).2) → Ev (fun k => weighhouseref06_Match.l1 k cs (mBs cs i m) ((i + 1 : Nat) : Int)) r) (hno : isOp (opc cs i) = true → (xe cs i).2 < 0 → r = ([], 31)) :
    Ev (fun k => weighhouseref06_Match.l1 k cs m (i : Int)) r := by
  have hw : wrap64 ((i : Int) + 1) = ((i + 1 : Nat) : Int) := by rw [w64 (by omega) (by omega)]; rfl
  by_cases ho : opc cs i = 48 ∨ opc cs i = 51
  · have hop := isOp_iff.2 ho
    refine Ev.step (f := fun k => weighhouseref06_Match.j2 k cs m (i : Int) false) (fun k => ?_) ?_
    · simp only [weighhouseref06_Match.l1]
      rw [if_pos (by omega), if_pos (by omega), rdI cs i hi]
      rcases ho with h | h
      · rw [if_pos h]
      · rw [if_neg (by omega), h]
        rfl
    · by_cases he : (xe cs i).2 < 0
      · rw [hno hop he]
        refine Ev.step (f := fun k => (weighhouseref06_closes.f k cs (i : Int)).bind fun bt230 => (if bt230.2 < 0 then (some (([] : List Int), (31 : Int))) else (if 0 ≤ (i : Int) then (if (i : Int) < (m.length : Int) then (if 0 ≤ bt230.2 then (if bt230.2 < (m.length : Int) then ((some ((m.set (i : Int).toNat bt230.2).set (bt230.2 : Int).toNat (i : Int) : List Int)).bind fun y233 => (if bt230.1 ≥ 0 then (if 0 ≤ bt230.1 then (if bt230.1 < (m.length : Int) then (weighhouseref06_Match.l1 k cs ((y233.set (i : Int).toNat bt230.1).set (bt230.1 : Int).toNat bt230.2) (wrap64 ((i : Int) + 1))) else (none)) else (none)) else (weighhouseref06_Match.l1 k cs y233 (wrap64 ((i : Int) + 1))))) else (none)) else (none)) else (none)) else (none)))) (fun k => ?_) ?_
        · simp only [weighhouseref06_Match.j2]
          rw [if_neg (by decide)]
        · refine Ev.bind (closes_ev cs hm i hi) ?_
          exact Ev.congr (f := fun _ => some ([], 31)) (fun k => if_pos he) (Ev.now _)
      · obtain ⟨x, e, hc, hxe⟩ := xe_ok hi (by omega)
        obtain ⟨f1, f2, f3, f4⟩ := fin_facts hi hc
        have hmb : mBs cs i m = if 0 ≤ x then (((m.set i (e : Int)).set e (i : Int)).set i x).set x.toNat (e : Int) else (m.set i (e : Int)).set e (i : Int) := by
          unfold mBs
          rw [if_pos hop, hxe]
          simp only [Int.toNat_natCast]
        have h := hok (fun _ => by omega)
        rw [hmb] at h
        refine Ev.step (f := fun k => (weighhouseref06_closes.f k cs (i : Int)).bind fun bt230 => (if bt230.2 < 0 then (some (([] : List Int), (31 : Int))) else (if 0 ≤ (i : Int) then (if (i : Int) < (m.length : Int) then (if 0 ≤ bt230.2 then (if bt230.2 < (m.length : Int) then ((some ((m.set (i : Int).toNat bt230.2).set (bt230.2 : Int).toNat (i : Int) : List Int)).bind fun y233 => (if bt230.1 ≥ 0 then (if 0 ≤ bt230.1 then (if bt230.1 < (m.length : Int) then (weighhouseref06_Match.l1 k cs ((y233.set (i : Int).toNat bt230.1).set (bt230.1 : Int).toNat bt230.2) (wrap64 ((i : Int) + 1))) else (none)) else (none)) else (weighhouseref06_Match.l1 k cs y233 (wrap64 ((i : Int) + 1))))) else (none)) else (none)) else (none)) else (none)))) (fun k => ?_) ?_
        · simp only [weighhouseref06_Match.j2]
          rw [if_neg (by decide)]
        · refine Ev.bind (closes_ev cs hm i hi) ?_
          rw [hxe]
          by_cases hx : 0 ≤ x
          · rw [if_pos hx] at h
            refine Ev.congr (fun k => ?_) h
            dsimp only
            rw [if_neg (by omega), if_pos (by omega), if_pos (by omega), if_pos (by omega), if_pos (by omega), Option.bind_some, if_pos hx, if_pos hx, if_pos (by omega), hw, Int.toNat_natCast, Int.toNat_natCast]
          · rw [if_neg hx] at h
            refine Ev.congr (fun k => ?_) h
            dsimp only
            rw [if_neg (by omega), if_pos (by omega), if_pos (by omega), if_pos (by omega), if_pos (by omega), Option.bind_some, if_neg hx, hw, Int.toNat_natCast, Int.toNat_natCast]
  · have h := hok (fun hh => absurd (isOp_iff.1 hh) ho)
    unfold mBs at h
    rw [isOp_not ho, if_neg (by decide)] at h
    refine Ev.step (f := fun k => weighhouseref06_Match.j2 k cs m (i : Int) true) (fun k => ?_) ?_
    · simp only [weighhouseref06_Match.l1]
      rw [if_pos (by omega), if_pos (by omega), rdI cs i hi, if_neg (by omega), show (opc cs i != 51) = true by simp; omega]
    · refine Ev.step (fun k => ?_) h
      simp only [weighhouseref06_Match.j2]
      rw [if_true, hw]
theorem B_fail (cs : List Ins) (hm : cs.length ≤ 4611686018427387904) (q : Nat) : ∀ (i : Nat) (m : List Int), cs.length - i = q → i ≤ cs.length → m.length = cs.length → (∃ a, i ≤ a ∧ a < cs.length ∧ isOp (opc cs a) = true ∧ (xe cs a).2 < 0) →
    Ev (fun k => weighhouseref06_Match.l1 k cs m (i : Int)) ([], 31) := by
  induction q with
  | zero =>
    rintro i m hq hi hl ⟨a, h1, h2, _⟩
    omega
  | succ q ih =>
    rintro i m hq hi hl ⟨a, h1, h2, h3, h4⟩
    refine B_step cs hm i (by omega) m hl _ (fun hh => ?_) (fun _ _ => rfl)
    refine ih (i + 1) _ (by omega) (by omega) (by rw [mBs_len]; exact hl) ⟨a, ?_, h2, h3, h4⟩
    by_cases hai : a = i
    · rw [hai] at h3 h4
      have := hh h3
      omega
    · omega
theorem B_ok (cs : List Ins) (hm : cs.length ≤ 4611686018427387904) (r : List Int × Int) (hH : ∀ a, a < cs.length → isOp (opc cs a) = true → 0 ≤ (xe cs a).2) (hr : Ev (fun k => weighhouseref06_Match.l2 k cs (mB cs cs.length) ((0 : Nat) : Int)) r) (q : Nat) : ∀ (i : Nat), cs.length - i = q → i ≤ cs.length →
    Ev (fun k => weighhouseref06_Match.l1 k cs (mB cs i) (i : Int)) r := by
  induction q with
  | zero =>
    intro i hq hi
    have e : i = cs.length := by omega
    subst e
    refine Ev.step (fun k => ?_) hr
    simp only [weighhouseref06_Match.l1]
    rw [if_neg (by omega)]
    rfl
  | succ q ih =>
    intro i hq hi
    exact B_step cs hm i (by omega) _ (mB_len _ _) _ (fun _ => ih (i + 1) (by omega) (by omega)) (fun ho he => by have := hH i (by omega) ho; omega)
def bad (cs : List Ins) (m : List Int) (k : Nat) : Prop := (opc cs k = 49 ∨ opc cs k = 50) ∧ rd m (k : Int) < 0
theorem C_step (cs : List Ins) (hm : cs.length ≤ 4611686018427387904) (i : Nat) (hi : i < cs.length) (m : List Int) (hl : m.length = cs.length) (r : List Int × Int) (hok : ¬ bad cs m i → Ev (fun k => weighhouseref06_Match.l2 k cs m ((i + 1 : Nat) : Int)) r) (hno : bad cs m i → r = ([], 31)) :
    Ev (fun k => weighhouseref06_Match.l2 k cs m (i : Int)) r := by
  have hw : wrap64 ((i : Int) + 1) = ((i + 1 : Nat) : Int) := by rw [w64 (by omega) (by omega)]; rfl
  by_cases hb : bad cs m i
  · rw [hno hb]
    refine Ev.step (f := fun _ => some ([], 31)) (fun k => ?_) (Ev.now _)
    simp only [weighhouseref06_Match.l2]
    rw [if_pos (by omega), if_pos (by omega), rdI cs i hi]
    rcases hb.1 with h | h
    · rw [if_pos h, if_pos (by omega), if_pos hb.2]
    · rw [if_neg (by omega), if_pos h, if_pos (by omega), if_pos hb.2]
  · refine Ev.step (fun k => ?_) (hok hb)
    simp only [weighhouseref06_Match.l2]
    rw [if_pos (by omega), if_pos (by omega), rdI cs i hi, hw]
    by_cases h9 : opc cs i = 49
    · rw [if_pos h9, if_pos (by omega), if_neg (fun h => hb ⟨.inl h9, h⟩)]
    · rw [if_neg h9]
      by_cases h0 : opc cs i = 50
      · rw [if_pos h0, if_pos (by omega), if_neg (fun h => hb ⟨.inr h0, h⟩)]
      · rw [if_neg h0]
theorem C_fail (cs : List Ins) (hm : cs.length ≤ 4611686018427387904) (m : List Int) (hl : m.length = cs.length) (q : Nat) : ∀ i, cs.length - i = q → i ≤ cs.length → (∃ k, i ≤ k ∧ k < cs.length ∧ bad cs m k) → Ev (fun k => weighhouseref06_Match.l2 k cs m (i : Int)) ([], 31) := by
  induction q with
  | zero =>
    rintro i hq hi ⟨a, h1, h2, _⟩
    omega
  | succ q ih =>
    rintro i hq hi ⟨a, h1, h2, h3⟩
    refine C_step cs hm i (by omega) m hl _ (fun hh => ?_) (fun _ => rfl)
    refine ih (i + 1) (by omega) (by omega) ⟨a, ?_, h2, h3⟩
    by_cases hai : a = i
    · rw [hai] at h3
      exact absurd h3 hh
    · omega
theorem C_ok (cs : List Ins) (hm : cs.length ≤ 4611686018427387904) (m : List Int) (hl : m.length = cs.length) (r : List Int × Int) (hH : ∀ k, k < cs.length → ¬ bad cs m k) (hr : Ev (fun k => weighhouseref06_Match.l3 k cs m ((0 : Nat) : Int)) r) (q : Nat) : ∀ i, cs.length - i = q → i ≤ cs.length → Ev (fun k => weighhouseref06_Match.l2 k cs m (i : Int)) r := by
  induction q with
  | zero =>
    intro i hq hi
    have e : i = cs.length := by omega
    subst e
    refine Ev.step (fun k => ?_) hr
    simp only [weighhouseref06_Match.l2]
    rw [if_neg (by omega)]
    rfl
  | succ q ih =>
    intro i hq hi
    exact C_step cs hm i (by omega) m hl _ (fun _ => ih (i + 1) (by omega) (by omega)) (fun hb => absurd hb (hH i (by omega)))
theorem A_ok (cs : List Ins) (hm : cs.length ≤ 4611686018427387904) (r : List Int × Int) (hr : Ev (fun k => weighhouseref06_Match.l1 k cs (List.replicate cs.length (-1)) ((0 : Nat) : Int)) r) (q : Nat) : ∀ (i : Nat), cs.length - i = q → i ≤ cs.length →
    Ev (fun k => weighhouseref06_Match.l0 k cs (List.replicate i (-1) ++ List.replicate (cs.length - i) 0) (i : Int)) r := by
  induction q with
  | zero =>
    intro i hq hi
    have e : i = cs.length := by omega
    subst e
    refine Ev.step (fun k => ?_) hr
    simp only [weighhouseref06_Match.l0]
    rw [if_neg (by omega)]
    simp
  | succ q ih =>
    intro i hq hi
    refine Ev.step (fun k => ?_) (ih (i + 1) (by omega) (by omega))
    simp only [weighhouseref06_Match.l0]
    rw [if_pos (by omega), if_pos (by omega), if_pos (by simp; omega), w64 (by omega) (by omega), Int.toNat_natCast]
    congr 1
    rw [List.set_append_right _ _ (by simp), List.length_replicate, Nat.sub_self, show cs.length - i = (cs.length - (i + 1)) + 1 by omega, List.replicate_succ, List.set_cons_zero, List.replicate_succ' (n := i), List.append_assoc]
    rfl
end Go.Proofs.Ytbdmbkmokhaflaa.Th
end

section
-- written by hprint.py (a program of these sessions) out of the translation; Lean checks it
namespace Go.Proofs.Ytbdmbkmokhaflaa.Q
open Go.RowKit Go.Proofs.YtbdmbkmokhaflaaW.Hb Go.Proofs.YtbdmbkmokhaflaaW.PrintWords Go.Proofs.YtbdmbkmokhaflaaW.PrintLast Go.Proofs.YtbdmbkmokhaflaaW.PrintMore
attribute [local go_sem] max2_int min2_int max_two min_two max_three min_three max_four min_four   -- for this text's walks alone
set_option linter.unusedVariables false
set_option linter.unusedSimpArgs false

/-! ### weighhouseref06_Around: function 20 -/
def weighhouseref06_Around.f (k : Nat) (l0 : List (S31)) (a1 : Int) : Option (List Int) := (weighhouseref06_Match.f k l0).bind fun bt283 => (if bt283.2 = 0 then (if a1 < 0 then (some ([] : List Int)) else (if a1 ≥ (l0.length : Int) then (some ([] : List Int)) else ((weighhouseref06_opened.f k l0 bt283.1 a1).bind fun t287 => (some t287)))) else (some ([] : List Int)))
theorem weighhouseref06_Around.mono : ∀ a0 a1 k, LeO (weighhouseref06_Around.f k a0 a1) (weighhouseref06_Around.f (k + 1) a0 a1) := by
  intro a0 a1 k
  unfold weighhouseref06_Around.f
  repeat' first
      | (with_reducible exact weighhouseref06_Match.mono _ _)
      | (with_reducible exact weighhouseref06_opened.mono _ _ _ _)
      | (with_reducible exact LeO.refl _)
      | (with_reducible exact LeO.none _)
      | (with_reducible refine LeO.ite ?_ ?_)
      | (with_reducible refine LeO.bind ?_ (fun _ => ?_))
      | exact weighhouseref06_Match.mono _ _
      | exact weighhouseref06_opened.mono _ _ _ _
      | exact LeO.none _
      | refine LeO.ite ?_ ?_
      | refine LeO.bind ?_ (fun _ => ?_)
set_option maxHeartbeats 8000000 in
set_option maxRecDepth 100000 in
theorem weighhouseref06_Around.calls (k : Nat) (A0 : Option Addr) (c0 : Nat) (l0 : List (S31)) (a1 : Int) (r : List Int) (w : World) (hr0 : Kd.C k31 w A0 l0.length l0) (hc0 : l0.length ≤ c0) (h : weighhouseref06_Around.f k l0 a1 = some r) :
    Calls Try.prog 20 #[.slice A0 l0.length c0, .int .i64 a1] w fun e w' => ∃ v0_ : Value, e = .returned (v0_) ∧ Kd.R (Kd.int .i64) 3 w' w.heap.size (fun _ => True) v0_ r ∧ Below w.heap.size w w' := by
  have HR0 := Aside0.mk hr0
  have HC0 := Aside0.mk hc0
  clear hr0 hc0
  have HB := Aside0.mk (Below.refl w.heap.size w)
  have H : ((weighhouseref06_Match.f k l0).bind fun bt283 => (if bt283.2 = 0 then (if a1 < 0 then (some ([] : List Int)) else (if a1 ≥ (l0.length : Int) then (some ([] : List Int)) else ((weighhouseref06_opened.f k l0 bt283.1 a1).bind fun t287 => (some t287)))) else (some ([] : List Int)))) = some r := h
  clear h
  replace H := Option.bind_eq_some_iff.mp H
  obtain ⟨⟨t283, t284⟩, A30, H⟩ := H
  replace H : (if t284 = 0 then (if a1 < 0 then (some ([] : List Int)) else (if a1 ≥ (l0.length : Int) then (some ([] : List Int)) else ((weighhouseref06_opened.f k l0 t283 a1).bind fun t287 => (some t287)))) else (some ([] : List Int))) = some r := H
  have A3 := Aside0.mk A30
  clear A30
  by_cases c4 : t284 = 0
  · rw [if_pos c4] at H
    have c4b0 : (t284 == 0) = true := beq_iff_eq.mpr c4
    have c4b1 : (t284 != 0) = false := bne_eq_false_iff_eq.mpr c4
    clear c4
    by_cases c5 : a1 < 0
    · rw [if_pos c5] at H
      have c5b0 : decide (a1 < 0) = true := decide_eq_true c5
      clear c5
      obtain rfl := Option.some.inj H
      go_enter Try.func20, Try.ntmps20
      go_wp2_with (first | ((with_reducible refine gate_callee (f := 15) rfl ?_); refine goesL_ (some 9) rfl rfl Try.func15 (by kernel_rfl) rfl #[.slice A0 l0.length c0] rfl (by (try simp only [List.map_toArray, List.map_cons, List.map_nil]); first | done | rfl | (simp only [List.length_drop, List.length_take]; rfl)) ?_; (with_reducible refine (weighhouseref06_Match.calls k _ _ l0 t283 t284 _ ?side1 ?side2 A3.out).mono ?_); (case side1 => repeat (first | exact HR0.out | (with_reducible refine Kd.C_alloc ?_ _) | (with_reducible refine Kd.C_drewN ?_ _) | (with_reducible refine Kd.C_drew ?_))); (case side2 => exact HC0.out); rintro e w6 ⟨v285, rfl, ho0, hb⟩; refine ⟨_, rfl, ?_⟩; have n0_ := Aside0.mk (Kd.R_lower ho0 (below_size (by repeat (first | (with_reducible first | exact HB.out | apply below_alloc | apply pw_below_drewN | apply below_drew1) | exact HB.out)))); have n1_ := Aside0.mk (below_step (by repeat (first | (with_reducible first | exact HB.out | apply below_alloc | apply pw_below_drewN | apply below_drew1) | exact HB.out)) hb); clear HB; have HO286 := n0_; have HB := n1_; clear n0_ n1_; (try clear hb); (try clear hb2); (try clear hk); (try clear hi); (try clear ho0)))
      go_ret
      exact ⟨_, by first | rfl | (simp [errW_none, errW_some] <;> rfl) | (simp [*, errW_none, errW_some] <;> rfl), by first | exact Kd.R_nil _ _ _ _ _ | exact Kd.N_nil _ _ _ _ _ | exact Kd.V_nil _ _ _ _ _ | exact Kd.Q_nil _ _ _ _ _ | exact Kd.S_nil _ _ _ _ _, by repeat (first | (with_reducible first | exact HB.out | apply below_alloc | apply pw_below_drewN | apply below_drew1) | exact HB.out)⟩
    · rw [if_neg c5] at H
      have c5b0 : decide (a1 < 0) = false := decide_eq_false c5
      clear c5
      by_cases c7 : a1 ≥ (l0.length : Int)
      · rw [if_pos c7] at H
        have c7b0 : decide ((l0.length : Int) ≤ a1) = true := decide_eq_true c7
        clear c7
        obtain rfl := Option.some.inj H
        go_enter Try.func20, Try.ntmps20
        go_wp2_with (first | ((with_reducible refine gate_callee (f := 15) rfl ?_); refine goesL_ (some 9) rfl rfl Try.func15 (by kernel_rfl) rfl #[.slice A0 l0.length c0] rfl (by (try simp only [List.map_toArray, List.map_cons, List.map_nil]); first | done | rfl | (simp only [List.length_drop, List.length_take]; rfl)) ?_; (with_reducible refine (weighhouseref06_Match.calls k _ _ l0 t283 t284 _ ?side1 ?side2 A3.out).mono ?_); (case side1 => repeat (first | exact HR0.out | (with_reducible refine Kd.C_alloc ?_ _) | (with_reducible refine Kd.C_drewN ?_ _) | (with_reducible refine Kd.C_drew ?_))); (case side2 => exact HC0.out); rintro e w8 ⟨v285, rfl, ho0, hb⟩; refine ⟨_, rfl, ?_⟩; have n0_ := Aside0.mk (Kd.R_lower ho0 (below_size (by repeat (first | (with_reducible first | exact HB.out | apply below_alloc | apply pw_below_drewN | apply below_drew1) | exact HB.out)))); have n1_ := Aside0.mk (below_step (by repeat (first | (with_reducible first | exact HB.out | apply below_alloc | apply pw_below_drewN | apply below_drew1) | exact HB.out)) hb); clear HB; have HO286 := n0_; have HB := n1_; clear n0_ n1_; (try clear hb); (try clear hb2); (try clear hk); (try clear hi); (try clear ho0)))
        go_ret
        exact ⟨_, by first | rfl | (simp [errW_none, errW_some] <;> rfl) | (simp [*, errW_none, errW_some] <;> rfl), by first | exact Kd.R_nil _ _ _ _ _ | exact Kd.N_nil _ _ _ _ _ | exact Kd.V_nil _ _ _ _ _ | exact Kd.Q_nil _ _ _ _ _ | exact Kd.S_nil _ _ _ _ _, by repeat (first | (with_reducible first | exact HB.out | apply below_alloc | apply pw_below_drewN | apply below_drew1) | exact HB.out)⟩
      · rw [if_neg c7] at H
        have c7b0 : decide ((l0.length : Int) ≤ a1) = false := decide_eq_false c7
        clear c7
        replace H := Option.bind_eq_some_iff.mp H
        obtain ⟨t287, A90, H⟩ := H
        replace H : (some t287) = some r := H
        have A9 := Aside0.mk A90
        clear A90
        obtain rfl := Option.some.inj H
        go_enter Try.func20, Try.ntmps20
        go_wp2_with (first | ((with_reducible refine gate_callee (f := 15) rfl ?_); refine goesL_ (some 9) rfl rfl Try.func15 (by kernel_rfl) rfl #[.slice A0 l0.length c0] rfl (by (try simp only [List.map_toArray, List.map_cons, List.map_nil]); first | done | rfl | (simp only [List.length_drop, List.length_take]; rfl)) ?_; (with_reducible refine (weighhouseref06_Match.calls k _ _ l0 t283 t284 _ ?side1 ?side2 A3.out).mono ?_); (case side1 => repeat (first | exact HR0.out | (with_reducible refine Kd.C_alloc ?_ _) | (with_reducible refine Kd.C_drewN ?_ _) | (with_reducible refine Kd.C_drew ?_))); (case side2 => exact HC0.out); rintro e w10 ⟨v285, rfl, ho0, hb⟩; refine ⟨_, rfl, ?_⟩; have n0_ := Aside0.mk (Kd.R_lower ho0 (below_size (by repeat (first | (with_reducible first | exact HB.out | apply below_alloc | apply pw_below_drewN | apply below_drew1) | exact HB.out)))); have n1_ := Aside0.mk (below_step (by repeat (first | (with_reducible first | exact HB.out | apply below_alloc | apply pw_below_drewN | apply below_drew1) | exact HB.out)) hb); clear HB; have HO286 := n0_; have HB := n1_; clear n0_ n1_; (try clear hb); (try clear hb2); (try clear hk); (try clear hi); (try clear ho0); obtain ⟨Ao11, co11, eo11⟩ := Kd.R_slice HO286.out; subst eo11) | ((with_reducible refine gate_callee (f := 24) rfl ?_); refine goesL_ (some 27) rfl rfl Try.func24 (by kernel_rfl) rfl #[.slice A0 l0.length c0, .slice Ao11 t283.length co11, .int .i64 a1] rfl (by (try simp only [List.map_toArray, List.map_cons, List.map_nil]); first | done | rfl | (simp only [List.length_drop, List.length_take]; rfl)) ?_; (with_reducible refine (weighhouseref06_opened.calls k _ _ l0 _ _ t283 a1 t287 _ ?side1 ?side2 ?side3 ?side4 A9.out).mono ?_); (case side1 => repeat (first | exact (Kd.C_below HR0.out HB.out) | (with_reducible refine Kd.C_alloc ?_ _) | (with_reducible refine Kd.C_drewN ?_ _) | (with_reducible refine Kd.C_drew ?_))); (case side2 => exact HC0.out); (case side3 => repeat (first | exact (Kd.R_reads' HO286.out).2.2 | (with_reducible refine Kd.C_alloc ?_ _) | (with_reducible refine Kd.C_drewN ?_ _) | (with_reducible refine Kd.C_drew ?_))); (case side4 => exact (Kd.R_reads' HO286.out).2.1); rintro e w12 ⟨v288, rfl, ho0, hb⟩; refine ⟨_, rfl, ?_⟩; have n0_ := Aside0.mk (Kd.R_elder' (by (with_reducible repeat (first | apply Kd.R_alloc | apply Kd.R_drewN | apply Kd.R_drew)); exact HO286.out) (Kd.R_base ho0) hb); have n1_ := Aside0.mk (Kd.R_lower (Kd.R_new' ho0 (Kd.R_lt (by (with_reducible repeat (first | apply Kd.R_alloc | apply Kd.R_drewN | apply Kd.R_drew)); exact HO286.out))) (below_size (by repeat (first | (with_reducible first | exact HB.out | apply below_alloc | apply pw_below_drewN | apply below_drew1) | exact HB.out)))); have n2_ := Aside0.mk (below_step (by repeat (first | (with_reducible first | exact HB.out | apply below_alloc | apply pw_below_drewN | apply below_drew1) | exact HB.out)) hb); clear HO286; clear HB; have HO286 := n0_; have HO289 := n1_; have HB := n2_; clear n0_ n1_ n2_; (try clear hb); (try clear hb2); (try clear hk); (try clear hi); (try clear ho0)))
        go_ret
        exact ⟨_, by first | rfl | (simp [errW_none, errW_some] <;> rfl) | (simp [*, errW_none, errW_some] <;> rfl), by (with_reducible repeat (first | apply Kd.R_alloc | apply Kd.R_drewN | apply Kd.R_drew)); exact Kd.R_mono HO289.out (fun _ hk => trivial), by repeat (first | (with_reducible first | exact HB.out | apply below_alloc | apply pw_below_drewN | apply below_drew1) | exact HB.out)⟩
  · rw [if_neg c4] at H
    have c4b0 : (t284 == 0) = false := beq_eq_false_iff_ne.mpr c4
    have c4b1 : (t284 != 0) = true := bne_iff_ne.mpr c4
    obtain rfl := Option.some.inj H
    go_enter Try.func20, Try.ntmps20
    go_wp2_with (first | ((with_reducible refine gate_callee (f := 15) rfl ?_); refine goesL_ (some 9) rfl rfl Try.func15 (by kernel_rfl) rfl #[.slice A0 l0.length c0] rfl (by (try simp only [List.map_toArray, List.map_cons, List.map_nil]); first | done | rfl | (simp only [List.length_drop, List.length_take]; rfl)) ?_; (with_reducible refine (weighhouseref06_Match.calls k _ _ l0 t283 t284 _ ?side1 ?side2 A3.out).mono ?_); (case side1 => repeat (first | exact HR0.out | (with_reducible refine Kd.C_alloc ?_ _) | (with_reducible refine Kd.C_drewN ?_ _) | (with_reducible refine Kd.C_drew ?_))); (case side2 => exact HC0.out); rintro e w13 ⟨v285, rfl, ho0, hb⟩; refine ⟨_, rfl, ?_⟩; have n0_ := Aside0.mk (Kd.R_lower ho0 (below_size (by repeat (first | (with_reducible first | exact HB.out | apply below_alloc | apply pw_below_drewN | apply below_drew1) | exact HB.out)))); have n1_ := Aside0.mk (below_step (by repeat (first | (with_reducible first | exact HB.out | apply below_alloc | apply pw_below_drewN | apply below_drew1) | exact HB.out)) hb); clear HB; have HO286 := n0_; have HB := n1_; clear n0_ n1_; (try clear hb); (try clear hb2); (try clear hk); (try clear hi); (try clear ho0)))
    go_ret
    exact ⟨_, by first | rfl | (simp [errW_none, errW_some] <;> rfl) | (simp [*, errW_none, errW_some] <;> rfl), by first | exact Kd.R_nil _ _ _ _ _ | exact Kd.N_nil _ _ _ _ _ | exact Kd.V_nil _ _ _ _ _ | exact Kd.Q_nil _ _ _ _ _ | exact Kd.S_nil _ _ _ _ _, by repeat (first | (with_reducible first | exact HB.out | apply below_alloc | apply pw_below_drewN | apply below_drew1) | exact HB.out)⟩

end Go.Proofs.Ytbdmbkmokhaflaa.Q
end

section
/- layer 6: the document's answer, its last round, and that both answers are the same -/
set_option linter.unusedVariables false
set_option linter.unusedSimpArgs false
namespace Go.Proofs.Ytbdmbkmokhaflaa.Th
open Go.RowKit Go.Proofs.YtbdmbkmokhaflaaW.PrintWords Go.Proofs.YtbdmbkmokhaflaaW.Hb
open Go.Shape6 Go.Proofs.Ytbdmbkmokhaflaa.Q

/-- All blocks close. -/
def H1 (cs : List Ins) : Prop := ∀ a, a < cs.length → isOp (opc cs a) = true → 0 ≤ (xe cs a).2
theorem H1.fin {cs : List Ins} (h : H1 cs) {a : Nat} (ha : a < cs.length) (ho : isOp (opc cs a) = true) : ∃ (x : Int) (e : Nat), cl (opc cs) a cs.length = .fin x e ∧ xe cs a = (x, (e : Int)) := xe_ok ha (h a ha ho)
structure PB (cs : List Ins) (i : Nat) (m : List Int) : Prop where
  b1 : ∀ (a : Nat) (x : Int) (e : Nat), a < i → isOp (opc cs a) = true → cl (opc cs) a cs.length = .fin x e → m[a]? = some (if 0 ≤ x then x else (e : Int)) ∧ m[e]? = some (a : Int) ∧ (0 ≤ x → m[x.toNat]? = some (e : Int))
  b2 : ∀ k, k < cs.length → (k < i → isOp (opc cs k) = false) → (∀ (a : Nat) (x : Int) (e : Nat), a < i → isOp (opc cs a) = true → cl (opc cs) a cs.length = .fin x e → e ≠ k ∧ x ≠ (k : Int)) → m[k]? = some (-1)
theorem end_inj {cs : List Ins} {a b : Nat} {x y : Int} {e : Nat} (ha : a < cs.length) (hb : b < cs.length) (hoa : isOp (opc cs a) = true) (hob : isOp (opc cs b) = true) (h1 : cl (opc cs) a cs.length = .fin x e) (h2 : cl (opc cs) b cs.length = .fin y e) : a = b := by
  have p1 := cl_end ha x e h1
  have p2 := cl_end hb y e h2
  exact run0_inj hoa hob p1.1 p2.1 p1.2.2 p2.2.2
theorem else_inj {cs : List Ins} {a b : Nat} {x : Nat} {e f : Nat} (ha : a < cs.length) (hb : b < cs.length) (hoa : isOp (opc cs a) = true) (hob : isOp (opc cs b) = true) (h1 : cl (opc cs) a cs.length = .fin x e) (h2 : cl (opc cs) b cs.length = .fin x f) : a = b := by
  have p1 := (cl_else ha).2 x e (by omega) h1
  have p2 := (cl_else hb).2 x f (by omega) h2
  exact run0_inj hoa hob p1.1 p2.1 p1.2.2 p2.2.2
theorem PB_ok {cs : List Ins} (hH : H1 cs) (i : Nat) (hi : i ≤ cs.length) : PB cs i (mB cs i) := by
  induction i with
  | zero =>
    exact ⟨fun a x e ha => absurd ha (Nat.not_lt_zero a), fun k hk _ _ => by
      show (List.replicate cs.length (-1 : Int))[k]? = some (-1)
      rw [List.getElem?_replicate, if_pos hk]⟩
  | succ i ih =>
    have hI := ih (by omega)
    have hlen := mB_len cs i
    show PB cs (i + 1) (mBs cs i (mB cs i))
    by_cases ho : opc cs i = 48 ∨ opc cs i = 51
    · have hop := isOp_iff.2 ho
      obtain ⟨x0, e0, hc0, hxe⟩ := hH.fin (by omega) hop
      obtain ⟨f1, f2, f3, f4⟩ := fin_facts (by omega : i < cs.length) hc0
      have hmb : mBs cs i (mB cs i) = if 0 ≤ x0 then ((((mB cs i).set i (e0 : Int)).set e0 (i : Int)).set i x0).set x0.toNat (e0 : Int) else ((mB cs i).set i (e0 : Int)).set e0 (i : Int) := by
        unfold mBs
        rw [if_pos hop, hxe]
        simp only [Int.toNat_natCast]
      have hfar : ∀ k, k ≠ i → k ≠ e0 → (0 ≤ x0 → k ≠ x0.toNat) → (mBs cs i (mB cs i))[k]? = (mB cs i)[k]? := by
        intro k k1 k2 k3
        rw [hmb]
        split
        · rename_i hx
          rw [List.getElem?_set_ne (fun e => k3 hx e.symm), List.getElem?_set_ne (fun e => k1 e.symm), List.getElem?_set_ne (fun e => k2 e.symm), List.getElem?_set_ne (fun e => k1 e.symm)]
        · rw [List.getElem?_set_ne (fun e => k2 e.symm), List.getElem?_set_ne (fun e => k1 e.symm)]
      have hati : (mBs cs i (mB cs i))[i]? = some (if 0 ≤ x0 then x0 else (e0 : Int)) := by
        rw [hmb]
        split
        · rename_i hx
          rcases f4 with f4 | ⟨f4, f5, f6, f7⟩
          · omega
          · rw [List.getElem?_set_ne (by omega), List.getElem?_set_self (by simp; omega)]
        · rw [List.getElem?_set_ne (by omega), List.getElem?_set_self (by omega)]
      have hate : (mBs cs i (mB cs i))[e0]? = some (i : Int) := by
        rw [hmb]
        split
        · rename_i hx
          rcases f4 with f4 | ⟨f4, f5, f6, f7⟩
          · omega
          · rw [List.getElem?_set_ne (by omega), List.getElem?_set_ne (by omega), List.getElem?_set_self (by simp; omega)]
        · rw [List.getElem?_set_self (by simp; omega)]
      have hatx : 0 ≤ x0 → (mBs cs i (mB cs i))[x0.toNat]? = some (e0 : Int) := fun hx => by
        rw [hmb, if_pos hx, List.getElem?_set_self (by simp; omega)]
      refine ⟨fun a x e ha hoa hc => ?_, fun k hk hk1 hk2 => ?_⟩
      · have hoa2 := isOp_iff.1 hoa
        by_cases hai : a = i
        · subst hai
          rw [hc0] at hc
          injection hc with g1 g2
          have g3 : e = e0 := by omega
          subst g1 g3
          exact ⟨hati, hate, hatx⟩
        · obtain ⟨g1, g2, g3⟩ := hI.b1 a x e (by omega) hoa hc
          obtain ⟨d1, d2, d3, d4⟩ := fin_facts (by omega : a < cs.length) hc
          have hee : e ≠ e0 := fun h => by
            subst h
            exact hai (end_inj (by omega) (by omega) hoa hop hc hc0)
          have hx9 : 0 ≤ x0 → opc cs x0.toNat = 49 := fun hx => by
            rcases f4 with f4 | ⟨f4, f5, f6, f7⟩
            · omega
            · exact f6
          refine ⟨?_, ?_, fun hx => ?_⟩
          · rw [hfar a hai (fun h => by rw [h] at hoa2; omega) (fun hx h => by have := hx9 hx; rw [← h] at this; omega)]
            exact g1
          · rw [hfar e (fun h => by rw [h] at d3; omega) hee (fun hx h => by have := hx9 hx; rw [← h] at this; omega)]
            exact g2
          · rcases d4 with d4 | ⟨d4, d5, d6, d7⟩
            · omega
            · rw [hfar x.toNat (fun h => by rw [h] at d6; omega) (fun h => by rw [h] at d6; omega) (fun hx' h => by
                refine hai (else_inj (x := x.toNat) (e := e) (f := e0) (by omega) (by omega) hoa hop (by rw [Int.toNat_of_nonneg hx]; exact hc) (by rw [h, Int.toNat_of_nonneg hx']; exact hc0)))]
              exact g3 hx
      · have hki : k ≠ i := fun h => by
          subst h
          have := hk1 (by omega)
          rw [hop] at this
          cases this
        have h0 := hk2 i x0 e0 (by omega) hop hc0
        rw [hfar k hki (fun h => h0.1 h.symm) (fun hx h => h0.2 (by omega))]
        exact hI.b2 k hk (fun h => hk1 (by omega)) (fun a x e ha hoa hc => hk2 a x e (by omega) hoa hc)
    · have hno := isOp_not ho
      have e1 : mBs cs i (mB cs i) = mB cs i := by
        unfold mBs
        rw [hno, if_neg (by decide)]
      rw [e1]
      refine ⟨fun a x e ha hoa hc => ?_, fun k hk hk1 hk2 => ?_⟩
      · by_cases hai : a = i
        · subst hai
          rw [hno] at hoa
          cases hoa
        · exact hI.b1 a x e (by omega) hoa hc
      · exact hI.b2 k hk (fun h => hk1 (by omega)) (fun a x e ha hoa hc => hk2 a x e (by omega) hoa hc)
theorem rd_get {l : List Int} {k : Nat} {v : Int} (h : l[k]? = some v) : rd l (k : Int) = v := by
  have hk := lt_of_get h
  rw [rdN l k hk]
  rw [List.getElem?_eq_getElem hk] at h
  exact Option.some.inj h
/-- Elses and ends belong to blocks, when the check passes. -/
theorem H2_of {cs : List Ins} (hH : H1 cs) (hC : ∀ k, k < cs.length → ¬ bad cs (mB cs cs.length) k) {k : Nat} (hk : k < cs.length) (ho : opc cs k = 49 ∨ opc cs k = 50) : ∃ (a : Nat) (x : Int) (e : Nat), a < cs.length ∧ isOp (opc cs a) = true ∧ cl (opc cs) a cs.length = .fin x e ∧ ((opc cs k = 49 ∧ x = (k : Int)) ∨ (opc cs k = 50 ∧ e = k)) := by
  refine Classical.byContradiction fun hn => ?_
  have hP := PB_ok hH cs.length (Nat.le_refl _)
  have hb := hP.b2 k hk (fun _ => isOp_not (by omega)) (fun a x e ha hoa hc => ⟨fun he => ?_, fun hx => ?_⟩)
  · exact hC k hk ⟨ho, by rw [rd_get hb]; decide⟩
  · obtain ⟨d1, d2, d3, d4⟩ := fin_facts ha hc
    subst he
    exact hn ⟨a, x, e, ha, hoa, hc, .inr ⟨d3, rfl⟩⟩
  · obtain ⟨d1, d2, d3, d4⟩ := fin_facts ha hc
    rcases d4 with d4 | ⟨d4, d5, d6, d7⟩
    · omega
    · rw [hx, Int.toNat_natCast] at d6
      exact hn ⟨a, x, e, ha, hoa, hc, .inl ⟨d6, hx⟩⟩
/-- Where the scan stops while all blocks close. -/
theorem step_fail {cs : List Ins} (hH : H1 cs) (hC : ∀ k, k < cs.length → ¬ bad cs (mB cs cs.length) k) {i : Nat} (hi : i < cs.length) {m : List Int} {fs : List Fr} (h : scanTo cs i = some (m, fs)) (hs : scanStep cs i m fs = none) :
    (isOp (opc cs i) = true ∧ 8 ≤ fs.length) ∨ (opc cs i = 52 ∧ topLoop cs (fs.map Fr.a) = none) := by
  have hL := scan_L1 h
  have htop : ∀ a x, a < i → isOp (opc cs a) = true → cl (opc cs) a i = .run 0 x → ∃ b, fs.getLast? = some b ∧ b.a = a ∧ b.o = x := by
    intro a x ha hoa hc
    obtain ⟨j, hj, hd⟩ := hL.run_ ha hoa hc
    have hl := lt_of_get hj
    rw [List.getElem?_map] at hj
    obtain ⟨b, hb, hbe⟩ := Option.map_eq_some_iff.1 hj
    rw [List.length_map] at hl hd
    refine ⟨b, ?_, by have := congrArg Prod.fst hbe; exact this, by have := congrArg Prod.snd hbe; exact this⟩
    rw [List.getLast?_eq_getElem?, show fs.length - 1 = j by omega]
    exact hb
  unfold scanStep at hs
  split at hs
  · rename_i ho
    split at hs
    · cases hs
    · exact .inl ⟨isOp_iff.2 ho, by omega⟩
  · rename_i ho
    split at hs
    · rename_i h9
      exfalso
      obtain ⟨a, x, e, h1, h2, h3, h4⟩ := H2_of hH hC hi (.inl h9)
      have h9 : opc cs i = 49 := h9
      rcases h4 with ⟨_, h4⟩ | ⟨h4, _⟩
      · subst h4
        have p := (cl_else h1).2 i e (by omega) h3
        obtain ⟨b, hb, hba, hbo⟩ := htop a (-1) p.1 h2 p.2.2
        obtain ⟨d1, d2, d3, d4⟩ := fin_facts h1 h3
        rw [hb] at hs
        dsimp only at hs
        rw [if_neg (by
          rintro (hh | hh)
          · omega
          · apply hh
            rw [hba]
            rcases d4 with d4 | d4
            · omega
            · exact d4.2.2.2)] at hs
        cases hs
      · omega
    · rename_i h9
      split at hs
      · rename_i h0
        exfalso
        have h0 : opc cs i = 50 := h0
        obtain ⟨a, x, e, h1, h2, h3, h4⟩ := H2_of hH hC hi (.inr h0)
        rcases h4 with ⟨h4, _⟩ | ⟨_, h4⟩
        · omega
        · subst h4
          have p := cl_end h1 x e h3
          obtain ⟨b, hb, _⟩ := htop a x p.1 h2 p.2.2
          rw [hb] at hs
          cases hs
      · split at hs
        · rename_i h52
          split at hs
          · rename_i ht
            exact .inr ⟨h52, ht⟩
          · cases hs
        · cases hs
/-- What holds when the scan ends well. -/
theorem scan_good {cs : List Ins} {m : List Int} {fs : List Fr} (h : scanTo cs cs.length = some (m, fs)) (hl : fs.length = 0) : H1 cs ∧ ∀ k, k < cs.length → ¬ bad cs (mB cs cs.length) k := by
  have hfs : fs = [] := List.eq_nil_of_length_eq_zero hl
  subst hfs
  have hL := scan_L1 h
  have hH : H1 cs := by
    intro a ha ho
    obtain ⟨x, e, h1, h2⟩ := hL.cl_ a ha ho (fun j x hj => by simp at hj)
    rw [xe_of h1]
    exact h2
  refine ⟨hH, fun k hk hb => ?_⟩
  have hP := PB_ok hH cs.length (Nat.le_refl _)
  rcases hb with ⟨h9 | h0, hlt⟩
  · obtain ⟨a, h1, h2, h3⟩ := hL.el k hk h9
    rcases h3 with ⟨d, h3⟩ | ⟨e, h3, h4⟩
    · obtain ⟨j, hj, _⟩ := hL.run_ (by omega) h2 h3
      simp at hj
    · obtain ⟨n, rfl⟩ := Int.eq_ofNat_of_zero_le h4
      have g := (hP.b1 a k n (by omega) h2 h3).2.2 (by omega)
      rw [Int.toNat_natCast] at g
      rw [rd_get g] at hlt
      omega
  · obtain ⟨a, h1, h2, x, h3⟩ := hL.en k hk h0
    have g := (hP.b1 a x k (by omega) h2 h3).2.1
    rw [rd_get g] at hlt
    omega
theorem all_closed {cs : List Ins} (hH : H1 cs) {m : List Int} {fs : List Fr} (h : scanTo cs cs.length = some (m, fs)) : fs.length = 0 := by
  refine Classical.byContradiction fun hn => ?_
  have hL := scan_L1 h
  have hj : (fs.map pr)[0]? = some ((fs[0]'(by omega)).a, (fs[0]'(by omega)).o) := by
    rw [List.getElem?_map, List.getElem?_eq_getElem (by omega)]
    rfl
  obtain ⟨h1, h2, h3⟩ := hL.fr 0 _ _ hj
  obtain ⟨x, e, h4, _⟩ := hH.fin h1 h2
  rw [h3] at h4
  cases h4
end Go.Proofs.Ytbdmbkmokhaflaa.Th
end

section
/- layer 6: the document's last round over the scan: both Matches are the same -/
set_option linter.unusedVariables false
set_option linter.unusedSimpArgs false
namespace Go.Proofs.Ytbdmbkmokhaflaa.Th
open Go.RowKit Go.Proofs.YtbdmbkmokhaflaaW.PrintWords Go.Proofs.YtbdmbkmokhaflaaW.Hb
open Go.Shape6 Go.Proofs.Ytbdmbkmokhaflaa.Q

def isOpen (cs : List Ins) (i a : Nat) : Bool := isOp (opc cs a) && decide ((i : Int) ≤ (xe cs a).2)
def openL (cs : List Ins) (i : Nat) : List Nat := (List.range i).filter (isOpen cs i)
def toI (l : List Nat) : List Int := l.map (fun (n : Nat) => (n : Int))
structure DI (cs : List Ins) (i : Nat) (m : List Int) : Prop where
  len : m.length = cs.length
  nl : ∀ k, k < cs.length → opc cs k ≠ 52 → m[k]? = (mB cs cs.length)[k]?
  lt : ∀ k, k < i → opc cs k = 52 → ∃ (a : Nat) (x : Int) (e : Nat), Tgt cs k a ∧ cl (opc cs) a cs.length = .fin x e ∧ m[k]? = some (e : Int)
  ge : ∀ k, i ≤ k → k < cs.length → opc cs k = 52 → m[k]? = some (-1)
theorem DI.zero {cs : List Ins} (hH : H1 cs) : DI cs 0 (mB cs cs.length) := by
  refine ⟨mB_len _ _, fun _ _ _ => rfl, fun k hk => absurd hk (Nat.not_lt_zero k), fun k _ hk h52 => ?_⟩
  refine (PB_ok hH cs.length (Nat.le_refl _)).b2 k hk (fun _ => isOp_not (by omega)) (fun a x e ha hoa hc => ⟨fun h => ?_, fun h => ?_⟩)
  · obtain ⟨d1, d2, d3, d4⟩ := fin_facts ha hc
    rw [h] at d3
    omega
  · obtain ⟨d1, d2, d3, d4⟩ := fin_facts ha hc
    rcases d4 with d4 | ⟨d4, d5, d6, d7⟩
    · omega
    · rw [h, Int.toNat_natCast] at d6
      omega
theorem last_ev {cs : List Ins} {i : Nat} {m : List Int} (hH : H1 cs) (hD : DI cs i m) {a : Nat} (ha : a < cs.length) (ho : isOp (opc cs a) = true) : weighhouseref06_last.f cs m (a : Int) = some (xe cs a).2 := by
  obtain ⟨x, e, hc, hxe⟩ := hH.fin ha ho
  obtain ⟨d1, d2, d3, d4⟩ := fin_facts ha hc
  obtain ⟨g1, g2, g3⟩ := (PB_ok hH cs.length (Nat.le_refl _)).b1 a x e ha ho hc
  have hl := hD.len
  have ho2 := isOp_iff.1 ho
  rw [hxe]
  unfold weighhouseref06_last.f
  rw [if_pos (by omega), if_pos (by omega), rd_get ((hD.nl a ha (by omega)).trans g1)]
  by_cases hx : 0 ≤ x
  · rcases d4 with d4 | ⟨d4, d5, d6, d7⟩
    · omega
    · obtain ⟨n, rfl⟩ := Int.eq_ofNat_of_zero_le hx
      rw [Int.toNat_natCast] at d6 g3
      rw [if_pos hx, if_pos hx, if_pos (by omega), rdI cs n (by omega), if_pos d6, if_pos (by omega), rd_get ((hD.nl n (by omega) (by omega)).trans (g3 hx))]
  · rw [if_neg hx, if_pos (by omega), if_pos (by omega), rdI cs e (by omega), if_neg (by omega)]
theorem opened_l0 {cs : List Ins} (hm : cs.length ≤ 1048576) {i0 : Nat} {m : List Int} (hH : H1 cs) (hD : DI cs i0 m) (i : Nat) (hi : i ≤ cs.length) (q : Nat) : ∀ j, i - j = q → j ≤ i →
    Ev (fun k => weighhouseref06_opened.l0 k cs m (i : Int) (toI ((List.range j).filter (isOpen cs i))) (j : Int)) (toI (openL cs i)) := by
  induction q with
  | zero =>
    intro j hq hj
    have e : j = i := by omega
    subst e
    refine Ev.step (f := fun _ => some (toI (openL cs j))) (fun k => ?_) (Ev.now _)
    simp only [weighhouseref06_opened.l0]
    rw [if_neg (by omega)]
    rfl
  | succ q ih =>
    intro j hq hj
    have hjn : j < cs.length := by omega
    have hnext := ih (j + 1) (by omega) (by omega)
    rw [List.range_succ, List.filter_append] at hnext
    have hw : wrap64 ((j : Int) + 1) = ((j + 1 : Nat) : Int) := by rw [w64 (by omega) (by omega)]; rfl
    have hacc : (toI ((List.range j).filter (isOpen cs i))).length ≤ j := by
      unfold toI
      rw [List.length_map]
      exact Nat.le_trans (List.length_filter_le _ _) (by simp)
    refine Ev.step (fun k => ?_) hnext
    simp only [weighhouseref06_opened.l0]
    rw [if_pos (by omega), if_pos (by omega), if_pos (by omega), rdI cs j hjn, hw]
    by_cases ho : opc cs j = 48 ∨ opc cs j = 51
    · have hop := isOp_iff.2 ho
      rw [last_ev hH hD hjn hop]
      have hbr : ∀ X : Option (List Int), (if opc cs j = 48 then X else if opc cs j = 51 then X else (weighhouseref06_opened.l0 k cs m (i : Int) (toI ((List.range j).filter (isOpen cs i))) ((j + 1 : Nat) : Int))) = X := fun X => by
        rcases ho with h | h
        · rw [if_pos h]
        · rw [if_neg (by omega), if_pos h]
      rw [hbr, Option.bind_some]
      by_cases hge : (xe cs j).2 ≥ (i : Int)
      · have hf : isOpen cs i j = true := by unfold isOpen; rw [hop, decide_eq_true hge]; rfl
        rw [if_pos hge, if_pos (by omega)]
        congr 1
        simp [toI, hf]
      · have hf : isOpen cs i j = false := by unfold isOpen; rw [hop, decide_eq_false hge]; rfl
        rw [if_neg hge]
        congr 1
        simp [toI, hf]
    · have hf : isOpen cs i j = false := by unfold isOpen; rw [isOp_not ho]; rfl
      rw [if_neg (by omega), if_neg (by omega)]
      congr 1
      simp [toI, hf]
theorem opened_ev {cs : List Ins} (hm : cs.length ≤ 1048576) {i0 : Nat} {m : List Int} (hH : H1 cs) (hD : DI cs i0 m) (i : Nat) (hi : i ≤ cs.length) : Ev (fun k => weighhouseref06_opened.f k cs m (i : Int)) (toI (openL cs i)) :=
  opened_l0 hm hH hD i hi i 0 (by omega) (Nat.zero_le _)
theorem sorted_ext {l l' : List Nat} (h : l.Pairwise (· < ·)) (h' : l'.Pairwise (· < ·)) (he : ∀ x, x ∈ l ↔ x ∈ l') : l = l' := by
  induction l generalizing l' with
  | nil =>
    cases l' with
    | nil => rfl
    | cons y l' => exact absurd ((he y).2 (List.mem_cons_self ..)) (by simp)
  | cons x l ih =>
    cases l' with
    | nil => exact absurd ((he x).1 (List.mem_cons_self ..)) (by simp)
    | cons y l' =>
      obtain ⟨h1, h2⟩ := List.pairwise_cons.1 h
      obtain ⟨h3, h4⟩ := List.pairwise_cons.1 h'
      have exy : x = y := by
        rcases List.mem_cons.1 ((he x).1 (List.mem_cons_self ..)) with e | e
        · exact e
        · rcases List.mem_cons.1 ((he y).2 (List.mem_cons_self ..)) with e2 | e2
          · exact e2.symm
          · have := h3 x e
            have := h1 y e2
            omega
      subst exy
      congr 1
      refine ih h2 h4 (fun z => ⟨fun hz => ?_, fun hz => ?_⟩)
      · rcases List.mem_cons.1 ((he z).1 (List.mem_cons_of_mem _ hz)) with e | e
        · have := h1 z hz
          omega
        · exact e
      · rcases List.mem_cons.1 ((he z).2 (List.mem_cons_of_mem _ hz)) with e | e
        · have := h3 z hz
          omega
        · exact e
theorem openL_eq {cs : List Ins} (hH : H1 cs) {i : Nat} (hi : i ≤ cs.length) {m : List Int} {fs : List Fr} (h : scanTo cs i = some (m, fs)) : openL cs i = fs.map Fr.a := by
  have hL := scan_L1 h
  have hget : ∀ (j : Nat) (b : Fr), fs[j]? = some b → (fs.map pr)[j]? = some (b.a, b.o) := fun j b hb => by rw [List.getElem?_map, hb]; rfl
  refine sorted_ext ?_ ?_ (fun a => ?_)
  · exact List.Pairwise.filter _ List.pairwise_lt_range
  · rw [List.pairwise_iff_getElem]
    intro j j' hj hj' hjj
    rw [List.getElem_map, List.getElem_map]
    rw [List.length_map] at hj hj'
    exact hL.up j j' _ _ _ _ hjj (hget j _ (List.getElem?_eq_getElem hj)) (hget j' _ (List.getElem?_eq_getElem hj'))
  · unfold openL isOpen
    rw [List.mem_filter, List.mem_range, Bool.and_eq_true, decide_eq_true_iff, List.mem_map]
    constructor
    · rintro ⟨ha, hop, he⟩
      obtain ⟨x, e, hc, hxe⟩ := hH.fin (by omega) hop
      rw [hxe] at he
      have he : (i : Int) ≤ (e : Int) := he
      refine Classical.byContradiction fun hn => ?_
      obtain ⟨y, f, hf, hf0⟩ := hL.cl_ a ha hop (fun j x' hj => by
        rw [List.getElem?_map] at hj
        obtain ⟨b, hb, hbe⟩ := Option.map_eq_some_iff.1 hj
        exact hn ⟨b, List.mem_of_getElem? hb, congrArg Prod.fst hbe⟩)
      obtain ⟨f', rfl⟩ := Int.eq_ofNat_of_zero_le hf0
      have h2 := cl_fin_mono hf ha hi
      rw [hc] at h2
      injection h2 with h3 h4
      have := (cl_end ha y f' hf).2.1
      omega
    · rintro ⟨b, hb, hba⟩
      obtain ⟨j, hj, hje⟩ := List.getElem_of_mem hb
      obtain ⟨f1, f2, f3⟩ := hL.fr j b.a b.o (hget j b (by rw [List.getElem?_eq_getElem hj, hje]))
      rw [hba] at f1 f2 f3
      obtain ⟨x, e, hc, hxe⟩ := hH.fin (by omega) f2
      refine ⟨f1, f2, ?_⟩
      rw [hxe]
      show (i : Int) ≤ (e : Int)
      rcases Nat.lt_or_ge e i with hlt | hge
      · have p := cl_end (by omega) x e hc
        have h4 : cl (opc cs) a (e + 1) = .fin x e := by
          have q1 := cl_succ (opc cs) a e p.1
          rw [p.2.2] at q1
          obtain ⟨d1, d2, d3, d4⟩ := fin_facts (by omega : a < cs.length) hc
          unfold clS at q1
          dsimp only at q1
          rw [isOp_not (by omega), if_neg (by decide), if_neg (by omega), if_pos d3, if_pos rfl] at q1
          exact q1
        have h5 := cl_fin_mono h4 (by omega) (by omega : e + 1 ≤ i)
        rw [f3] at h5
        cases h5
      · omega
def lastLoop (cs : List Ins) (l : List Nat) : Option Nat := l.reverse.find? (fun a => opc cs a == 51)
def vL (cs : List Ins) (l : List Nat) : Int := match lastLoop cs l with | none => -1 | some a => (xe cs a).2
theorem lastLoop_snoc (cs : List Ins) (l : List Nat) (a : Nat) : lastLoop cs (l ++ [a]) = if opc cs a = 51 then some a else lastLoop cs l := by
  unfold lastLoop
  rw [List.reverse_append, List.reverse_singleton, List.singleton_append, List.find?_cons]
  by_cases h : opc cs a = 51
  · rw [if_pos h, h]
    rfl
  · rw [if_neg h, show (opc cs a == 51) = false by simp; exact h]
theorem loopAt_iff {cs : List Ins} {ats : List Nat} {j : Nat} (hj : j < ats.length) : loopAt cs ats j = (opc cs ats[j] == 51) := by
  unfold loopAt
  rw [List.getElem?_eq_getElem hj, Option.getD_some]
  show decide (opc cs ats[j] = 51) = _
  rw [Bool.beq_eq_decide_eq]
theorem topLoop_last (cs : List Ins) (ats : List Nat) : (topLoop cs ats = none → lastLoop cs ats = none) ∧ ∀ j, topLoop cs ats = some j → ∃ h : j < ats.length, lastLoop cs ats = some ats[j] := by
  constructor
  · intro h
    unfold lastLoop
    rw [List.find?_eq_none]
    intro a ha
    rw [List.mem_reverse] at ha
    obtain ⟨j, hj, rfl⟩ := List.getElem_of_mem ha
    unfold topLoop at h
    rw [List.find?_eq_none] at h
    have := h j (by rw [List.mem_reverse, List.mem_range]; exact hj)
    rw [loopAt_iff hj] at this
    exact this
  · intro j h
    have hj := topLoop_lt h
    refine ⟨hj, ?_⟩
    unfold topLoop at h
    rw [List.find?_eq_some_iff_append] at h
    obtain ⟨h1, pre, bs, h2, h3⟩ := h
    unfold lastLoop
    rw [List.find?_eq_some_iff_append]
    rw [loopAt_iff hj] at h1
    refine ⟨h1, (ats.drop (j + 1)).reverse, (ats.take j).reverse, ?_, fun a ha => ?_⟩
    · conv => lhs; rw [← List.take_append_drop (j + 1) ats, List.reverse_append, List.take_succ_eq_append_getElem hj, List.reverse_append]
      simp
    · rw [List.mem_reverse] at ha
      obtain ⟨q, hq, rfl⟩ := List.getElem_of_mem ha
      rw [List.length_drop] at hq
      rw [List.getElem_drop]
      have hmem : j + 1 + q ∈ pre := by
        have hall : j + 1 + q ∈ (List.range ats.length).reverse := by rw [List.mem_reverse, List.mem_range]; omega
        rw [h2] at hall
        rcases List.mem_append.1 hall with h4 | h4
        · exact h4
        · have hpw : ((List.range ats.length).reverse).Pairwise (· > ·) := by
            rw [List.pairwise_reverse]
            exact List.pairwise_lt_range
          rw [h2, List.pairwise_append] at hpw
          have hp2 := (List.pairwise_cons.1 hpw.2.1).1
          rcases List.mem_cons.1 h4 with h5 | h5
          · omega
          · have := hp2 _ h5
            omega
      have := h3 _ hmem
      rw [loopAt_iff (by omega)] at this
      exact this
theorem l4_ev {cs : List Ins} (hm : cs.length ≤ 1048576) {i : Nat} (hi : i < cs.length) {m : List Int} (hH : H1 cs) (hD : DI cs i m) (L : List Nat) (hL : ∀ a ∈ L, a < i ∧ isOp (opc cs a) = true) (hll : L.length ≤ 1048576) (r : List Int × Int) (hno : vL cs L < 0 → r = ([], 31)) (hok : ¬ vL cs L < 0 → Ev (fun k => weighhouseref06_Match.l3 k cs (m.set i (vL cs L)) ((i + 1 : Nat) : Int)) r) (q : Nat) : ∀ j, L.length - j = q → j ≤ L.length →
    Ev (fun k => weighhouseref06_Match.l4 k cs (m.set i (vL cs (L.take j))) (i : Int) (toI L) (j : Int)) r := by
  have hlen := hD.len
  have htl : (toI L).length = L.length := by unfold toI; rw [List.length_map]
  have hw : wrap64 ((i : Int) + 1) = ((i + 1 : Nat) : Int) := by rw [w64 (by omega) (by omega)]; rfl
  induction q with
  | zero =>
    intro j hq hj
    have e : j = L.length := by omega
    subst e
    rw [List.take_length]
    have hrd : rd (m.set i (vL cs L)) (i : Int) = vL cs L := rd_get (List.getElem?_set_self (by omega))
    by_cases hv : vL cs L < 0
    · rw [hno hv]
      refine Ev.step (f := fun _ => some ([], 31)) (fun k => ?_) (Ev.now _)
      simp only [weighhouseref06_Match.l4]
      rw [if_neg (by omega), if_pos (by omega), if_pos (by rw [List.length_set]; omega), hrd, if_pos hv]
    · refine Ev.step (fun k => ?_) (hok hv)
      simp only [weighhouseref06_Match.l4]
      rw [if_neg (by omega), if_pos (by omega), if_pos (by rw [List.length_set]; omega), hrd, if_neg hv, hw]
  | succ q ih =>
    intro j hq hj
    have hjl : j < L.length := by omega
    have hnext := ih (j + 1) (by omega) (by omega)
    have hwj : wrap64 ((j : Int) + 1) = ((j + 1 : Nat) : Int) := by rw [w64 (by omega) (by omega)]; rfl
    rw [List.take_succ_eq_append_getElem hjl] at hnext
    obtain ⟨h1, h2⟩ := hL L[j] (List.getElem_mem hjl)
    have hrl : rd (toI L) (j : Int) = (L[j] : Int) := rd_get (by unfold toI; rw [List.getElem?_map, List.getElem?_eq_getElem hjl]; rfl)
    refine Ev.step (fun k => ?_) hnext
    simp only [weighhouseref06_Match.l4]
    rw [if_pos (by omega), if_pos (by omega), hrl, if_pos (by omega), if_pos (by omega), rdI cs L[j] (by omega)]
    by_cases h51 : opc cs L[j] = 51
    · obtain ⟨x, e, hc, hxe⟩ := hH.fin (by omega) h2
      obtain ⟨d1, d2, d3, d4⟩ := fin_facts (by omega : L[j] < cs.length) hc
      have g1 := ((PB_ok hH cs.length (Nat.le_refl _)).b1 L[j] x e (by omega) h2 hc).1
      have hx : ¬ 0 ≤ x := by
        rcases d4 with d4 | d4 <;> omega
      rw [if_neg hx] at g1
      have hrm : rd (m.set i (vL cs (L.take j))) (L[j] : Int) = (e : Int) := rd_get (by
        rw [List.getElem?_set_ne (by omega)]
        exact (hD.nl L[j] (by omega) (by omega)).trans g1)
      have hv : vL cs (L.take j ++ [L[j]]) = (e : Int) := by
        unfold vL
        rw [lastLoop_snoc, if_pos h51]
        show (xe cs L[j]).2 = _
        rw [hxe]
      rw [if_pos h51, if_pos (by rw [List.length_set]; omega), if_pos (by omega), if_pos (by rw [List.length_set]; omega), hrm, Int.toNat_natCast, List.set_set, hwj, hv]
    · have hv : vL cs (L.take j ++ [L[j]]) = vL cs (L.take j) := by
        unfold vL
        rw [lastLoop_snoc, if_neg h51]
      rw [if_neg h51, hwj, hv]
def matchRes (cs : List Ins) : List Int × Int := match scanAll cs with | none => ([], 31) | some m => (m, 0)
theorem scanAll_some {cs : List Ins} {m : List Int} {fs : List Fr} (h : scanTo cs cs.length = some (m, fs)) (hl : fs.length = 0) : scanAll cs = some m := by
  unfold scanAll
  rw [h]
  show (if fs.length = 0 then some m else none) = some m
  rw [if_pos hl]
/-- Both end with the same row. -/
theorem same_row {cs : List Ins} (hH : H1 cs) {m m' : List Int} {fs : List Fr} (h : scanTo cs cs.length = some (m, fs)) (hl : fs.length = 0) (hD : DI cs cs.length m') : m' = m := by
  have hfs : fs = [] := List.eq_nil_of_length_eq_zero hl
  subst hfs
  have hL := scan_L1 h
  have h2 := scan_L2 (Nat.le_refl _) h
  have hP := PB_ok hH cs.length (Nat.le_refl _)
  have hlm := (scanTo_ok h).1
  apply List.ext_getElem?
  intro k
  rcases Nat.lt_or_ge k cs.length with hk | hk
  · by_cases h52 : opc cs k = 52
    · obtain ⟨a, x, e, t1, t2, t3⟩ := hD.lt k hk h52
      obtain ⟨a', s1, s2⟩ := h2.m4 k hk h52
      have := Tgt.det t1 s1
      subst this
      rcases s2 with ⟨b, hb, _⟩ | ⟨y, f, s3, s4⟩
      · cases hb
      · rw [t2] at s3
        injection s3 with s5 s6
        rw [t3, s4, s6]
    · rw [hD.nl k hk h52]
      by_cases hop : opc cs k = 48 ∨ opc cs k = 51
      · obtain ⟨x, e, hc, _⟩ := hH.fin hk (isOp_iff.2 hop)
        rw [(hP.b1 k x e hk (isOp_iff.2 hop) hc).1, h2.m1 k hk (isOp_iff.2 hop), hc]
        rfl
      · by_cases h9 : opc cs k = 49
        · obtain ⟨a, p1, p2, p3⟩ := hL.el k hk h9
          rcases p3 with ⟨d, p3⟩ | ⟨e, p3, p4⟩
          · obtain ⟨j, hj, _⟩ := hL.run_ (by omega) p2 p3
            simp at hj
          · obtain ⟨n, rfl⟩ := Int.eq_ofNat_of_zero_le p4
            have g := (hP.b1 a k n (by omega) p2 p3).2.2 (by omega)
            have g' := (h2.m2 a k n (by omega) p2 p3).2 (by omega)
            rw [Int.toNat_natCast] at g g'
            rw [g, g']
        · by_cases h0 : opc cs k = 50
          · obtain ⟨a, p1, p2, x, p3⟩ := hL.en k hk h0
            rw [(hP.b1 a x k (by omega) p2 p3).2.1, (h2.m2 a x k (by omega) p2 p3).1]
          · rw [h2.m5 k hk (by unfold special; omega)]
            refine hP.b2 k hk (fun _ => isOp_not hop) (fun a x e ha hoa hc => ⟨fun he => ?_, fun hx => ?_⟩)
            · obtain ⟨d1, d2, d3, d4⟩ := fin_facts ha hc
              rw [he] at d3
              exact h0 d3
            · obtain ⟨d1, d2, d3, d4⟩ := fin_facts ha hc
              rcases d4 with d4 | ⟨d4, d5, d6, d7⟩
              · omega
              · rw [hx, Int.toNat_natCast] at d6
                exact h9 d6
  · rw [List.getElem?_eq_none (by rw [hD.len]; exact hk), List.getElem?_eq_none (by rw [hlm]; exact hk)]
theorem l3_ev {cs : List Ins} (hm : cs.length ≤ 1048576) (hH : H1 cs) (hC : ∀ k, k < cs.length → ¬ bad cs (mB cs cs.length) k) (q : Nat) : ∀ (i : Nat) (m4 m : List Int) (fs : List Fr), cs.length - i = q → i ≤ cs.length → scanTo cs i = some (m, fs) → DI cs i m4 →
    Ev (fun k => weighhouseref06_Match.l3 k cs m4 (i : Int)) (matchRes cs) := by
  induction q with
  | zero =>
    intro i m4 m fs hq hi h hD
    have e : i = cs.length := by omega
    subst e
    have hl := all_closed hH h
    have e1 : matchRes cs = (m4, 0) := by
      unfold matchRes
      rw [scanAll_some h hl, same_row hH h hl hD]
    rw [e1]
    refine Ev.step (f := fun _ => some (m4, 0)) (fun k => ?_) (Ev.now _)
    simp only [weighhouseref06_Match.l3]
    rw [if_neg (by omega)]
  | succ q ih =>
    intro i m4 m fs hq hi h hD
    have hil : i < cs.length := by omega
    have hok := scanTo_ok h
    have hop := openL_eq hH hi h
    have hw : wrap64 ((i : Int) + 1) = ((i + 1 : Nat) : Int) := by rw [w64 (by omega) (by omega)]; rfl
    have htl : (toI (openL cs i)).length = fs.length := by unfold toI; rw [List.length_map, hop, List.length_map]
    have hnone : scanStep cs i m fs = none → matchRes cs = ([], 31) := fun hs => by
      unfold matchRes
      rw [scanAll_none hil h hs]
    have hgo : ∀ m4', (∀ k, k < cs.length → k ≠ i → m4'[k]? = m4[k]?) → m4'.length = cs.length → (opc cs i ≠ 52 → m4'[i]? = m4[i]?) → (opc cs i = 52 → ∃ (a : Nat) (x : Int) (e : Nat), Tgt cs i a ∧ cl (opc cs) a cs.length = .fin x e ∧ m4'[i]? = some (e : Int)) → scanStep cs i m fs ≠ none → Ev (fun k => weighhouseref06_Match.l3 k cs m4' ((i + 1 : Nat) : Int)) (matchRes cs) := by
      intro m4' g1 g2 g3 g4 g5
      obtain ⟨⟨m', fs'⟩, hs⟩ := Option.ne_none_iff_exists'.1 g5
      refine ih (i + 1) m4' m' fs' (by omega) (by omega) ((scanTo_succ h).trans hs) ⟨g2, fun k hk h52 => ?_, fun k hk h52 => ?_, fun k hk hk2 h52 => ?_⟩
      · by_cases hki : k = i
        · rw [hki] at h52 ⊢
          rw [g3 h52]
          exact hD.nl i hil h52
        · rw [g1 k hk hki]
          exact hD.nl k hk h52
      · by_cases hki : k = i
        · rw [hki] at h52 ⊢
          exact g4 h52
        · obtain ⟨a, x, e, t1, t2, t3⟩ := hD.lt k (by omega) h52
          exact ⟨a, x, e, t1, t2, by rw [g1 k (by omega) hki]; exact t3⟩
      · rw [g1 k hk2 (by omega)]
        exact hD.ge k (by omega) hk2 h52
    -- the part behind the count
    have hj6 : ∀ n : Nat, (n > 8 → scanStep cs i m fs = none) → (n ≤ 8 → ¬ (isOp (opc cs i) = true ∧ 8 ≤ fs.length)) → Ev (fun k => weighhouseref06_Match.j6 k cs m4 (i : Int) (toI (openL cs i)) (n : Int)) (matchRes cs) := by
      intro n hn1 hn2
      by_cases hn : n > 8
      · rw [hnone (hn1 hn)]
        refine Ev.step (f := fun _ => some ([], 31)) (fun k => ?_) (Ev.now _)
        simp only [weighhouseref06_Match.j6]
        rw [if_pos (by omega)]
      · have hnd := hn2 (by omega)
        by_cases h52 : opc cs i = 52
        · have hset : m4.set i (-1) = m4 := by
            have hgi := hD.ge i (Nat.le_refl _) hil h52
            apply List.ext_getElem?
            intro k
            rw [List.getElem?_set]
            split
            · rename_i e
              subst e
              rw [if_pos (by rw [hD.len]; exact hil), hgi]
            · rfl
          have hv0 : vL cs ((openL cs i).take 0) = -1 := rfl
          refine Ev.step (f := fun k => weighhouseref06_Match.l4 k cs (m4.set i (vL cs ((openL cs i).take 0))) (i : Int) (toI (openL cs i)) ((0 : Nat) : Int)) (fun k => ?_) (l4_ev hm hil hH hD (openL cs i) (fun a ha => ?_) (by rw [hop, List.length_map]; have := hok.2.1; omega) _ (fun hv => ?_) (fun hv => ?_) _ 0 rfl (Nat.zero_le _))
          · simp only [weighhouseref06_Match.j6]
            rw [if_neg (by omega), if_pos (by omega), if_pos (by omega), rdI cs i hil, if_pos h52, hv0, hset]
            rfl
          · unfold openL isOpen at ha
            rw [List.mem_filter, List.mem_range, Bool.and_eq_true] at ha
            exact ⟨ha.1, ha.2.1⟩
          · apply hnone
            cases ht : topLoop cs (fs.map Fr.a) with
            | none =>
              unfold scanStep
              rw [if_neg (by show ¬ (opc cs i = 48 ∨ opc cs i = 51); omega), if_neg (by show ¬ opc cs i = 49; omega), if_neg (by show ¬ opc cs i = 50; omega), if_pos h52, ht]
            | some j =>
              obtain ⟨hjl, hll⟩ := (topLoop_last cs _).2 j ht
              exfalso
              unfold vL at hv
              rw [hop, hll] at hv
              have hmem : (fs.map Fr.a)[j] ∈ openL cs i := by rw [hop]; exact List.getElem_mem _
              unfold openL isOpen at hmem
              rw [List.mem_filter, List.mem_range, Bool.and_eq_true] at hmem
              have := hH _ (by omega) hmem.2.1
              have hv : (xe cs (fs.map Fr.a)[j]).2 < 0 := hv
              omega
          · cases ht : topLoop cs (fs.map Fr.a) with
            | none =>
              have := (topLoop_last cs _).1 ht
              exfalso
              apply hv
              unfold vL
              rw [hop, this]
              show (-1 : Int) < 0
              decide
            | some j =>
              obtain ⟨hjl, hll⟩ := (topLoop_last cs _).2 j ht
              have hjf : j < fs.length := by rw [List.length_map] at hjl; exact hjl
              have hmem : (fs.map Fr.a)[j] ∈ openL cs i := by rw [hop]; exact List.getElem_mem _
              unfold openL isOpen at hmem
              rw [List.mem_filter, List.mem_range, Bool.and_eq_true] at hmem
              obtain ⟨x, e, hc, hxe⟩ := hH.fin (by omega) hmem.2.1
              have hve : vL cs (openL cs i) = (e : Int) := by
                unfold vL
                rw [hop, hll]
                show (xe cs (fs.map Fr.a)[j]).2 = _
                rw [hxe]
              refine hgo _ (fun k hk hki => List.getElem?_set_ne (fun e => hki e.symm)) (by rw [List.length_set]; exact hD.len) (fun h => absurd h52 h) (fun _ => ⟨(fs.map Fr.a)[j], x, e, ⟨m, fs, j, fs[j], h, ht, List.getElem?_eq_getElem hjf, by rw [List.getElem_map]⟩, hc, ?_⟩) (fun hs => ?_)
              · rw [List.getElem?_set_self (by rw [hD.len]; exact hil), hve]
              · rcases step_fail hH hC hil h hs with h6 | h6
                · exact hnd h6
                · rw [ht] at h6
                  cases h6.2
        · refine Ev.step (fun k => ?_) (hgo m4 (fun _ _ _ => rfl) hD.len (fun _ => rfl) (fun h => absurd h h52) (fun hs => ?_))
          · simp only [weighhouseref06_Match.j6]
            rw [if_neg (by omega), if_pos (by omega), if_pos (by omega), rdI cs i hil, if_neg h52, hw]
          · rcases step_fail hH hC hil h hs with h6 | h6
            · exact hnd h6
            · exact h52 h6.1
    have hj5 : ∀ b : Bool, b = isOp (opc cs i) → Ev (fun k => weighhouseref06_Match.j5 k cs m4 (i : Int) (toI (openL cs i)) (((toI (openL cs i)).length : Nat) : Int) b) (matchRes cs) := by
      intro b hb
      rw [htl]
      cases b with
      | true =>
        refine Ev.step (f := fun k => weighhouseref06_Match.j6 k cs m4 (i : Int) (toI (openL cs i)) ((fs.length + 1 : Nat) : Int)) (fun k => ?_) (hj6 _ (fun hn => ?_) (fun hn hh => by omega))
        · simp only [weighhouseref06_Match.j5]
          rw [if_true, w64 (by have := hok.2.1; omega) (by have := hok.2.1; omega)]
          rfl
        · unfold scanStep
          rw [if_pos (isOp_iff.1 hb.symm), if_neg (by omega)]
      | false =>
        refine Ev.step (f := fun k => weighhouseref06_Match.j6 k cs m4 (i : Int) (toI (openL cs i)) (fs.length : Int)) (fun k => ?_) (hj6 _ (fun hn => by have := hok.2.1; omega) (fun hn hh => by rw [← hb] at hh; cases hh.1))
        simp only [weighhouseref06_Match.j5]
        rw [if_neg (by decide)]
    refine Ev.step (f := fun k => (weighhouseref06_opened.f k cs m4 (i : Int)).bind fun t240 => (if 0 ≤ (i : Int) then (if ((rd_T31 cs (i : Int)).f0) = 48 then (weighhouseref06_Match.j5 k cs m4 (i : Int) t240 (t240.length : Int) true) else (weighhouseref06_Match.j5 k cs m4 (i : Int) t240 (t240.length : Int) (((rd_T31 cs (i : Int)).f0) == 51))) else (none))) (fun k => ?_) (Ev.bind (opened_ev hm hH hD i hi) ?_)
    · simp only [weighhouseref06_Match.l3]
      rw [if_pos (by omega)]
    · refine Ev.congr (fun k => ?_) (hj5 (isOp (opc cs i)) rfl)
      rw [if_pos (by omega), rdI cs i hil]
      by_cases h48 : opc cs i = 48
      · rw [if_pos h48, isOp_iff.2 (.inl h48)]
      · rw [if_neg h48]
        congr 1
        by_cases h51 : opc cs i = 51
        · rw [isOp_iff.2 (.inr h51), h51]
          rfl
        · rw [isOp_not (by omega)]
          simp [h51]
theorem ref_match (cs : List Ins) (hm : cs.length ≤ 1048576) : Ev (fun k => weighhouseref06_Match.f k cs) (matchRes cs) := by
  have hbig : cs.length ≤ 4611686018427387904 := by omega
  have hA : ∀ r, Ev (fun k => weighhouseref06_Match.l1 k cs (mB cs 0) ((0 : Nat) : Int)) r → Ev (fun k => weighhouseref06_Match.f k cs) r := fun r hr => by
    have h := A_ok cs hbig r hr cs.length 0 (by omega) (Nat.zero_le _)
    refine Ev.congr (fun k => ?_) h
    unfold weighhouseref06_Match.f
    rw [if_pos (by omega), if_pos (by omega), Int.toNat_natCast]
    simp
  by_cases hH : H1 cs
  · refine hA _ (B_ok cs hbig _ hH ?_ cs.length 0 (by omega) (Nat.zero_le _))
    by_cases hC : ∀ k, k < cs.length → ¬ bad cs (mB cs cs.length) k
    · refine C_ok cs hbig _ (mB_len _ _) _ hC ?_ cs.length 0 (by omega) (Nat.zero_le _)
      exact l3_ev hm hH hC cs.length 0 _ _ _ (by omega) (Nat.zero_le _) rfl (DI.zero hH)
    · have hn : scanAll cs = none := by
        cases h : scanTo cs cs.length with
        | none => unfold scanAll; rw [h]; rfl
        | some s =>
          unfold scanAll
          rw [h]
          show (if s.2.length = 0 then some s.1 else none) = none
          by_cases hl : s.2.length = 0
          · exact absurd (scan_good (m := s.1) (fs := s.2) h hl).2 hC
          · rw [if_neg hl]
      have e : matchRes cs = ([], 31) := by unfold matchRes; rw [hn]
      rw [e]
      refine C_fail cs hbig _ (mB_len _ _) cs.length 0 (by omega) (Nat.zero_le _) ?_
      refine Classical.byContradiction fun hx => hC fun k hk hb => hx ⟨k, Nat.zero_le _, hk, hb⟩
  · have hn : scanAll cs = none := by
      cases h : scanTo cs cs.length with
      | none => unfold scanAll; rw [h]; rfl
      | some s =>
        unfold scanAll
        rw [h]
        show (if s.2.length = 0 then some s.1 else none) = none
        by_cases hl : s.2.length = 0
        · exact absurd (scan_good (m := s.1) (fs := s.2) h hl).1 hH
        · rw [if_neg hl]
    have e : matchRes cs = ([], 31) := by unfold matchRes; rw [hn]
    rw [e]
    refine hA _ (B_fail cs hbig cs.length 0 _ (by omega) (Nat.zero_le _) (mB_len _ _) ?_)
    refine Classical.byContradiction fun hx => hH fun a ha ho => ?_
    rcases Int.lt_or_le (xe cs a).2 0 with h | h
    · exact absurd ⟨a, Nat.zero_le _, ha, ho, h⟩ hx
    · exact h
end Go.Proofs.Ytbdmbkmokhaflaa.Th
end

section
-- written by hprint.py (a program of these sessions) out of the translation; Lean checks it
namespace Go.Proofs.Ytbdmbkmokhaflaa.Q
open Go.RowKit Go.Proofs.YtbdmbkmokhaflaaW.Hb Go.Proofs.YtbdmbkmokhaflaaW.PrintWords Go.Proofs.YtbdmbkmokhaflaaW.PrintLast Go.Proofs.YtbdmbkmokhaflaaW.PrintMore
attribute [local go_sem] max2_int min2_int max_two min_two max_three min_three max_four min_four   -- for this text's walks alone
set_option linter.unusedVariables false
set_option linter.unusedSimpArgs false

/-! ### shape_Around_lit1_26: function 26, by hand -/
/-- A store and what it leaves. -/
theorem own_setCell {w : World} {g : Nat} {t : TypeId} {v v' : Value} {base e : Nat} {ok : Nat → Prop} {xs : List Int} (hb : Blk w g t #[v]) (hr : (Kd.int .i64).R e w base ok v' xs) (hg : ¬ ok g) : Blk (w.setCell ⟨g, 0, none⟩ v') g t #[v'] ∧ (Kd.int .i64).R e (w.setCell ⟨g, 0, none⟩ v') base ok v' xs :=
  ⟨by simpa using hb.set_ 0 v', Kd.R_far hr (p := ⟨g, 0, none⟩) (fun k hk he => hg (by have he : k = g := he; rw [← he]; exact hk)) _⟩
set_option maxRecDepth 100000 in
set_option maxHeartbeats 2000000 in
theorem shape_Around_lit1_26.calls (w : World) (i at_ : Int) (Ao : Option Addr) (co : Nat) (ps : List Nat) (ats : List Int) (bat bout base : Nat) (vo : Value) (out : List Int) (ok : Nat → Prop) (hat : w.cell? ⟨bat, 0, none⟩ = some (.int .i64 at_)) (hbat : ¬ ok bat ∧ bat ≠ bout) (hps : kP.C w Ao ps.length ps) (hpo : ∀ ad, Ao = some ad → ¬ ok ad.block ∧ ad.block ≠ bout) (hlen : ats.length = ps.length) (hcl : ∀ j (hj : j < ps.length) (hj2 : j < ats.length), w.cell? ⟨ps[j], 0, none⟩ = some (.int .i64 ats[j]) ∧ ¬ ok ps[j] ∧ ps[j] ≠ bout) (hb : Blk w bout 24 #[vo]) (hr : (Kd.int .i64).R 3 w base ok vo out) (hg : ¬ ok bout) (hbase : base ≤ w.heap.size) (hl : out.length + ps.length ≤ 1048576) :
    Calls Try.prog 26 #[.int .i64 i, .slice Ao ps.length co, .pointer (some ⟨bat, 0, none⟩), .pointer (some ⟨bout, 0, none⟩)] w fun e w' => e = .returned (.tuple #[]) ∧ ∃ v', Blk w' bout 24 #[v'] ∧ (Kd.int .i64).R 3 w' base (fun k => ok k ∨ w.heap.size ≤ k) v' (if i = at_ then out ++ ats else out) ∧ Chg w w' (fun k => k = bout ∨ ok k) := by
  have HAT := Aside0.mk hat
  have HPS := Aside0.mk hps
  have HPO := Aside0.mk hpo
  have HCL := Aside0.mk hcl
  have HB := Aside0.mk hb
  have HR := Aside0.mk (Kd.R_mono (ok' := fun k => ok k ∨ w.heap.size ≤ k) hr (fun k hk => .inl hk))
  have HRO := Aside0.mk hr
  have HG := Aside0.mk hg
  have HBAT := Aside0.mk hbat
  have hgl := hb.lt
  have hm : ps.length ≤ 9223372036854775807 := hps.2.1
  clear hat hps hpo hcl hb hr hg hbat
  by_cases hi : i = at_
  rotate_left
  · have HE := Aside0.mk (show (if i = at_ then out ++ ats else out) = out from if_neg hi)
    have hd : (i == at_) = false := by simp [hi]
    rw [HE.out]
    clear hi HE
    go_enter Try.func26, Try.ntmps26
    go_wp2
    go_loopw [10] (fun k wr => ∃ j : Nat, j ≤ ps.length ∧ k = .int .i64 j ∧ wr = w) (fun k _ => ps.length - (intOf k).toNat)
    case atStart => exact ⟨0, Nat.zero_le _, rfl, rfl⟩
    case round =>
      obtain ⟨j, hj, rfl, rfl⟩ := hrel
      by_cases hlt : j < ps.length
      · obtain ⟨ad, e, hcell⟩ := at_P HPS.out j hlt
        cases e
        have hcell2 : wr.cell? (ad.add j) = some (.pointer (some ⟨ps[j], 0, none⟩)) := hcell
        have hat := HAT.out
        have q1 : (j : Int) < (ps.length : Int) := by omega
        clear hcell
        go_wp2
        go_roundw
        case rel => exact ⟨j + 1, by omega, by go_num, by first | rfl | trivial⟩
        case measure => simp [intOf]; omega
      · have q1 : ¬ (j : Int) < (ps.length : Int) := by omega
        go_wp2
        refine bodyPost_end (results_none rfl _ _ _) rfl ?_
        exact ⟨rfl, vo, HB.out, HR.out, Chg.refl _ _⟩
  · have HE := Aside0.mk (show (if i = at_ then out ++ ats else out) = out ++ ats from if_pos hi)
    have hd : (i == at_) = true := by simp [hi]
    rw [HE.out]
    clear HE
    go_enter Try.func26, Try.ntmps26
    go_wp2
    go_loopw [10] (fun k wr => ∃ (j : Nat) (v : Value), j ≤ ps.length ∧ k = .int .i64 j ∧ Aside0 (Blk wr bout 24 #[v]) ∧ Aside0 ((Kd.int .i64).R 3 wr base (fun k => ok k ∨ w.heap.size ≤ k) v (out ++ ats.take j)) ∧ Aside0 (Chg w wr (fun k => k = bout ∨ ok k))) (fun k _ => ps.length - (intOf k).toNat)
    case atStart => exact ⟨0, vo, Nat.zero_le _, rfl, HB, ⟨by simpa using HR.out⟩, ⟨Chg.refl _ _⟩⟩
    case round =>
      clear HB HR
      obtain ⟨j, v, hj, rfl, HB, HR, HK⟩ := hrel
      by_cases hlt : j < ps.length
      · obtain ⟨ad, e, hcell⟩ := at_P HPS.out j hlt
        cases e
        obtain ⟨hat2, hnp, hpb⟩ := HCL.out j hlt (by omega)
        have hpo := HPO.out ad rfl
        have hrd : wr.cell? (ad.add j) = some (.pointer (some ⟨ps[j], 0, none⟩)) := cellS hcell HK.out.2 (by
          rw [add_block]
          intro h
          rcases h with h | h
          · exact hpo.2 h
          · exact hpo.1 h)
        have hata : wr.cell? ⟨bat, 0, none⟩ = some (.int .i64 at_) := cellS HAT.out HK.out.2 (fun h => by
          rcases h with h | h
          · exact HBAT.out.2 h
          · exact HBAT.out.1 h)
        have hpc : wr.cell? ⟨ps[j], 0, none⟩ = some (.int .i64 ats[j]) := cellS hat2 HK.out.2 (fun h => by
          rcases h with h | h
          · exact hpb h
          · exact hnp h)
        have HT := Aside0.mk (show out ++ ats.take (j + 1) = (out ++ ats.take j) ++ [ats[j]] by rw [List.take_succ_eq_append_getElem (by omega), List.append_assoc])
        have HLN := Aside0.mk (show ((out ++ ats.take j).length + ([ats[j]] : List Int).length) * 8 ≤ 140737488355328 by rw [List.length_append, List.length_take, List.length_singleton]; omega)
        obtain ⟨p, hp⟩ : ∃ p, ps[j] = p := ⟨_, rfl⟩
        obtain ⟨a, ha⟩ : ∃ a, ats[j] = a := ⟨_, rfl⟩
        rw [ha] at HT HLN hpc
        rw [hp] at hrd hpc
        obtain ⟨L, hL⟩ : ∃ L, out ++ ats.take j = L := ⟨_, rfl⟩
        rw [hL] at HR HT HLN
        obtain ⟨q, hq⟩ : ∃ q, L ++ [a] = q := ⟨_, rfl⟩
        rw [hq] at HT
        have HQ := Aside0.mk hq
        obtain ⟨Av, cv, rfl, hcv, _⟩ := Kd.R_reads HR.out
        have q1 : (j : Int) < (ps.length : Int) := by omega
        have k0 : wr.drew.cell? ⟨bout, 0, none⟩ = some (.slice Av L.length cv) := HB.out.cell 0
        have k1 : wr.drew.cell? ⟨p, 0, none⟩ = some (.int .i64 a) := hpc
        have HBd := Aside0.mk HB.out.drew
        have HRd := Aside0.mk (Kd.R_drew HR.out)
        have HKd := Aside0.mk (show Chg w wr.drew (fun k => k = bout ∨ ok k) from ⟨HK.out.1.drew, HK.out.2.drew⟩)
        clear hcell hp ha hL hq hat2 hnp hpb hpo
        go_wp2
        refine start_ (n := 8) (S := fun w' => w'.cell? ⟨bout, 0, none⟩ = some (.slice Av L.length cv) ∧ w'.cell? ⟨p, 0, none⟩ = some (.int .i64 a)) (ds := [6, 7]) #[false, false, false, false, false, false, false, false] (by kernel_rfl) rfl rfl ⟨k0, k1⟩ (fun hHeld => ?_)
        generalize wr.drew = wd at k0 k1 HBd HRd HKd hHeld ⊢
        refine pure_ (i := 1) (N := some 18) (v := ?_) (a' := ?_) #[false, true, false, false, false, false, false, false] rfl rfl (by kernel_rfl) (fun _ _ _ h => h) (Or.inl ⟨by rfl, ?_⟩) ?_ ?_
        rotate_left
        · intro w'
          go_simp
          with_reducible rfl
        rotate_left
        · simp only [Act.put, List.setIfInBounds_toArray, List.set_cons_zero, List.set_cons_succ, i64_w, i32_w]
          rfl
        refine pure_ (i := 2) (N := some 19) (v := ?_) (a' := ?_) #[false, true, true, false, false, false, false, false] rfl rfl (by kernel_rfl) (fun _ _ _ h => h) (Or.inl ⟨by rfl, ?_⟩) ?_ ?_
        rotate_left
        · intro w'
          go_simp
          with_reducible rfl
        rotate_left
        · simp only [Act.put, List.setIfInBounds_toArray, List.set_cons_zero, List.set_cons_succ, i64_w, i32_w]
          rfl
        refine pure_ (i := 3) (N := some 20) (v := ?_) (a' := ?_) #[false, true, true, true, false, false, false, false] rfl rfl (by kernel_rfl) (fun _ _ _ h => h) (Or.inl ⟨by rfl, ?_⟩) ?_ ?_
        rotate_left
        · intro w'
          go_simp
          with_reducible rfl
        rotate_left
        · simp only [Act.put, List.setIfInBounds_toArray, List.set_cons_zero, List.set_cons_succ, i64_w, i32_w]
          rfl
        refine take_ (i := 0) (N := some 17) (v := ?_) (a' := ?_) #[true, true, true, true, false, false, false, false] rfl rfl (by kernel_rfl) (fun _ _ _ h => h) (Or.inl ⟨by rfl, ?_⟩) hHeld ?_ ?_
        rotate_left
        · rintro w' ⟨s0, s1⟩
          go_simp
          with_reducible rfl
        rotate_left
        · simp only [Act.put, List.setIfInBounds_toArray, List.set_cons_zero, List.set_cons_succ, i64_w, i32_w]
          rfl
        refine take_ (i := 4) (N := some 21) (v := ?_) (a' := ?_) #[true, true, true, true, true, false, false, false] rfl rfl (by kernel_rfl) (fun _ _ _ h => h) (Or.inl ⟨by rfl, ?_⟩) hHeld ?_ ?_
        rotate_left
        · rintro w' ⟨s0, s1⟩
          go_simp
          with_reducible rfl
        rotate_left
        · simp only [Act.put, List.setIfInBounds_toArray, List.set_cons_zero, List.set_cons_succ, i64_w, i32_w]
          rfl
        refine one_ (i := 5) (N := some 22) #[true, true, true, true, true, true, false, false] rfl rfl (by kernel_rfl) (by decide) (fun K hK => ?_)
        refine value_ (w1 := ?_) (v := ?_) (by rfl) rfl ?_ ?_
        rotate_left 2
        · go_simp
          constructor
          · rfl
          · rfl
        have HC2 := Aside0.mk (C_lit_int wd wd.heap.size rfl .i64 [a] #[.int .i64 a] rfl 3 (by simp))
        have HR2 := Aside0.mk (Kd.R_alloc HRd.out (.cells #[.int .i64 a] 3))
        have HB2 := Aside0.mk (HBd.out.alloc (.cells #[.int .i64 a] 3))
        have HK2 := Aside0.mk (show Chg w (wd.alloc (.cells #[.int .i64 a] 3)) (fun k => k = bout ∨ ok k) from HKd.out.then_ (Chg.of_below ((Below.refl _ _).alloc (Nat.le_refl _) _) (fun _ => False)) (fun _ h => h.elim))
        refine hK.out _ _ ⟨(cell_allocd k0 (.cells #[.int .i64 a] 3)), (cell_allocd k1 (.cells #[.int .i64 a] 3))⟩ (fun hHeld => ?_)
        clear hK K
        refine norm_ (a' := ?_) ?_ ?_
        rotate_left
        · show Act.put _ (some 22) _ = _
          simp only [Act.put, List.setIfInBounds_toArray, List.set_cons_zero, List.set_cons_succ, i64_w, i32_w]
          rfl
        refine last_ (i := 6) (N := some 23) #[true, true, true, true, true, true, true, false] rfl rfl (by kernel_rfl) (by decide) (fun K hK => ?_)
        refine Kd.R_append_rows_step (Kd.int .i64) (w0 := wd.alloc (.cells #[.int .i64 a] 3)) (Rr := (Kd.int .i64).K (wd.alloc (.cells #[.int .i64 a] 3))) base (by rfl) (.tmp 17) (.tmp 22) 24 3 (.int .i64 0) 8 rfl Try.underlying24 info3 rfl (by decide) (by omega) (.slice Av L.length cv) L [a] (some ⟨wd.heap.size, 0, none⟩) 1 1 (fun k => ok k ∨ w.heap.size ≤ k) (fun _ => False) rfl rfl HR2.out HC2.out (fun x cs hK => hK) (fun _ hk => hk.elim) (fun k hk => .inr (Nat.le_trans HK2.out.size hk)) (Below.refl _ _) (Nat.le_trans hbase HK2.out.size) HLN.out ?_
        intro v3 w3 hR3 hB3 hG3 _
        rw [HQ.out] at hR3
        obtain ⟨A3, c3, rfl⟩ := Kd.R_slice hR3
        have HR3 := Aside0.mk hR3
        have HN := Aside0.mk (show ∀ k, (Value.slice Av L.length cv).ownBlock = some k → ok k ∨ w.heap.size ≤ k from fun k hk => HR2.out.1 k hk)
        have hb3 : Blk w3 bout 24 #[.slice Av L.length cv] := HB2.out.grown hG3 (fun he => by
          rcases HN.out bout he.symm with h | h
          · exact HG.out h
          · omega)
        have HB3 := Aside0.mk hb3
        have q3 : w3.cell? ⟨bout, 0, none⟩ = some (.slice Av L.length cv) := hb3.cell 0
        have f3 : w3.frozen? ⟨bout, 0, none⟩ = false := hb3.frozen 0
        have HK3 := Aside0.mk (show Chg w w3 (fun k => k = bout ∨ ok k) from ⟨⟨hG3.os.trans HK2.out.1.os, hG3.tape.trans HK2.out.1.tape, hG3.output.trans HK2.out.1.output, Nat.le_trans HK2.out.1.size hG3.size, fun k hk => absurd hk (Nat.not_lt_zero k)⟩, Kept.of_grown hG3 HK2.out.2 (fun k hk => by
          rcases HN.out k hk with h | h
          · exact .inl (.inr h)
          · exact .inr h)⟩)
        clear hR3 hB3 hG3 hb3
        refine hK.out _ _ ?_
        clear hK K
        refine norm_ (a' := ?_) ?_ ?_
        rotate_left
        · show Act.put _ (some 23) _ = _
          simp only [Act.put, List.setIfInBounds_toArray, List.set_cons_zero, List.set_cons_succ, i64_w, i32_w]
          rfl
        refine last_ (i := 7) (N := none) #[true, true, true, true, true, true, true, true] rfl rfl (by kernel_rfl) (by decide) (fun K hK => ?_)
        refine skip_ (w1 := ?_) (by rfl) rfl ?_ ?_
        rotate_left
        · go_simp
          rfl
        refine hK.out _ _ ?_
        clear hK K
        refine done_ (by kernel_rfl) ?_
        clear hHeld
        go_wp2
        have hgn : ¬ (ok bout ∨ w.heap.size ≤ bout) := fun h => by
          rcases h with h | h
          · exact HG.out h
          · omega
        have HF := Aside0.mk (own_setCell HB3.out HR3.out hgn)
        have HKF := Aside0.mk (HK3.out.then_ (Chg.set_ w3 ⟨bout, 0, none⟩ (.slice A3 q.length c3)) (fun k hk => .inl (.inl hk)))
        go_roundw
        case rel => exact ⟨j + 1, _, by omega, by go_num, ⟨HF.out.1⟩, ⟨by rw [HT.out]; exact HF.out.2⟩, HKF⟩
        case measure => simp [intOf]; omega
      · have q1 : ¬ (j : Int) < (ps.length : Int) := by omega
        have HT := Aside0.mk (show ats.take j = ats from List.take_of_length_le (by omega))
        go_wp2
        refine bodyPost_end (results_none rfl _ _ _) rfl ?_
        exact ⟨rfl, v, HB.out, by rw [← HT.out]; exact HR.out, HK.out⟩


end Go.Proofs.Ytbdmbkmokhaflaa.Q
end

section
-- written by hprint.py (a program of these sessions) out of the translation; Lean checks it
namespace Go.Proofs.Ytbdmbkmokhaflaa.Q
open Go.RowKit Go.Proofs.YtbdmbkmokhaflaaW.Hb Go.Proofs.YtbdmbkmokhaflaaW.PrintWords Go.Proofs.YtbdmbkmokhaflaaW.PrintLast Go.Proofs.YtbdmbkmokhaflaaW.PrintMore
attribute [local go_sem] max2_int min2_int max_two min_two max_three min_three max_four min_four   -- for this text's walks alone
set_option linter.unusedVariables false
set_option linter.unusedSimpArgs false

/-! ### shape_Around: function 19, by hand -/
def openOf (cs : List Ins) (i : Nat) : List Int := ((scanTo cs i).map (fun s => s.2.map (fun b => (b.a : Int)))).getD []
def aroundTo (cs : List Ins) (at_ : Int) (i : Nat) : List Int := if 0 ≤ at_ ∧ at_ < i then openOf cs at_.toNat else []
theorem aroundTo_succ (cs : List Ins) (at_ : Int) (i : Nat) : aroundTo cs at_ (i + 1) = if (i : Int) = at_ then aroundTo cs at_ i ++ openOf cs i else aroundTo cs at_ i := by
  unfold aroundTo
  by_cases h : (i : Int) = at_
  · subst h
    rw [if_pos rfl, if_pos (by omega), if_neg (by omega)]
    simp
  · rw [if_neg h]
    by_cases h2 : 0 ≤ at_ ∧ at_ < i
    · rw [if_pos (by omega), if_pos h2]
    · rw [if_neg (by omega), if_neg h2]
def shape_Around.f (l0 : List Ins) (a1 : Int) : Option (List Int) := if l0.length ≤ 1048576 then some (match scanAll l0 with | none => [] | some _ => aroundTo l0 a1 l0.length) else none
theorem cf_around (args : Array Value) (W : World) : (callFunc 26 args).run Try.prog W = .ok (.enter 26 args) W := by go_simp
def ArInv (cs : List Ins) (w : World) (at_ : Int) (bout i : Nat) (W : World) (T : Nat → Prop) : Prop :=
  (∀ k, T k → k = bout ∨ w.heap.size ≤ k) ∧ T bout ∧ ∃ v, Blk W bout 24 #[v] ∧ RI W w.heap.size (fun k => T k ∧ k ≠ bout) v (aroundTo cs at_ i)
theorem openOf_len (cs : List Ins) (i : Nat) : (openOf cs i).length ≤ 8 := by
  unfold openOf
  cases h : scanTo cs i with
  | none => simp
  | some s =>
    have := (scanTo_ok (m := s.1) (fs := s.2) h).2.1
    simpa using this
theorem sees_around (cs : List Ins) (w : World) (bat bout : Nat) (at_ : Int) (h0 : w.cell? ⟨bat, 0, none⟩ = some (.int .i64 at_)) (hbl : bat < w.heap.size) (hne : bat ≠ bout) (hbo : bout < w.heap.size) : Sees cs w (fun k => k = bout) 26 #[.pointer (some ⟨bat, 0, none⟩), .pointer (some ⟨bout, 0, none⟩)] (ArInv cs w at_ bout) := by
  refine ⟨fun i W W' T S hi hc hS => ?_, fun i W T Ao c ps ats hi hI hc hC hAo hats hlen h8 hcl => ?_⟩
  · obtain ⟨h1, h2, v, h3, h4⟩ := hi
    exact ⟨h1, h2, v, blk_kept h3 hc.2 (fun hs => (hS bout hs).1 h2), Kd.R_kept h4 hc.2 (fun k hk hs => (hS k hs).1 hk.1)⟩
  · obtain ⟨h1, h2, v, h3, h4⟩ := hI
    have hsz : w.heap.size ≤ W.heap.size := hc.size
    have hop : openOf cs i = ats.map (fun (n : Nat) => (n : Int)) := by
      unfold openOf
      cases hs : scanTo cs i with
      | none => rw [hs] at hats; cases hats
      | some s =>
        rw [hs] at hats
        have : s.2.map Fr.a = ats := Option.some.inj hats
        rw [← this]
        simp
    have hTb : ∀ k, T k ∧ k ≠ bout → w.heap.size ≤ k := fun k hk => (h1 k hk.1).elim (fun e => absurd e hk.2) id
    have hol : (aroundTo cs at_ i).length ≤ 8 := by
      unfold aroundTo
      split
      · exact openOf_len _ _
      · simp
    refine (shape_Around_lit1_26.calls W i at_ Ao c ps (ats.map (fun (n : Nat) => (n : Int))) bat bout w.heap.size v (aroundTo cs at_ i) (fun k => T k ∧ k ≠ bout) (cellS h0 hc.2 hne) ⟨fun h => by have := hTb _ h; omega, hne⟩ hC (fun ad e => ⟨fun h => hAo ad e h.1, fun h => hAo ad e (by rw [h]; exact h2)⟩) (by rw [List.length_map]; exact hlen) (fun j hj hj' => ?_) h3 h4 (fun h => h.2 rfl) hsz (by omega)).mono ?_
    · have hj2 : j < ats.length := by rw [List.length_map] at hj'; exact hj'
      obtain ⟨c1, c2⟩ := hcl j hj hj2
      exact ⟨by rw [List.getElem_map]; exact c1, fun h => c2 h.1, fun h => c2 (by rw [h]; exact h2)⟩
    · rintro e W' ⟨rfl, v', hb', hr', hc'⟩
      have hTS : ∀ k, (k = bout ∨ T k ∧ k ≠ bout) → T k := fun k hk => hk.elim (fun e => e ▸ h2) (fun h => h.1)
      refine ⟨rfl, hc'.mono hTS, fun k => (T k ∨ W.heap.size ≤ k) ∧ k < W'.heap.size, ⟨fun k hk => ?_, ⟨.inl h2, hb'.lt⟩, v', hb', ?_⟩, fun k hk => hk⟩
      · rcases hk.1 with h | h
        · exact h1 k h
        · exact .inr (by omega)
      · rw [aroundTo_succ, hop]
        refine R_rel hr' (fun k hk h => ?_)
        rcases h with h | h
        · exact ⟨⟨.inl h.1, hk⟩, h.2⟩
        · exact ⟨⟨.inr h, hk⟩, by omega⟩
set_option maxRecDepth 100000 in
set_option maxHeartbeats 4000000 in
theorem shape_Around.calls (A0 : Option Addr) (c0 : Nat) (l0 : List (S31)) (a1 : Int) (r : List Int) (w : World) (hr0 : Kd.C k31 w A0 l0.length l0) (hc0 : l0.length ≤ c0) (h : shape_Around.f l0 a1 = some r) :
    Calls Try.prog 19 #[.slice A0 l0.length c0, .int .i64 a1] w fun e w' => ∃ v0_ : Value, e = .returned (v0_) ∧ Kd.R (Kd.int .i64) 3 w' w.heap.size (fun _ => True) v0_ r ∧ Below w.heap.size w w' := by
  unfold shape_Around.f at h
  split at h
  · rename_i hl
    have hB1 : Below w.heap.size w ((w.alloc (.cells #[.int .i64 a1] 3)).alloc (.cells #[.slice none 0 0] 24)) := ((Below.refl _ w).alloc (Nat.le_refl _) _).alloc (by rw [World.size_alloc]; omega) _
    have b0 := (Blk.new w 3 #[.int .i64 a1]).alloc (.cells #[.slice none 0 0] 24)
    have b1 := Blk.new (w.alloc (.cells #[.int .i64 a1] 3)) 24 #[.slice none 0 0]
    rw [World.size_alloc] at b1
    have hrC := Kd.C_below hr0 hB1
    have hA1 : 0 < l0.length → ∀ ad, A0 = some ad → ad.block ≠ w.heap.size + 1 := fun hn ad e => by
      subst e
      have := Kd.C_lt hr0 hn (by decide)
      omega
    have HS := Aside0.mk (shape_scan.calls _ A0 c0 26 l0 (fun k => k = w.heap.size + 1) #[.pointer (some ⟨w.heap.size, 0, none⟩), .pointer (some ⟨w.heap.size + 1, 0, none⟩)] (ArInv l0 ((w.alloc (.cells #[.int .i64 a1] 3)).alloc (.cells #[.slice none 0 0] 24)) a1 (w.heap.size + 1)) hrC (fun k hk => by rw [World.size_alloc, World.size_alloc]; omega) hA1 ⟨fun k hk => .inl hk, rfl, _, b1, by
      have e0 : aroundTo l0 a1 0 = [] := if_neg (by omega)
      rw [e0]
      exact Kd.R_nil _ _ _ _ _⟩ (sees_around l0 _ w.heap.size (w.heap.size + 1) a1 (b0.cell 0) (by rw [World.size_alloc, World.size_alloc]; omega) (by omega) (by rw [World.size_alloc, World.size_alloc]; omega)) cf_around hl)
    have HBE := Aside0.mk (fun (w' : World) (hc : Chg ((w.alloc (.cells #[.int .i64 a1] 3)).alloc (.cells #[.slice none 0 0] 24)) w' (fun k => k = w.heap.size + 1)) => hB1.trans (hc.below (B := w.heap.size) (by rw [World.size_alloc, World.size_alloc]; omega) (fun k hk => by omega)))
    clear hr0 hl hB1 b0 b1 hrC hA1
    cases hs : scanAll l0 with
    | none =>
      rw [hs] at h
      obtain rfl := Option.some.inj h
      have HX := Aside0.mk hs
      clear h hs
      go_enter Try.func19, Try.ntmps19
      go_wp2_with (go_at_call 21; (with_reducible refine HS.out.mono ?_); rintro e w' ⟨hc, hm⟩; rw [HX.out] at hm; obtain rfl := hm; have HC := Aside0.mk hc; clear hc)
      go_ret
      exact ⟨_, rfl, Kd.R_nil _ _ _ _ _, HBE.out w' HC.out⟩
    | some m =>
      rw [hs] at h
      obtain rfl := Option.some.inj h
      have HX := Aside0.mk hs
      clear h hs
      go_enter Try.func19, Try.ntmps19
      go_wp2_with (go_at_call 21; (with_reducible refine HS.out.mono ?_); rintro e w' ⟨hc, hm⟩; rw [HX.out] at hm; obtain ⟨v, T, rfl, _, ⟨_, _, u, hb, hR⟩, _⟩ := hm; have hq : w'.cell? ⟨w.heap.size + 1, 0, none⟩ = some u := hb.cell 0; have HC := Aside0.mk hc; have HR := Aside0.mk hR; clear hc hR hb)
      go_ret
      exact ⟨_, rfl, Kd.R_lower (Kd.R_mono HR.out (fun _ _ => trivial)) (by rw [World.size_alloc, World.size_alloc]; omega), HBE.out w' HC.out⟩
  · cases h


end Go.Proofs.Ytbdmbkmokhaflaa.Q
end

section
/- layer 6: the depth, and what is open at a place: both answers are the same -/
set_option linter.unusedVariables false
set_option linter.unusedSimpArgs false
namespace Go.Proofs.Ytbdmbkmokhaflaa.Th
open Go.RowKit Go.Proofs.YtbdmbkmokhaflaaW.PrintWords Go.Proofs.YtbdmbkmokhaflaaW.Hb
open Go.Shape6 Go.Proofs.Ytbdmbkmokhaflaa.Q

theorem row_nl {cs : List Ins} (hH : H1 cs) {m : List Int} (h : scanTo cs cs.length = some (m, [])) (k : Nat) (hk : k < cs.length) (h52 : opc cs k ≠ 52) : m[k]? = (mB cs cs.length)[k]? := by
  have hL := scan_L1 h
  have h2 := scan_L2 (Nat.le_refl _) h
  have hP := PB_ok hH cs.length (Nat.le_refl _)
  by_cases hop : opc cs k = 48 ∨ opc cs k = 51
  · obtain ⟨x, e, hc, _⟩ := hH.fin hk (isOp_iff.2 hop)
    rw [(hP.b1 k x e hk (isOp_iff.2 hop) hc).1, h2.m1 k hk (isOp_iff.2 hop), hc]
    rfl
  · by_cases h9 : opc cs k = 49
    · obtain ⟨a, p1, p2, p3⟩ := hL.el k hk h9
      rcases p3 with ⟨d, p3⟩ | ⟨e, p3, p4⟩
      · obtain ⟨j, hj, _⟩ := hL.run_ (by omega) p2 p3
        simp at hj
      · obtain ⟨n, rfl⟩ := Int.eq_ofNat_of_zero_le p4
        have g := (hP.b1 a k n (by omega) p2 p3).2.2 (by omega)
        have g' := (h2.m2 a k n (by omega) p2 p3).2 (by omega)
        rw [Int.toNat_natCast] at g g'
        rw [g, g']
    · by_cases h0 : opc cs k = 50
      · obtain ⟨a, p1, p2, x, p3⟩ := hL.en k hk h0
        rw [(hP.b1 a x k (by omega) p2 p3).2.1, (h2.m2 a x k (by omega) p2 p3).1]
      · rw [h2.m5 k hk (by unfold special; omega)]
        refine (hP.b2 k hk (fun _ => isOp_not hop) (fun a x e ha hoa hc => ⟨fun he => ?_, fun hx => ?_⟩)).symm
        · obtain ⟨d1, d2, d3, d4⟩ := fin_facts ha hc
          rw [he] at d3
          exact h0 d3
        · obtain ⟨d1, d2, d3, d4⟩ := fin_facts ha hc
          rcases d4 with d4 | ⟨d4, d5, d6, d7⟩
          · omega
          · rw [hx, Int.toNat_natCast] at d6
            exact h9 d6
theorem scanAll_inv {cs : List Ins} {m : List Int} (h : scanAll cs = some m) : scanTo cs cs.length = some (m, []) := by
  unfold scanAll at h
  cases hs : scanTo cs cs.length with
  | none => rw [hs] at h; cases h
  | some s =>
    rw [hs] at h
    have h : (if s.2.length = 0 then some s.1 else none) = some m := h
    by_cases hl : s.2.length = 0
    · rw [if_pos hl] at h
      have e1 : s.1 = m := Option.some.inj h
      have e2 : s.2 = [] := List.eq_nil_of_length_eq_zero hl
      rw [← e1, ← e2]
    · rw [if_neg hl] at h
      cases h
theorem good_H1 {cs : List Ins} {m : List Int} (h : scanAll cs = some m) : H1 cs := (scan_good (scanAll_inv h) rfl).1
theorem row_DI {cs : List Ins} {m : List Int} (h : scanAll cs = some m) : DI cs cs.length m := by
  have hs := scanAll_inv h
  have h2 := scan_L2 (Nat.le_refl _) hs
  refine ⟨(scanTo_ok hs).1, fun k hk h52 => row_nl (good_H1 h) hs k hk h52, fun k hk h52 => ?_, fun k h1 h2 => by omega⟩
  obtain ⟨a, s1, s2⟩ := h2.m4 k hk h52
  rcases s2 with ⟨b, hb, _⟩ | ⟨y, f, s3, s4⟩
  · cases hb
  · exact ⟨a, y, f, s1, s3, s4⟩
theorem scanTo_before {cs : List Ins} {j : Nat} {s : List Int × List Fr} (h : scanTo cs j = some s) {i : Nat} (hi : i ≤ j) : ∃ m fs, scanTo cs i = some (m, fs) := by
  cases hs : scanTo cs i with
  | none => rw [scanTo_none hs hi] at h; cases h
  | some t => exact ⟨t.1, t.2, rfl⟩
theorem openOf_eq {cs : List Ins} {m : List Int} (h : scanAll cs = some m) {i : Nat} (hi : i ≤ cs.length) : openOf cs i = toI (openL cs i) ∧ openAt cs i = (openL cs i).length ∧ (openL cs i).length ≤ 8 := by
  obtain ⟨m', fs, hs⟩ := scanTo_before (scanAll_inv h) hi
  have e := openL_eq (good_H1 h) hi hs
  unfold openOf openAt toI
  rw [hs, e]
  exact ⟨by simp, by simp, by simp; exact (scanTo_ok hs).2.1⟩
theorem depthTo_bound {cs : List Ins} {m : List Int} (h : scanAll cs = some m) {i : Nat} (hi : i ≤ cs.length) : 0 ≤ depthTo cs i := by
  induction i with
  | zero => exact Int.le_refl _
  | succ i ih =>
    have := ih (by omega)
    show 0 ≤ deeper _ _ _
    unfold deeper
    omega
theorem depth_l0 {cs : List Ins} (hm : cs.length ≤ 1048576) {m : List Int} (h : scanAll cs = some m) (q : Nat) : ∀ i, cs.length - i = q → i ≤ cs.length → Ev (fun k => weighhouseref06_Depth.l0 k cs m (depthTo cs i) (i : Int)) (depthTo cs cs.length, 0) := by
  have hH := good_H1 h
  have hD := row_DI h
  induction q with
  | zero =>
    intro i hq hi
    have e : i = cs.length := by omega
    subst e
    refine Ev.step (f := fun _ => some (depthTo cs cs.length, 0)) (fun k => ?_) (Ev.now _)
    simp only [weighhouseref06_Depth.l0]
    rw [if_neg (by omega)]
  | succ q ih =>
    intro i hq hi
    have hil : i < cs.length := by omega
    obtain ⟨e1, e2, e3⟩ := openOf_eq h hi
    have hw : wrap64 ((i : Int) + 1) = ((i + 1 : Nat) : Int) := by rw [w64 (by omega) (by omega)]; rfl
    have htl : (toI (openL cs i)).length = (openL cs i).length := by unfold toI; rw [List.length_map]
    have hd : depthTo cs (i + 1) = deeper (depthTo cs i) (openL cs i).length (opc cs i) := by
      show deeper (depthTo cs i) (openAt cs i) (Q.opAt cs i) = _
      rw [e2]
    refine Ev.step (f := fun k => (weighhouseref06_opened.f k cs m (i : Int)).bind fun t180 => (if 0 ≤ (i : Int) then (if ((rd_T31 cs (i : Int)).f0) = 48 then (weighhouseref06_Depth.l0 k cs m (mx (depthTo cs i) (wrap64 ((t180.length : Int) + 1))) (wrap64 ((i : Int) + 1))) else (if ((rd_T31 cs (i : Int)).f0) = 51 then (weighhouseref06_Depth.l0 k cs m (mx (depthTo cs i) (wrap64 ((t180.length : Int) + 1))) (wrap64 ((i : Int) + 1))) else (weighhouseref06_Depth.l0 k cs m (mx (depthTo cs i) (t180.length : Int)) (wrap64 ((i : Int) + 1))))) else (none))) (fun k => ?_) (Ev.bind (opened_ev hm hH hD i hi) ?_)
    · simp only [weighhouseref06_Depth.l0]
      rw [if_pos (by omega)]
    · refine Ev.congr (fun k => ?_) (ih (i + 1) (by omega) (by omega))
      rw [if_pos (by omega), rdI cs i hil, hw, htl, w64 (by omega) (by omega), hd]
      unfold deeper opens
      by_cases h48 : opc cs i = 48
      · rw [if_pos h48, h48]
        congr 1
        unfold mx
        simp
        split <;> omega
      · rw [if_neg h48]
        by_cases h51 : opc cs i = 51
        · rw [if_pos h51, h51]
          congr 1
          unfold mx
          simp
          split <;> omega
        · rw [if_neg h51]
          congr 1
          unfold mx
          simp [h48, h51]
          split <;> omega
def depthRes (cs : List Ins) : Int × Int := match scanAll cs with | none => (0, 31) | some _ => (depthTo cs cs.length, 0)
theorem ref_depth (cs : List Ins) (hm : cs.length ≤ 1048576) : Ev (fun k => weighhouseref06_Depth.f k cs) (depthRes cs) := by
  have hM := ref_match cs hm
  unfold depthRes
  cases h : scanAll cs with
  | none =>
    have e : matchRes cs = ([], 31) := by unfold matchRes; rw [h]
    rw [e] at hM
    refine Ev.congr (f := fun k => (weighhouseref06_Match.f k cs).bind fun bt176 => (if bt176.2 = 0 then (weighhouseref06_Depth.l0 k cs bt176.1 0 0) else (some (0, bt176.2)))) (fun k => rfl) (Ev.bind hM ?_)
    exact Ev.congr (f := fun _ => some (0, 31)) (fun k => if_neg (by decide)) (Ev.now _)
  | some m =>
    have e : matchRes cs = (m, 0) := by unfold matchRes; rw [h]
    rw [e] at hM
    refine Ev.congr (f := fun k => (weighhouseref06_Match.f k cs).bind fun bt176 => (if bt176.2 = 0 then (weighhouseref06_Depth.l0 k cs bt176.1 0 0) else (some (0, bt176.2)))) (fun k => rfl) (Ev.bind hM ?_)
    exact Ev.congr (f := fun k => weighhouseref06_Depth.l0 k cs m (depthTo cs 0) ((0 : Nat) : Int)) (fun k => if_pos rfl) (depth_l0 hm h cs.length 0 (by omega) (Nat.zero_le _))
def aroundRes (cs : List Ins) (a : Int) : List Int := match scanAll cs with | none => [] | some _ => aroundTo cs a cs.length
theorem ref_around (cs : List Ins) (a : Int) (hm : cs.length ≤ 1048576) : Ev (fun k => weighhouseref06_Around.f k cs a) (aroundRes cs a) := by
  have hM := ref_match cs hm
  unfold aroundRes
  cases h : scanAll cs with
  | none =>
    have e : matchRes cs = ([], 31) := by unfold matchRes; rw [h]
    rw [e] at hM
    refine Ev.congr (f := fun k => (weighhouseref06_Match.f k cs).bind fun bt185 => (if bt185.2 = 0 then (if a < 0 then (some ([] : List Int)) else (if a ≥ (cs.length : Int) then (some ([] : List Int)) else ((weighhouseref06_opened.f k cs bt185.1 a).bind fun t189 => (some t189)))) else (some ([] : List Int)))) (fun k => rfl) (Ev.bind hM ?_)
    exact Ev.congr (f := fun _ => some []) (fun k => if_neg (by decide)) (Ev.now _)
  | some m =>
    have e : matchRes cs = (m, 0) := by unfold matchRes; rw [h]
    rw [e] at hM
    refine Ev.congr (f := fun k => (weighhouseref06_Match.f k cs).bind fun bt185 => (if bt185.2 = 0 then (if a < 0 then (some ([] : List Int)) else (if a ≥ (cs.length : Int) then (some ([] : List Int)) else ((weighhouseref06_opened.f k cs bt185.1 a).bind fun t189 => (some t189)))) else (some ([] : List Int)))) (fun k => rfl) (Ev.bind hM ?_)
    show Ev _ (aroundTo cs a cs.length)
    unfold aroundTo
    by_cases h0 : a < 0
    · rw [if_neg (by omega)]
      exact Ev.congr (f := fun _ => some []) (fun k => by dsimp only; rw [if_pos rfl, if_pos h0]) (Ev.now _)
    · by_cases h1 : a ≥ (cs.length : Int)
      · rw [if_neg (by omega)]
        exact Ev.congr (f := fun _ => some []) (fun k => by dsimp only; rw [if_pos rfl, if_neg h0, if_pos h1]) (Ev.now _)
      · obtain ⟨n, rfl⟩ := Int.eq_ofNat_of_zero_le (by omega : 0 ≤ a)
        rw [if_pos (by omega), Int.toNat_natCast, (openOf_eq h (by omega)).1]
        exact Ev.congr (f := fun k => (weighhouseref06_opened.f k cs m (n : Int)).bind fun t189 => (some t189)) (fun k => by dsimp only; rw [if_pos rfl, if_neg h0, if_neg h1]) (Ev.bind (opened_ev hm (good_H1 h) (row_DI h) n (by omega)) (Ev.now _))
theorem match_f (cs : List Ins) (hm : cs.length ≤ 1048576) : shape_Match.f cs = some (matchRes cs) := by
  unfold matchRes
  cases h : scanAll cs with
  | none => exact match_none hm h
  | some m => exact match_some hm h
theorem depth_f (cs : List Ins) (hm : cs.length ≤ 1048576) : shape_Depth.f cs = some (depthRes cs) := by
  unfold shape_Depth.f
  rw [if_pos hm]
  rfl
theorem around_f (cs : List Ins) (a : Int) (hm : cs.length ≤ 1048576) : shape_Around.f cs a = some (aroundRes cs a) := by
  unfold shape_Around.f
  rw [if_pos hm]
  rfl
theorem match_len (cs : List Ins) : (matchRes cs).1.length ≤ cs.length := by
  unfold matchRes
  cases h : scanAll cs with
  | none => exact Nat.zero_le _
  | some m => exact Nat.le_of_eq (scanTo_ok (scanAll_inv h)).1
end Go.Proofs.Ytbdmbkmokhaflaa.Th
end

section
/- ShapeMatches: the pure statement, proved: where any instructions lead, and how deep they are -/
namespace Go.Proofs.Ytbdmbkmokhaflaa.PuShapeMatches
open Go.RowKit Go.Proofs.YtbdmbkmokhaflaaW.PrintWords Go.Proofs.YtbdmbkmokhaflaaW.Hb Go.Proofs.YtbdmbkmokhaflaaW.Ho Go.Proofs.Ytbdmbkmokhaflaa.Q Go.Proofs.Ytbdmbkmokhaflaa.OpShapeMatches Go.Proofs.Ytbdmbkmokhaflaa.Th

theorem l0_ok (cs : List Ins) (hm : cs.length ≤ 1048576) (m : List Int) (hl : m.length ≤ cs.length) (e d h : Int) (q : Nat) : ∀ i : Nat, cs.length - i = q → i ≤ cs.length → Ev (fun k => weighhouselaw06_ShapeMatches.l0 k cs cs m e m e d h d h (i : Int)) true := by
  induction q with
  | zero =>
    intro i hq hi
    refine Ev.step (f := fun k => (weighhouselaw03_Ints.f k m m).bind fun t279 => (if t279 = true then ((weighhouselaw06_num.f e).bind fun t280 => (if t280 = e then (if d = d then ((weighhouselaw06_num.f h).bind fun t281 => (if t281 = h then ((weighhouselaw06_knows.f k).bind fun t282 => (some t282)) else (some false))) else (some false)) else (some false))) else (some false))) (fun k => ?_) ?_
    · simp only [weighhouselaw06_ShapeMatches.l0]
      rw [if_neg (by omega)]
    · have hI := ints_ev m m (by omega)
      rw [decide_eq_true rfl] at hI
      refine Ev.bind hI ?_
      refine Ev.congr (f := fun k => (weighhouselaw06_knows.f k).bind fun t282 => (some t282)) (fun k => ?_) (Ev.bind knows_ev (Ev.now _))
      rw [if_pos rfl]
      show ((some e).bind fun t280 => _) = _
      rw [Option.bind_some, if_pos rfl, if_pos rfl]
      show ((some h).bind fun t281 => _) = _
      rw [Option.bind_some, if_pos rfl]
  | succ q ih =>
    intro i hq hi
    refine Ev.step (fun k => ?_) (ih (i + 1) (by omega) (by omega))
    simp only [weighhouselaw06_ShapeMatches.l0]
    rw [if_pos (by omega), if_pos (by omega), if_pos (by omega), if_neg (by simp), w64 (by omega) (by omega)]
    rfl
theorem pure : Pure := by
  intro x0 q0
  refine Ev.rounds (g := fun k => weighhouselaw06_ShapeMatches.f k x0) ?_
  by_cases hb : (x0.length : Int) > 600
  · refine Ev.congr (f := fun k => (weighhouselaw06_knows.f k).bind fun t261 => (some t261)) (fun k => ?_) (Ev.bind knows_ev (Ev.now _))
    unfold weighhouselaw06_ShapeMatches.f
    rw [if_pos hb]
  · have hm : x0.length ≤ 1048576 := by omega
    refine Ev.congr (f := fun k => (weighhouseref06_Match.f k x0).bind fun bt269 => ((weighhouseref06_Depth.f k x0).bind fun bt275 => (weighhouselaw06_ShapeMatches.l0 k x0 x0 (matchRes x0).1 (matchRes x0).2 bt269.1 bt269.2 (depthRes x0).1 (depthRes x0).2 bt275.1 bt275.2 0))) (fun k => ?_) ?_
    · unfold weighhouselaw06_ShapeMatches.f
      rw [if_neg hb, own_f x0 hm, Option.bind_some, match_f x0 hm, Option.bind_some]
      congr 1
      funext bt269
      rw [depth_f x0 hm, Option.bind_some]
    · refine Ev.bind (ref_match x0 hm) (Ev.bind (ref_depth x0 hm) ?_)
      exact l0_ok x0 hm _ (match_len x0) _ _ _ x0.length 0 (by omega) (Nat.zero_le _)
end Go.Proofs.Ytbdmbkmokhaflaa.PuShapeMatches
end
