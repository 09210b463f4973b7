/- texts of one claim, merged: each in a section of its own -/
import Derived.Test.YtblaibigjhlblaaGreatDoorMValueBackCard3
import Derived.Test.YtblaibigjhlblaaGreatDoorMValueBackCard5
import Derived.Test.YtblaibigjhlblaaGreatDoorMValueBackCard4
import Derived.Lib.SplitLaws
import Derived.Lib.Replace
section
-- written by hprint.py (a program of these sessions) out of the translation; Lean checks it
namespace Go.Proofs.YtblaibigjhlblaaGreatDoor.Q
open Go.RowKit Go.Proofs.YtblaibigjhlblaaGreatDoorW.Hb Go.Proofs.YtblaibigjhlblaaGreatDoorW.PrintWords Go.Proofs.YtblaibigjhlblaaGreatDoorW.PrintLast Go.Proofs.YtblaibigjhlblaaGreatDoorW.PrintMore
attribute [local go_sem] max2_int min2_int max_two min_two max_three min_three max_four min_four   -- for this text's walks alone
set_option linter.unusedVariables false
set_option linter.unusedSimpArgs false

/-! ### weighhouseref02_BytesOf: function 24 -/
def weighhouseref02_BytesOf.l0 : Nat → List (S47) → List Int → Int → Option (List Int)
  | 0, _, _, _ => none
  | k + 1, x0, x3, x4 => if x4 < (x0.length : Int) then (if 0 ≤ x4 then (if x3.length < 140737488355328 then ((some (x3 ++ [((rd_T47 x0 x4).f0) % 256] : List Int)).bind fun y156 => (if ((rd_T47 x0 x4).f0) = 1 then ((weighhouseref01_Number.f k ((rd_T47 x0 x4).f1)).bind fun t161 => (if y156.length + t161.length < 140737488355328 then (weighhouseref02_BytesOf.l0 k x0 (y156 ++ t161) (wrap64 (x4 + 1))) else (none))) else (if ((rd_T47 x0 x4).f0) = 2 then ((weighhouseref01_Text.f ((rd_T47 x0 x4).f2)).bind fun t168 => (if y156.length + t168.length < 140737488355328 then (weighhouseref02_BytesOf.l0 k x0 (y156 ++ t168) (wrap64 (x4 + 1))) else (none))) else (if ((rd_T47 x0 x4).f0) = 3 then (if y156.length < 140737488355328 then (weighhouseref02_BytesOf.l0 k x0 (y156 ++ [((rd_T47 x0 x4).f1) % 256]) (wrap64 (x4 + 1))) else (none)) else (weighhouseref02_BytesOf.l0 k x0 y156 (wrap64 (x4 + 1))))))) else (none)) else (none)) else (some x3)
def weighhouseref02_BytesOf.f (k : Nat) (l0 : List (S47)) : Option (List Int) := weighhouseref02_BytesOf.l0 k l0 (([((l0.length : Int)) % 256] : List Int)) 0
theorem weighhouseref02_BytesOf.mono_l : ∀ k, (∀ y0 y1 y2, LeO (weighhouseref02_BytesOf.l0 k y0 y1 y2) (weighhouseref02_BytesOf.l0 (k + 1) y0 y1 y2))
  | 0 => fun _ _ _ r h => by simp [weighhouseref02_BytesOf.l0] at h
  | k + 1 => by
    have ih0 := weighhouseref02_BytesOf.mono_l k
    · intro y0 y1 y2
      unfold weighhouseref02_BytesOf.l0
      repeat' first
      | (with_reducible exact ih0 _ _ _)
      | (with_reducible exact weighhouseref01_Number.mono _ _)
      | (with_reducible exact LeO.refl _)
      | (with_reducible exact LeO.none _)
      | (with_reducible refine LeO.ite ?_ ?_)
      | (with_reducible refine LeO.bind ?_ (fun _ => ?_))
      | exact ih0 _ _ _
      | exact weighhouseref01_Number.mono _ _
      | exact LeO.none _
      | refine LeO.ite ?_ ?_
      | refine LeO.bind ?_ (fun _ => ?_)
theorem weighhouseref02_BytesOf.mono : ∀ a0 k, LeO (weighhouseref02_BytesOf.f k a0) (weighhouseref02_BytesOf.f (k + 1) a0) := by
  intro a0 k
  have ih0 := weighhouseref02_BytesOf.mono_l k
  unfold weighhouseref02_BytesOf.f
  repeat' first
      | (with_reducible exact ih0 _ _ _)
      | (with_reducible exact weighhouseref01_Number.mono _ _)
      | (with_reducible exact LeO.refl _)
      | (with_reducible exact LeO.none _)
      | (with_reducible refine LeO.ite ?_ ?_)
      | (with_reducible refine LeO.bind ?_ (fun _ => ?_))
      | exact ih0 _ _ _
      | exact weighhouseref01_Number.mono _ _
      | exact LeO.none _
      | refine LeO.ite ?_ ?_
      | refine LeO.bind ?_ (fun _ => ?_)
set_option maxHeartbeats 8000000 in
set_option maxRecDepth 100000 in
theorem weighhouseref02_BytesOf.calls (k : Nat) (A0 : Option Addr) (c0 : Nat) (l0 : List (S47)) (r : List Int) (w : World) (hr0 : Kd.C k47 w A0 l0.length l0) (hc0 : l0.length ≤ c0) (h : weighhouseref02_BytesOf.f k l0 = some r) :
    Calls Tryz.prog 24 #[.slice A0 l0.length c0] w fun e w' => ∃ v0_ : Value, e = .returned (v0_) ∧ Kd.R (Kd.int .u8) 5 w' w.heap.size (fun _ => True) v0_ r ∧ Below w.heap.size w w' := by
  have HR0 := Aside0.mk hr0
  have HC0 := Aside0.mk hc0
  clear hr0 hc0
  have HB := Aside0.mk (Below.refl w.heap.size w)
  have H : (weighhouseref02_BytesOf.l0 k l0 (([((l0.length : Int)) % 256] : List Int)) 0) = some r := h
  clear h
  obtain ⟨y152, hy152⟩ : ∃ y_ : List Int, y_ = (([((l0.length : Int)) % 256] : List Int)) := ⟨_, rfl⟩
  replace H : (weighhouseref02_BytesOf.l0 k l0 y152 0) = some r := by first | (rw [hy152]; with_reducible exact H) | (have H2_ := (Option.bind_some _ _).symm.trans H; rw [hy152]; with_reducible exact H2_) | (have H2_ := (Option.bind_some _ _).symm.trans H; with_reducible exact H2_) | with_reducible exact H | (rw [hy152]; exact H) | exact H
  have Ny152 := Aside0.mk hy152
  clear hy152
  have H' := Aside0.mk H
  clear H
  go_enter Tryz.func24, Tryz.ntmps24
  go_wp2_with (first | ((with_reducible refine gate_dst (N := 8) rfl ?_); refine Kd.R_lit (Kd.int .u8) _ 5 ?hg (N := 8) ?hd (xs := ([((l0.length : Int)) % 256] : List Int)) (inner := [.int .u8 (((l0.length : Int)) % 256)]) (ok := fun _ => True) (okp := fun _ => True) ?hr ?hp (fun _ hk => hk) trivial (Below.refl _ _) (Nat.le_refl _) (by simp) ?_; (case hd => rfl); (case hg => rfl); (case hr => first | (go_simp; done) | (go_simp; rfl)); (case hp => exact (Reps.one (show Kd.M (Kd.int .u8) _ _ _ (((l0.length : Int)) % 256) [.int .u8 (((l0.length : Int)) % 256)] from rfl) (Reps.none _ _))); intro v153 w2 ho3 hb hg_ hnew_; clear hg_ hnew_; (first | rw [← Ny152.out] at ho3 | (simp only [Int.reduceToNat] at ho3; rw [← Ny152.out] at ho3)); have n0_ := Aside0.mk (Kd.R_lower ho3 (below_size (by repeat (first | (with_reducible first | exact HB.out | apply below_alloc | apply pw_below_drewN | apply below_drew1) | exact HB.out)))); have n1_ := Aside0.mk (below_step (by repeat (first | (with_reducible first | exact HB.out | apply below_alloc | apply pw_below_drewN | apply below_drew1) | exact HB.out)) hb); clear HB; have HO154 := n0_; have HB := n1_; clear n0_ n1_; clear hb ho3))
  go_loopg [3, 4] k (fun kq v3 v4 w' => ∃ (x3_1 : List Int) (x4_1 : Int), v4 = .int .i64 x4_1 ∧ Aside0 (weighhouseref02_BytesOf.l0 kq l0 x3_1 x4_1 = some r) ∧ Aside0 (kq ≤ k) ∧ Aside0 (Kd.R (Kd.int .u8) 5 w' w.heap.size (fun _ => True) v3 x3_1) ∧ Aside0 (Below w.heap.size w w'))
  case atStart => exact ⟨(y152), (0), (by first | rfl | (simp; done) | (simp [*]; done)), H', ⟨Nat.le_refl _⟩, ⟨by (with_reducible repeat (first | apply Kd.R_alloc | apply Kd.R_drewN | apply Kd.R_drew)); exact HO154.out⟩, ⟨by repeat (first | (with_reducible first | exact HB.out | apply below_alloc | apply pw_below_drewN | apply below_drew1) | exact HB.out)⟩⟩
  case round =>
    clear H'
    try clear c2
    try clear p2
    obtain ⟨x3_1, x4_1, rfl, HA, HK1, HO_3, HB⟩ := hrel
    cases gk with
    | zero => exact absurd HA.out (by simp [weighhouseref02_BytesOf.l0])
    | succ k1 =>
      have H := HA.out
      clear HA
      simp only [weighhouseref02_BytesOf.l0] at H
      by_cases c4 : x4_1 < (l0.length : Int)
      · rw [if_pos c4] at H
        have c4b0 : decide (x4_1 < (l0.length : Int)) = true := decide_eq_true c4
        clear c4
        by_cases c5 : 0 ≤ x4_1
        · rw [if_pos c5] at H
          have c5b0 : decide (0 ≤ x4_1) = true := decide_eq_true c5
          clear c5
          by_cases c6 : x3_1.length < 140737488355328
          · rw [if_pos c6] at H
            have LMc6 := Aside0.mk c6
            clear c6
            obtain ⟨y156, hy156⟩ : ∃ y_ : List Int, y_ = (x3_1 ++ [((rd_T47 l0 x4_1).f0) % 256]) := ⟨_, rfl⟩
            replace H : (if ((rd_T47 l0 x4_1).f0) = 1 then ((weighhouseref01_Number.f k1 ((rd_T47 l0 x4_1).f1)).bind fun t161 => (if y156.length + t161.length < 140737488355328 then (weighhouseref02_BytesOf.l0 k1 l0 (y156 ++ t161) (wrap64 (x4_1 + 1))) else (none))) else (if ((rd_T47 l0 x4_1).f0) = 2 then ((weighhouseref01_Text.f ((rd_T47 l0 x4_1).f2)).bind fun t168 => (if y156.length + t168.length < 140737488355328 then (weighhouseref02_BytesOf.l0 k1 l0 (y156 ++ t168) (wrap64 (x4_1 + 1))) else (none))) else (if ((rd_T47 l0 x4_1).f0) = 3 then (if y156.length < 140737488355328 then (weighhouseref02_BytesOf.l0 k1 l0 (y156 ++ [((rd_T47 l0 x4_1).f1) % 256]) (wrap64 (x4_1 + 1))) else (none)) else (weighhouseref02_BytesOf.l0 k1 l0 y156 (wrap64 (x4_1 + 1)))))) = some r := by first | (rw [hy156]; with_reducible exact H) | (have H2_ := (Option.bind_some _ _).symm.trans H; rw [hy156]; with_reducible exact H2_) | (have H2_ := (Option.bind_some _ _).symm.trans H; with_reducible exact H2_) | with_reducible exact H | (rw [hy156]; exact H) | exact H
            have Ny156 := Aside0.mk hy156
            clear hy156
            by_cases c7 : ((rd_T47 l0 x4_1).f0) = 1
            · rw [if_pos c7] at H
              have c7b0 : (((rd_T47 l0 x4_1).f0) == 1) = true := beq_iff_eq.mpr c7
              have c7b1 : (((rd_T47 l0 x4_1).f0) != 1) = false := bne_eq_false_iff_eq.mpr c7
              clear c7
              replace H := Option.bind_eq_some_iff.mp H
              obtain ⟨t161, A80, H⟩ := H
              replace H : (if y156.length + t161.length < 140737488355328 then (weighhouseref02_BytesOf.l0 k1 l0 (y156 ++ t161) (wrap64 (x4_1 + 1))) else (none)) = some r := H
              have A8 := Aside0.mk A80
              clear A80
              by_cases c9 : y156.length + t161.length < 140737488355328
              · rw [if_pos c9] at H
                have LMc9 := Aside0.mk c9
                clear c9
                obtain ⟨y164, hy164⟩ : ∃ y_ : List Int, y_ = (y156 ++ t161) := ⟨_, rfl⟩
                replace H : (weighhouseref02_BytesOf.l0 k1 l0 y164 (wrap64 (x4_1 + 1))) = some r := by first | (rw [hy164]; with_reducible exact H) | (have H2_ := (Option.bind_some _ _).symm.trans H; rw [hy164]; with_reducible exact H2_) | (have H2_ := (Option.bind_some _ _).symm.trans H; with_reducible exact H2_) | with_reducible exact H | (rw [hy164]; exact H) | exact H
                have Ny164 := Aside0.mk hy164
                clear hy164
                have H' := Aside0.mk H
                clear H
                have p155 : 0 ≤ (x4_1 : Int) := of_decide_eq_true (by first | (with_reducible assumption) | assumption)
                have q155 : x4_1 < (l0.length : Int) := of_decide_eq_true (by first | (with_reducible assumption) | assumption)
                obtain ⟨ad155, e155, hx155_0, hx155_1, hx155_2⟩ := at_T47 HR0.out x4_1 p155 q155
                cases e155
                replace hx155_0 := (HB.out.cell (World.block_lt_of_cell? w _ hx155_0)).trans hx155_0
                replace hx155_1 := (HB.out.cell (World.block_lt_of_cell? w _ hx155_1)).trans hx155_1
                replace hx155_2 := (HB.out.cell (World.block_lt_of_cell? w _ hx155_2)).trans hx155_2
                replace p155 := eq_true p155
                replace q155 := eq_true q155
                go_wp2_with (first | ((with_reducible refine gate_builtin (b := .append) (xs := #[.tmp 15, .tmp 22]) rfl ?_); at_builtin; refine Kd.R_append (Kd.int .u8) (w0 := w) w.heap.size rfl (.tmp 15) (.tmp 22) 23 5 (.int .u8 0) 1 rfl Tryz.underlying23 info5 rfl (by decide) (by omega) u3 x3_1 (((rd_T47 l0 x4_1).f0) % 256) [.int .u8 (((rd_T47 l0 x4_1).f0) % 256)] (fun _ => True) (fun _ => False) rfl rfl ?aP (fun _ hk => hk.elim) ?aF ?aO ?aB ?aS ?aL ?_; (case aP => exact rfl); (case aB => exact (by repeat (first | (with_reducible first | exact HB.out | apply below_alloc | apply pw_below_drewN | apply below_drew1) | exact HB.out))); (case aF => exact (fun _ _ => trivial)); (case aO => exact (by (with_reducible repeat (first | apply Kd.R_alloc | apply Kd.R_drewN | apply Kd.R_drew)); exact HO_3.out)); (case aS => exact (below_size (by repeat (first | (with_reducible first | exact HB.out | apply below_alloc | apply pw_below_drewN | apply below_drew1) | exact HB.out)))); (case aL => have := LMc6.out; omega); intro v157 w10 ho hb hg hat; rw [← Ny156.out] at ho; have n0_ := Aside0.mk (hb); have n1_ := Aside0.mk (ho); clear HB; clear HO_3; have HB := n0_; have HO158 := n1_; clear n0_ n1_; clear ho hb hg hat; have p159 : 0 ≤ (x4_1 : Int) := of_decide_eq_true (by first | (with_reducible assumption) | assumption); have q159 : x4_1 < (l0.length : Int) := of_decide_eq_true (by first | (with_reducible assumption) | assumption); obtain ⟨ad159, e159, hx159_0, hx159_1, hx159_2⟩ := at_T47 HR0.out x4_1 p159 q159; obtain rfl : ad155 = ad159 := (by injection e159); replace hx159_0 := (HB.out.cell (World.block_lt_of_cell? w _ hx159_0)).trans hx159_0; replace hx159_1 := (HB.out.cell (World.block_lt_of_cell? w _ hx159_1)).trans hx159_1; replace hx159_2 := (HB.out.cell (World.block_lt_of_cell? w _ hx159_2)).trans hx159_2; replace p159 := eq_true p159; replace q159 := eq_true q159; have p160 : 0 ≤ (x4_1 : Int) := of_decide_eq_true (by first | (with_reducible assumption) | assumption); have q160 : x4_1 < (l0.length : Int) := of_decide_eq_true (by first | (with_reducible assumption) | assumption); obtain ⟨ad160, e160, hx160_0, hx160_1, hx160_2⟩ := at_T47 HR0.out x4_1 p160 q160; obtain rfl : ad155 = ad160 := (by injection e160); replace hx160_0 := (HB.out.cell (World.block_lt_of_cell? w _ hx160_0)).trans hx160_0; replace hx160_1 := (HB.out.cell (World.block_lt_of_cell? w _ hx160_1)).trans hx160_1; replace hx160_2 := (HB.out.cell (World.block_lt_of_cell? w _ hx160_2)).trans hx160_2; replace p160 := eq_true p160; replace q160 := eq_true q160) | ((with_reducible refine gate_callee (f := 47) rfl ?_); refine goesL_ (some 37) rfl rfl Tryz.func47 (by kernel_rfl) rfl #[.int .i64 ((rd_T47 l0 x4_1).f1)] rfl (by (try simp only [List.map_toArray, List.map_cons, List.map_nil]); first | done | rfl | (simp only [List.length_drop, List.length_take]; rfl)) ?_; (with_reducible refine (weighhouseref01_Number.calls k1 ((rd_T47 l0 x4_1).f1) t161 _ A8.out).mono ?_); rintro e w11 ⟨v162, rfl, ho0, hb⟩; refine ⟨_, rfl, ?_⟩; have n0_ := Aside0.mk (Kd.R_elder' (by (with_reducible repeat (first | apply Kd.R_alloc | apply Kd.R_drewN | apply Kd.R_drew)); exact HO158.out) (Kd.R_base ho0) hb); have n1_ := Aside0.mk (Kd.R_lower (Kd.R_new' ho0 (Kd.R_lt (by (with_reducible repeat (first | apply Kd.R_alloc | apply Kd.R_drewN | apply Kd.R_drew)); exact HO158.out))) (below_size (by repeat (first | (with_reducible first | exact HB.out | apply below_alloc | apply pw_below_drewN | apply below_drew1) | exact HB.out)))); have n2_ := Aside0.mk (below_step (by repeat (first | (with_reducible first | exact HB.out | apply below_alloc | apply pw_below_drewN | apply below_drew1) | exact HB.out)) hb); clear HO158; clear HB; have HO158 := n0_; have HO163 := n1_; have HB := n2_; clear n0_ n1_ n2_; (try clear hb); (try clear hb2); (try clear hk); (try clear hi); (try clear ho0); obtain ⟨Ao13, co13, eo13⟩ := Kd.R_slice HO163.out; subst eo13) | ((with_reducible refine gate_builtin (b := .append) (xs := #[.tmp 31, .tmp 37]) rfl ?_); at_builtin; refine Kd.R_append_rows (Kd.int .u8) (w0 := w) w.heap.size rfl (.tmp 31) (.tmp 37) 23 5 (.int .u8 0) 1 rfl Tryz.underlying23 info5 rfl (by decide) (by omega) v157 y156 t161 _ _ _ (fun k_ => some k_ ≠ (.slice Ao13 t161.length co13 : Value).ownBlock) (fun _ => False) rfl rfl ?aO ?aR (fun _ _ h => h) (fun _ h => h.elim) ?aF ?aB ?aS ?aL ?_; (case aR => repeat (first | exact (Kd.R_reads' HO163.out).2.2 | (with_reducible refine Kd.C_alloc ?_ _) | (with_reducible refine Kd.C_drewN ?_ _) | (with_reducible refine Kd.C_drew ?_))); (case aB => exact (by repeat (first | (with_reducible first | exact HB.out | apply below_alloc | apply pw_below_drewN | apply below_drew1) | exact HB.out))); (case aF => exact (fun k_ hk => Kd.fresh' (Kd.R_lt (by (with_reducible repeat (first | apply Kd.R_alloc | apply Kd.R_drewN | apply Kd.R_drew)); exact HO163.out)) k_ hk)); (case aO => exact (by (with_reducible repeat (first | apply Kd.R_alloc | apply Kd.R_drewN | apply Kd.R_drew)); exact Kd.R_mono HO158.out (fun _ hk => hk.2))); (case aS => exact (below_size (by repeat (first | (with_reducible first | exact HB.out | apply below_alloc | apply pw_below_drewN | apply below_drew1) | exact HB.out)))); (case aL => have := LMc9.out; omega); intro v165 w12 ho hb hg hat; rw [← Ny164.out] at ho; have n0_ := Aside0.mk (Kd.R_after (ok := (fun _ => True)) (by (with_reducible repeat (first | apply Kd.R_alloc | apply Kd.R_drewN | apply Kd.R_drew)); exact HO163.out) hg hat); have n1_ := Aside0.mk (hb); have n2_ := Aside0.mk (ho); clear HO163; clear HB; clear HO158; have HO163 := n0_; have HB := n1_; have HO166 := n2_; clear n0_ n1_ n2_; clear ho hb hg hat))
                go_roundg k1
                case measure => have := HK1.out; omega
                case rel => exact ⟨(y164), (wrap64 (x4_1 + 1)), (by first | rfl | (simp; done) | (simp [*]; done)), H', ⟨by have := HK1.out; omega⟩, ⟨by (with_reducible repeat (first | apply Kd.R_alloc | apply Kd.R_drewN | apply Kd.R_drew)); exact Kd.R_mono HO166.out (fun _ hk => trivial)⟩, ⟨by repeat (first | (with_reducible first | exact HB.out | apply below_alloc | apply pw_below_drewN | apply below_drew1) | exact HB.out)⟩⟩
              · rw [if_neg c9] at H
                exact absurd H (by simp)
            · rw [if_neg c7] at H
              have c7b0 : (((rd_T47 l0 x4_1).f0) == 1) = false := beq_eq_false_iff_ne.mpr c7
              have c7b1 : (((rd_T47 l0 x4_1).f0) != 1) = true := bne_iff_ne.mpr c7
              by_cases c14 : ((rd_T47 l0 x4_1).f0) = 2
              · rw [if_pos c14] at H
                have c14b0 : (((rd_T47 l0 x4_1).f0) == 2) = true := beq_iff_eq.mpr c14
                have c14b1 : (((rd_T47 l0 x4_1).f0) != 2) = false := bne_eq_false_iff_eq.mpr c14
                clear c14
                replace H := Option.bind_eq_some_iff.mp H
                obtain ⟨t168, A150, H⟩ := H
                replace H : (if y156.length + t168.length < 140737488355328 then (weighhouseref02_BytesOf.l0 k1 l0 (y156 ++ t168) (wrap64 (x4_1 + 1))) else (none)) = some r := H
                have A15 := Aside0.mk A150
                clear A150
                by_cases c16 : y156.length + t168.length < 140737488355328
                · rw [if_pos c16] at H
                  have LMc16 := Aside0.mk c16
                  clear c16
                  obtain ⟨y171, hy171⟩ : ∃ y_ : List Int, y_ = (y156 ++ t168) := ⟨_, rfl⟩
                  replace H : (weighhouseref02_BytesOf.l0 k1 l0 y171 (wrap64 (x4_1 + 1))) = some r := by first | (rw [hy171]; with_reducible exact H) | (have H2_ := (Option.bind_some _ _).symm.trans H; rw [hy171]; with_reducible exact H2_) | (have H2_ := (Option.bind_some _ _).symm.trans H; with_reducible exact H2_) | with_reducible exact H | (rw [hy171]; exact H) | exact H
                  have Ny171 := Aside0.mk hy171
                  clear hy171
                  have H' := Aside0.mk H
                  clear H
                  have p155 : 0 ≤ (x4_1 : Int) := of_decide_eq_true (by first | (with_reducible assumption) | assumption)
                  have q155 : x4_1 < (l0.length : Int) := of_decide_eq_true (by first | (with_reducible assumption) | assumption)
                  obtain ⟨ad155, e155, hx155_0, hx155_1, hx155_2⟩ := at_T47 HR0.out x4_1 p155 q155
                  cases e155
                  replace hx155_0 := (HB.out.cell (World.block_lt_of_cell? w _ hx155_0)).trans hx155_0
                  replace hx155_1 := (HB.out.cell (World.block_lt_of_cell? w _ hx155_1)).trans hx155_1
                  replace hx155_2 := (HB.out.cell (World.block_lt_of_cell? w _ hx155_2)).trans hx155_2
                  replace p155 := eq_true p155
                  replace q155 := eq_true q155
                  go_wp2_with (first | ((with_reducible refine gate_builtin (b := .append) (xs := #[.tmp 15, .tmp 22]) rfl ?_); at_builtin; refine Kd.R_append (Kd.int .u8) (w0 := w) w.heap.size rfl (.tmp 15) (.tmp 22) 23 5 (.int .u8 0) 1 rfl Tryz.underlying23 info5 rfl (by decide) (by omega) u3 x3_1 (((rd_T47 l0 x4_1).f0) % 256) [.int .u8 (((rd_T47 l0 x4_1).f0) % 256)] (fun _ => True) (fun _ => False) rfl rfl ?aP (fun _ hk => hk.elim) ?aF ?aO ?aB ?aS ?aL ?_; (case aP => exact rfl); (case aB => exact (by repeat (first | (with_reducible first | exact HB.out | apply below_alloc | apply pw_below_drewN | apply below_drew1) | exact HB.out))); (case aF => exact (fun _ _ => trivial)); (case aO => exact (by (with_reducible repeat (first | apply Kd.R_alloc | apply Kd.R_drewN | apply Kd.R_drew)); exact HO_3.out)); (case aS => exact (below_size (by repeat (first | (with_reducible first | exact HB.out | apply below_alloc | apply pw_below_drewN | apply below_drew1) | exact HB.out)))); (case aL => have := LMc6.out; omega); intro v157 w17 ho hb hg hat; rw [← Ny156.out] at ho; have n0_ := Aside0.mk (hb); have n1_ := Aside0.mk (ho); clear HB; clear HO_3; have HB := n0_; have HO158 := n1_; clear n0_ n1_; clear ho hb hg hat; have p159 : 0 ≤ (x4_1 : Int) := of_decide_eq_true (by first | (with_reducible assumption) | assumption); have q159 : x4_1 < (l0.length : Int) := of_decide_eq_true (by first | (with_reducible assumption) | assumption); obtain ⟨ad159, e159, hx159_0, hx159_1, hx159_2⟩ := at_T47 HR0.out x4_1 p159 q159; obtain rfl : ad155 = ad159 := (by injection e159); replace hx159_0 := (HB.out.cell (World.block_lt_of_cell? w _ hx159_0)).trans hx159_0; replace hx159_1 := (HB.out.cell (World.block_lt_of_cell? w _ hx159_1)).trans hx159_1; replace hx159_2 := (HB.out.cell (World.block_lt_of_cell? w _ hx159_2)).trans hx159_2; replace p159 := eq_true p159; replace q159 := eq_true q159; have p167 : 0 ≤ (x4_1 : Int) := of_decide_eq_true (by first | (with_reducible assumption) | assumption); have q167 : x4_1 < (l0.length : Int) := of_decide_eq_true (by first | (with_reducible assumption) | assumption); obtain ⟨ad167, e167, hx167_0, hx167_1, hx167_2⟩ := at_T47 HR0.out x4_1 p167 q167; obtain rfl : ad155 = ad167 := (by injection e167); replace hx167_0 := (HB.out.cell (World.block_lt_of_cell? w _ hx167_0)).trans hx167_0; replace hx167_1 := (HB.out.cell (World.block_lt_of_cell? w _ hx167_1)).trans hx167_1; replace hx167_2 := (HB.out.cell (World.block_lt_of_cell? w _ hx167_2)).trans hx167_2; replace p167 := eq_true p167; replace q167 := eq_true q167) | ((with_reducible refine gate_callee (f := 48) rfl ?_); refine goesL_ (some 47) rfl rfl Tryz.func48 (by kernel_rfl) rfl #[.string ((rd_T47 l0 x4_1).f2)] rfl (by (try simp only [List.map_toArray, List.map_cons, List.map_nil]); first | done | rfl | (simp only [List.length_drop, List.length_take]; rfl)) ?_; (with_reducible refine (weighhouseref01_Text.calls ((rd_T47 l0 x4_1).f2) t168 _ A15.out).mono ?_); rintro e w18 ⟨v169, rfl, ho0, hb⟩; refine ⟨_, rfl, ?_⟩; have n0_ := Aside0.mk (Kd.R_elder' (by (with_reducible repeat (first | apply Kd.R_alloc | apply Kd.R_drewN | apply Kd.R_drew)); exact HO158.out) (Kd.R_base ho0) hb); have n1_ := Aside0.mk (Kd.R_lower (Kd.R_new' ho0 (Kd.R_lt (by (with_reducible repeat (first | apply Kd.R_alloc | apply Kd.R_drewN | apply Kd.R_drew)); exact HO158.out))) (below_size (by repeat (first | (with_reducible first | exact HB.out | apply below_alloc | apply pw_below_drewN | apply below_drew1) | exact HB.out)))); have n2_ := Aside0.mk (below_step (by repeat (first | (with_reducible first | exact HB.out | apply below_alloc | apply pw_below_drewN | apply below_drew1) | exact HB.out)) hb); clear HO158; clear HB; have HO158 := n0_; have HO170 := n1_; have HB := n2_; clear n0_ n1_ n2_; (try clear hb); (try clear hb2); (try clear hk); (try clear hi); (try clear ho0); obtain ⟨Ao20, co20, eo20⟩ := Kd.R_slice HO170.out; subst eo20) | ((with_reducible refine gate_builtin (b := .append) (xs := #[.tmp 41, .tmp 47]) rfl ?_); at_builtin; refine Kd.R_append_rows (Kd.int .u8) (w0 := w) w.heap.size rfl (.tmp 41) (.tmp 47) 23 5 (.int .u8 0) 1 rfl Tryz.underlying23 info5 rfl (by decide) (by omega) v157 y156 t168 _ _ _ (fun k_ => some k_ ≠ (.slice Ao20 t168.length co20 : Value).ownBlock) (fun _ => False) rfl rfl ?aO ?aR (fun _ _ h => h) (fun _ h => h.elim) ?aF ?aB ?aS ?aL ?_; (case aR => repeat (first | exact (Kd.R_reads' HO170.out).2.2 | (with_reducible refine Kd.C_alloc ?_ _) | (with_reducible refine Kd.C_drewN ?_ _) | (with_reducible refine Kd.C_drew ?_))); (case aB => exact (by repeat (first | (with_reducible first | exact HB.out | apply below_alloc | apply pw_below_drewN | apply below_drew1) | exact HB.out))); (case aF => exact (fun k_ hk => Kd.fresh' (Kd.R_lt (by (with_reducible repeat (first | apply Kd.R_alloc | apply Kd.R_drewN | apply Kd.R_drew)); exact HO170.out)) k_ hk)); (case aO => exact (by (with_reducible repeat (first | apply Kd.R_alloc | apply Kd.R_drewN | apply Kd.R_drew)); exact Kd.R_mono HO158.out (fun _ hk => hk.2))); (case aS => exact (below_size (by repeat (first | (with_reducible first | exact HB.out | apply below_alloc | apply pw_below_drewN | apply below_drew1) | exact HB.out)))); (case aL => have := LMc16.out; omega); intro v172 w19 ho hb hg hat; rw [← Ny171.out] at ho; have n0_ := Aside0.mk (Kd.R_after (ok := (fun _ => True)) (by (with_reducible repeat (first | apply Kd.R_alloc | apply Kd.R_drewN | apply Kd.R_drew)); exact HO170.out) hg hat); have n1_ := Aside0.mk (hb); have n2_ := Aside0.mk (ho); clear HO170; clear HB; clear HO158; have HO170 := n0_; have HB := n1_; have HO173 := n2_; clear n0_ n1_ n2_; clear ho hb hg hat))
                  go_roundg k1
                  case measure => have := HK1.out; omega
                  case rel => exact ⟨(y171), (wrap64 (x4_1 + 1)), (by first | rfl | (simp; done) | (simp [*]; done)), H', ⟨by have := HK1.out; omega⟩, ⟨by (with_reducible repeat (first | apply Kd.R_alloc | apply Kd.R_drewN | apply Kd.R_drew)); exact Kd.R_mono HO173.out (fun _ hk => trivial)⟩, ⟨by repeat (first | (with_reducible first | exact HB.out | apply below_alloc | apply pw_below_drewN | apply below_drew1) | exact HB.out)⟩⟩
                · rw [if_neg c16] at H
                  exact absurd H (by simp)
              · rw [if_neg c14] at H
                have c14b0 : (((rd_T47 l0 x4_1).f0) == 2) = false := beq_eq_false_iff_ne.mpr c14
                have c14b1 : (((rd_T47 l0 x4_1).f0) != 2) = true := bne_iff_ne.mpr c14
                by_cases c21 : ((rd_T47 l0 x4_1).f0) = 3
                · rw [if_pos c21] at H
                  have c21b0 : (((rd_T47 l0 x4_1).f0) == 3) = true := beq_iff_eq.mpr c21
                  have c21b1 : (((rd_T47 l0 x4_1).f0) != 3) = false := bne_eq_false_iff_eq.mpr c21
                  clear c21
                  by_cases c22 : y156.length < 140737488355328
                  · rw [if_pos c22] at H
                    have LMc22 := Aside0.mk c22
                    clear c22
                    obtain ⟨y175, hy175⟩ : ∃ y_ : List Int, y_ = (y156 ++ [((rd_T47 l0 x4_1).f1) % 256]) := ⟨_, rfl⟩
                    replace H : (weighhouseref02_BytesOf.l0 k1 l0 y175 (wrap64 (x4_1 + 1))) = some r := by first | (rw [hy175]; with_reducible exact H) | (have H2_ := (Option.bind_some _ _).symm.trans H; rw [hy175]; with_reducible exact H2_) | (have H2_ := (Option.bind_some _ _).symm.trans H; with_reducible exact H2_) | with_reducible exact H | (rw [hy175]; exact H) | exact H
                    have Ny175 := Aside0.mk hy175
                    clear hy175
                    have H' := Aside0.mk H
                    clear H
                    have p155 : 0 ≤ (x4_1 : Int) := of_decide_eq_true (by first | (with_reducible assumption) | assumption)
                    have q155 : x4_1 < (l0.length : Int) := of_decide_eq_true (by first | (with_reducible assumption) | assumption)
                    obtain ⟨ad155, e155, hx155_0, hx155_1, hx155_2⟩ := at_T47 HR0.out x4_1 p155 q155
                    cases e155
                    replace hx155_0 := (HB.out.cell (World.block_lt_of_cell? w _ hx155_0)).trans hx155_0
                    replace hx155_1 := (HB.out.cell (World.block_lt_of_cell? w _ hx155_1)).trans hx155_1
                    replace hx155_2 := (HB.out.cell (World.block_lt_of_cell? w _ hx155_2)).trans hx155_2
                    replace p155 := eq_true p155
                    replace q155 := eq_true q155
                    go_wp2_with (first | ((with_reducible refine gate_builtin (b := .append) (xs := #[.tmp 15, .tmp 22]) rfl ?_); at_builtin; refine Kd.R_append (Kd.int .u8) (w0 := w) w.heap.size rfl (.tmp 15) (.tmp 22) 23 5 (.int .u8 0) 1 rfl Tryz.underlying23 info5 rfl (by decide) (by omega) u3 x3_1 (((rd_T47 l0 x4_1).f0) % 256) [.int .u8 (((rd_T47 l0 x4_1).f0) % 256)] (fun _ => True) (fun _ => False) rfl rfl ?aP (fun _ hk => hk.elim) ?aF ?aO ?aB ?aS ?aL ?_; (case aP => exact rfl); (case aB => exact (by repeat (first | (with_reducible first | exact HB.out | apply below_alloc | apply pw_below_drewN | apply below_drew1) | exact HB.out))); (case aF => exact (fun _ _ => trivial)); (case aO => exact (by (with_reducible repeat (first | apply Kd.R_alloc | apply Kd.R_drewN | apply Kd.R_drew)); exact HO_3.out)); (case aS => exact (below_size (by repeat (first | (with_reducible first | exact HB.out | apply below_alloc | apply pw_below_drewN | apply below_drew1) | exact HB.out)))); (case aL => have := LMc6.out; omega); intro v157 w23 ho hb hg hat; rw [← Ny156.out] at ho; have n0_ := Aside0.mk (hb); have n1_ := Aside0.mk (ho); clear HB; clear HO_3; have HB := n0_; have HO158 := n1_; clear n0_ n1_; clear ho hb hg hat; have p159 : 0 ≤ (x4_1 : Int) := of_decide_eq_true (by first | (with_reducible assumption) | assumption); have q159 : x4_1 < (l0.length : Int) := of_decide_eq_true (by first | (with_reducible assumption) | assumption); obtain ⟨ad159, e159, hx159_0, hx159_1, hx159_2⟩ := at_T47 HR0.out x4_1 p159 q159; obtain rfl : ad155 = ad159 := (by injection e159); replace hx159_0 := (HB.out.cell (World.block_lt_of_cell? w _ hx159_0)).trans hx159_0; replace hx159_1 := (HB.out.cell (World.block_lt_of_cell? w _ hx159_1)).trans hx159_1; replace hx159_2 := (HB.out.cell (World.block_lt_of_cell? w _ hx159_2)).trans hx159_2; replace p159 := eq_true p159; replace q159 := eq_true q159; have p174 : 0 ≤ (x4_1 : Int) := of_decide_eq_true (by first | (with_reducible assumption) | assumption); have q174 : x4_1 < (l0.length : Int) := of_decide_eq_true (by first | (with_reducible assumption) | assumption); obtain ⟨ad174, e174, hx174_0, hx174_1, hx174_2⟩ := at_T47 HR0.out x4_1 p174 q174; obtain rfl : ad155 = ad174 := (by injection e174); replace hx174_0 := (HB.out.cell (World.block_lt_of_cell? w _ hx174_0)).trans hx174_0; replace hx174_1 := (HB.out.cell (World.block_lt_of_cell? w _ hx174_1)).trans hx174_1; replace hx174_2 := (HB.out.cell (World.block_lt_of_cell? w _ hx174_2)).trans hx174_2; replace p174 := eq_true p174; replace q174 := eq_true q174) | ((with_reducible refine gate_builtin (b := .append) (xs := #[.tmp 51, .tmp 58]) rfl ?_); at_builtin; refine Kd.R_append (Kd.int .u8) (w0 := w) w.heap.size rfl (.tmp 51) (.tmp 58) 23 5 (.int .u8 0) 1 rfl Tryz.underlying23 info5 rfl (by decide) (by omega) v157 y156 (((rd_T47 l0 x4_1).f1) % 256) [.int .u8 (((rd_T47 l0 x4_1).f1) % 256)] (fun _ => True) (fun _ => False) rfl rfl ?aP (fun _ hk => hk.elim) ?aF ?aO ?aB ?aS ?aL ?_; (case aP => exact rfl); (case aB => exact (by repeat (first | (with_reducible first | exact HB.out | apply below_alloc | apply pw_below_drewN | apply below_drew1) | exact HB.out))); (case aF => exact (fun _ _ => trivial)); (case aO => exact (by (with_reducible repeat (first | apply Kd.R_alloc | apply Kd.R_drewN | apply Kd.R_drew)); exact HO158.out)); (case aS => exact (below_size (by repeat (first | (with_reducible first | exact HB.out | apply below_alloc | apply pw_below_drewN | apply below_drew1) | exact HB.out)))); (case aL => have := LMc22.out; omega); intro v176 w24 ho hb hg hat; rw [← Ny175.out] at ho; have n0_ := Aside0.mk (hb); have n1_ := Aside0.mk (ho); clear HB; clear HO158; have HB := n0_; have HO177 := n1_; clear n0_ n1_; clear ho hb hg hat))
                    go_roundg k1
                    case measure => have := HK1.out; omega
                    case rel => exact ⟨(y175), (wrap64 (x4_1 + 1)), (by first | rfl | (simp; done) | (simp [*]; done)), H', ⟨by have := HK1.out; omega⟩, ⟨by (with_reducible repeat (first | apply Kd.R_alloc | apply Kd.R_drewN | apply Kd.R_drew)); exact HO177.out⟩, ⟨by repeat (first | (with_reducible first | exact HB.out | apply below_alloc | apply pw_below_drewN | apply below_drew1) | exact HB.out)⟩⟩
                  · rw [if_neg c22] at H
                    exact absurd H (by simp)
                · rw [if_neg c21] at H
                  have c21b0 : (((rd_T47 l0 x4_1).f0) == 3) = false := beq_eq_false_iff_ne.mpr c21
                  have c21b1 : (((rd_T47 l0 x4_1).f0) != 3) = true := bne_iff_ne.mpr c21
                  have H' := Aside0.mk H
                  clear H
                  have p155 : 0 ≤ (x4_1 : Int) := of_decide_eq_true (by first | (with_reducible assumption) | assumption)
                  have q155 : x4_1 < (l0.length : Int) := of_decide_eq_true (by first | (with_reducible assumption) | assumption)
                  obtain ⟨ad155, e155, hx155_0, hx155_1, hx155_2⟩ := at_T47 HR0.out x4_1 p155 q155
                  cases e155
                  replace hx155_0 := (HB.out.cell (World.block_lt_of_cell? w _ hx155_0)).trans hx155_0
                  replace hx155_1 := (HB.out.cell (World.block_lt_of_cell? w _ hx155_1)).trans hx155_1
                  replace hx155_2 := (HB.out.cell (World.block_lt_of_cell? w _ hx155_2)).trans hx155_2
                  replace p155 := eq_true p155
                  replace q155 := eq_true q155
                  go_wp2_with (first | ((with_reducible refine gate_builtin (b := .append) (xs := #[.tmp 15, .tmp 22]) rfl ?_); at_builtin; refine Kd.R_append (Kd.int .u8) (w0 := w) w.heap.size rfl (.tmp 15) (.tmp 22) 23 5 (.int .u8 0) 1 rfl Tryz.underlying23 info5 rfl (by decide) (by omega) u3 x3_1 (((rd_T47 l0 x4_1).f0) % 256) [.int .u8 (((rd_T47 l0 x4_1).f0) % 256)] (fun _ => True) (fun _ => False) rfl rfl ?aP (fun _ hk => hk.elim) ?aF ?aO ?aB ?aS ?aL ?_; (case aP => exact rfl); (case aB => exact (by repeat (first | (with_reducible first | exact HB.out | apply below_alloc | apply pw_below_drewN | apply below_drew1) | exact HB.out))); (case aF => exact (fun _ _ => trivial)); (case aO => exact (by (with_reducible repeat (first | apply Kd.R_alloc | apply Kd.R_drewN | apply Kd.R_drew)); exact HO_3.out)); (case aS => exact (below_size (by repeat (first | (with_reducible first | exact HB.out | apply below_alloc | apply pw_below_drewN | apply below_drew1) | exact HB.out)))); (case aL => have := LMc6.out; omega); intro v157 w25 ho hb hg hat; rw [← Ny156.out] at ho; have n0_ := Aside0.mk (hb); have n1_ := Aside0.mk (ho); clear HB; clear HO_3; have HB := n0_; have HO158 := n1_; clear n0_ n1_; clear ho hb hg hat; have p159 : 0 ≤ (x4_1 : Int) := of_decide_eq_true (by first | (with_reducible assumption) | assumption); have q159 : x4_1 < (l0.length : Int) := of_decide_eq_true (by first | (with_reducible assumption) | assumption); obtain ⟨ad159, e159, hx159_0, hx159_1, hx159_2⟩ := at_T47 HR0.out x4_1 p159 q159; obtain rfl : ad155 = ad159 := (by injection e159); replace hx159_0 := (HB.out.cell (World.block_lt_of_cell? w _ hx159_0)).trans hx159_0; replace hx159_1 := (HB.out.cell (World.block_lt_of_cell? w _ hx159_1)).trans hx159_1; replace hx159_2 := (HB.out.cell (World.block_lt_of_cell? w _ hx159_2)).trans hx159_2; replace p159 := eq_true p159; replace q159 := eq_true q159))
                  go_roundg k1
                  case measure => have := HK1.out; omega
                  case rel => exact ⟨(y156), (wrap64 (x4_1 + 1)), (by first | rfl | (simp; done) | (simp [*]; done)), H', ⟨by have := HK1.out; omega⟩, ⟨by (with_reducible repeat (first | apply Kd.R_alloc | apply Kd.R_drewN | apply Kd.R_drew)); exact HO158.out⟩, ⟨by repeat (first | (with_reducible first | exact HB.out | apply below_alloc | apply pw_below_drewN | apply below_drew1) | exact HB.out)⟩⟩
          · rw [if_neg c6] at H
            exact absurd H (by simp)
        · rw [if_neg c5] at H
          exact absurd H (by simp)
      · rw [if_neg c4] at H
        have c4b0 : decide (x4_1 < (l0.length : Int)) = false := decide_eq_false c4
        clear c4
        obtain rfl := Option.some.inj H
        go_wp2
        go_ret
        exact ⟨_, by first | rfl | (simp [errW_none, errW_some] <;> rfl) | (simp [*, errW_none, errW_some] <;> rfl), by (with_reducible repeat (first | apply Kd.R_alloc | apply Kd.R_drewN | apply Kd.R_drew)); exact HO_3.out, by repeat (first | (with_reducible first | exact HB.out | apply below_alloc | apply pw_below_drewN | apply below_drew1) | exact HB.out)⟩

end Go.Proofs.YtblaibigjhlblaaGreatDoor.Q
end

section
-- written by hprint.py (a program of these sessions) out of the translation; Lean checks it
namespace Go.Proofs.YtblaibigjhlblaaGreatDoor.Q
open Go.RowKit Go.Proofs.YtblaibigjhlblaaGreatDoorW.Hb Go.Proofs.YtblaibigjhlblaaGreatDoorW.PrintWords Go.Proofs.YtblaibigjhlblaaGreatDoorW.PrintLast Go.Proofs.YtblaibigjhlblaaGreatDoorW.PrintMore
attribute [local go_sem] max2_int min2_int max_two min_two max_three min_three max_four min_four   -- for this text's walks alone
set_option linter.unusedVariables false
set_option linter.unusedSimpArgs false

/-! ### weighhouseref02_Put: function 8 -/
def weighhouseref02_Put.f (k : Nat) (l0 : List (S47)) : Option (List Int × Int) := if (l0.length : Int) > 255 then (some (([] : List Int), 6)) else ((weighhouseref02_All.f k l0).bind fun t178 => (if t178 = true then ((weighhouseref02_BytesOf.f k l0).bind fun t179 => (some (t179, 0))) else (some (([] : List Int), 1))))
theorem weighhouseref02_Put.mono : ∀ a0 k, LeO (weighhouseref02_Put.f k a0) (weighhouseref02_Put.f (k + 1) a0) := by
  intro a0 k
  unfold weighhouseref02_Put.f
  repeat' first
      | (with_reducible exact weighhouseref02_All.mono _ _)
      | (with_reducible exact weighhouseref02_BytesOf.mono _ _)
      | (with_reducible exact LeO.refl _)
      | (with_reducible exact LeO.none _)
      | (with_reducible refine LeO.ite ?_ ?_)
      | (with_reducible refine LeO.bind ?_ (fun _ => ?_))
      | exact weighhouseref02_All.mono _ _
      | exact weighhouseref02_BytesOf.mono _ _
      | exact LeO.none _
      | refine LeO.ite ?_ ?_
      | refine LeO.bind ?_ (fun _ => ?_)
set_option maxHeartbeats 8000000 in
set_option maxRecDepth 100000 in
theorem weighhouseref02_Put.calls (k : Nat) (A0 : Option Addr) (c0 : Nat) (l0 : List (S47)) (r1 : List Int) (r2 : Int) (w : World) (hr0 : Kd.C k47 w A0 l0.length l0) (hc0 : l0.length ≤ c0) (h : weighhouseref02_Put.f k l0 = some (r1, r2)) :
    Calls Tryz.prog 8 #[.slice A0 l0.length c0] w fun e w' => ∃ v0_ : Value, e = .returned (.tuple #[v0_, .int .i64 r2]) ∧ Kd.R (Kd.int .u8) 5 w' w.heap.size (fun _ => True) v0_ r1 ∧ Below w.heap.size w w' := by
  have HR0 := Aside0.mk hr0
  have HC0 := Aside0.mk hc0
  clear hr0 hc0
  have HB := Aside0.mk (Below.refl w.heap.size w)
  have H : (if (l0.length : Int) > 255 then (some (([] : List Int), 6)) else ((weighhouseref02_All.f k l0).bind fun t178 => (if t178 = true then ((weighhouseref02_BytesOf.f k l0).bind fun t179 => (some (t179, 0))) else (some (([] : List Int), 1))))) = some (r1, r2) := h
  clear h
  by_cases c2 : (l0.length : Int) > 255
  · rw [if_pos c2] at H
    have c2b0 : decide (255 < (l0.length : Int)) = true := decide_eq_true c2
    have c2b1 : decide (255 < l0.length) = true := decide_eq_true (by omega)
    clear c2
    simp only [Option.some.injEq, Prod.mk.injEq] at H
    obtain ⟨rfl, rfl⟩ := H
    go_enter Tryz.func8, Tryz.ntmps8
    go_wp2
    go_ret2
    exact ⟨_, by first | rfl | (simp [errW_none, errW_some] <;> rfl) | (simp [*, errW_none, errW_some] <;> rfl), by first | exact Kd.R_nil _ _ _ _ _ | exact Kd.N_nil _ _ _ _ _ | exact Kd.V_nil _ _ _ _ _ | exact Kd.Q_nil _ _ _ _ _ | exact Kd.S_nil _ _ _ _ _, by repeat (first | (with_reducible first | exact HB.out | apply below_alloc | apply pw_below_drewN | apply below_drew1) | exact HB.out)⟩
  · rw [if_neg c2] at H
    have c2b0 : decide (255 < (l0.length : Int)) = false := decide_eq_false c2
    have c2b1 : decide (255 < l0.length) = false := decide_eq_false (by omega)
    clear c2
    replace H := Option.bind_eq_some_iff.mp H
    obtain ⟨t178, A30, H⟩ := H
    replace H : (if t178 = true then ((weighhouseref02_BytesOf.f k l0).bind fun t179 => (some (t179, 0))) else (some (([] : List Int), 1))) = some (r1, r2) := H
    have A3 := Aside0.mk A30
    clear A30
    by_cases c4 : t178 = true
    · subst c4
      have H1 : ((weighhouseref02_BytesOf.f k l0).bind fun t179 => (some (t179, 0))) = some (r1, r2) := by rw [if_pos rfl] at H; exact H
      clear H
      have H := H1
      clear H1
      replace H := Option.bind_eq_some_iff.mp H
      obtain ⟨t179, A50, H⟩ := H
      replace H : (some (t179, 0)) = some (r1, r2) := H
      have A5 := Aside0.mk A50
      clear A50
      simp only [Option.some.injEq, Prod.mk.injEq] at H
      obtain ⟨rfl, rfl⟩ := H
      go_enter Tryz.func8, Tryz.ntmps8
      go_wp2_with (first | ((with_reducible refine gate_callee (f := 23) rfl ?_); refine goesL_ (some 8) rfl rfl Tryz.func23 (by kernel_rfl) rfl #[.slice A0 l0.length c0] rfl (by (try simp only [List.map_toArray, List.map_cons, List.map_nil]); first | done | rfl | (simp only [List.length_drop, List.length_take]; rfl)) ?_; (with_reducible refine (weighhouseref02_All.calls k _ _ l0 true _ ?side1 ?side2 A3.out).mono ?_); (case side1 => repeat (first | exact HR0.out | (with_reducible refine Kd.C_alloc ?_ _) | (with_reducible refine Kd.C_drewN ?_ _) | (with_reducible refine Kd.C_drew ?_))); (case side2 => exact HC0.out); rintro e w6 ⟨rfl, hb⟩; refine ⟨_, rfl, ?_⟩; have n0_ := Aside0.mk (below_step (by repeat (first | (with_reducible first | exact HB.out | apply below_alloc | apply pw_below_drewN | apply below_drew1) | exact HB.out)) hb); clear HB; have HB := n0_; clear n0_; (try clear hb); (try clear hb2); (try clear hk); (try clear hi)) | ((with_reducible refine gate_callee (f := 24) rfl ?_); refine goesL_ (some 11) rfl rfl Tryz.func24 (by kernel_rfl) rfl #[.slice A0 l0.length c0] rfl (by (try simp only [List.map_toArray, List.map_cons, List.map_nil]); first | done | rfl | (simp only [List.length_drop, List.length_take]; rfl)) ?_; (with_reducible refine (weighhouseref02_BytesOf.calls k _ _ l0 t179 _ ?side1 ?side2 A5.out).mono ?_); (case side1 => repeat (first | exact (Kd.C_below HR0.out HB.out) | (with_reducible refine Kd.C_alloc ?_ _) | (with_reducible refine Kd.C_drewN ?_ _) | (with_reducible refine Kd.C_drew ?_))); (case side2 => exact HC0.out); rintro e w7 ⟨v180, rfl, ho0, hb⟩; refine ⟨_, rfl, ?_⟩; have n0_ := Aside0.mk (Kd.R_lower ho0 (below_size (by repeat (first | (with_reducible first | exact HB.out | apply below_alloc | apply pw_below_drewN | apply below_drew1) | exact HB.out)))); have n1_ := Aside0.mk (below_step (by repeat (first | (with_reducible first | exact HB.out | apply below_alloc | apply pw_below_drewN | apply below_drew1) | exact HB.out)) hb); clear HB; have HO181 := n0_; have HB := n1_; clear n0_ n1_; (try clear hb); (try clear hb2); (try clear hk); (try clear hi); (try clear ho0)))
      go_ret2
      exact ⟨_, by first | rfl | (simp [errW_none, errW_some] <;> rfl) | (simp [*, errW_none, errW_some] <;> rfl), by (with_reducible repeat (first | apply Kd.R_alloc | apply Kd.R_drewN | apply Kd.R_drew)); exact HO181.out, by repeat (first | (with_reducible first | exact HB.out | apply below_alloc | apply pw_below_drewN | apply below_drew1) | exact HB.out)⟩
    · replace c4 := Bool.eq_false_iff.mpr c4
      subst c4
      have H1 : (some (([] : List Int), 1)) = some (r1, r2) := by rw [if_neg (show ¬ (false = true) by decide)] at H; exact H
      clear H
      have H := H1
      clear H1
      simp only [Option.some.injEq, Prod.mk.injEq] at H
      obtain ⟨rfl, rfl⟩ := H
      go_enter Tryz.func8, Tryz.ntmps8
      go_wp2_with (first | ((with_reducible refine gate_callee (f := 23) rfl ?_); refine goesL_ (some 8) rfl rfl Tryz.func23 (by kernel_rfl) rfl #[.slice A0 l0.length c0] rfl (by (try simp only [List.map_toArray, List.map_cons, List.map_nil]); first | done | rfl | (simp only [List.length_drop, List.length_take]; rfl)) ?_; (with_reducible refine (weighhouseref02_All.calls k _ _ l0 false _ ?side1 ?side2 A3.out).mono ?_); (case side1 => repeat (first | exact HR0.out | (with_reducible refine Kd.C_alloc ?_ _) | (with_reducible refine Kd.C_drewN ?_ _) | (with_reducible refine Kd.C_drew ?_))); (case side2 => exact HC0.out); rintro e w8 ⟨rfl, hb⟩; refine ⟨_, rfl, ?_⟩; have n0_ := Aside0.mk (below_step (by repeat (first | (with_reducible first | exact HB.out | apply below_alloc | apply pw_below_drewN | apply below_drew1) | exact HB.out)) hb); clear HB; have HB := n0_; clear n0_; (try clear hb); (try clear hb2); (try clear hk); (try clear hi)))
      go_ret2
      exact ⟨_, by first | rfl | (simp [errW_none, errW_some] <;> rfl) | (simp [*, errW_none, errW_some] <;> rfl), by first | exact Kd.R_nil _ _ _ _ _ | exact Kd.N_nil _ _ _ _ _ | exact Kd.V_nil _ _ _ _ _ | exact Kd.Q_nil _ _ _ _ _ | exact Kd.S_nil _ _ _ _ _, by repeat (first | (with_reducible first | exact HB.out | apply below_alloc | apply pw_below_drewN | apply below_drew1) | exact HB.out)⟩

end Go.Proofs.YtblaibigjhlblaaGreatDoor.Q
end

section
-- written by hprint.py (a program of these sessions) out of the translation; Lean checks it
namespace Go.Proofs.YtblaibigjhlblaaGreatDoor.Q
open Go.RowKit Go.Proofs.YtblaibigjhlblaaGreatDoorW.Hb Go.Proofs.YtblaibigjhlblaaGreatDoorW.PrintWords Go.Proofs.YtblaibigjhlblaaGreatDoorW.PrintLast Go.Proofs.YtblaibigjhlblaaGreatDoorW.PrintMore
attribute [local go_sem] max2_int min2_int max_two min_two max_three min_three max_four min_four   -- for this text's walks alone
set_option linter.unusedVariables false
set_option linter.unusedSimpArgs false

/-! ### weighhouseref01_Reader_Left: function 57, by hand -/
/-- The document's reader: its block g, all bytes, its place, its error; S: its blocks. -/
def Rq (w : World) (S : Nat → Prop) (g : Nat) (B : List Int) (a : Nat) (e : Int) : Prop := ∃ A c, Blk w g 85 #[.slice A B.length c, .int .i64 a, .int .i64 e] ∧ B.length ≤ c ∧ S g ∧ (∀ ad, A = some ad → S ad.block ∧ ad.block ≠ g ∧ ad.block < w.heap.size) ∧ (Kd.int .u8).C w A B.length B ∧ (∀ x ∈ B, 0 ≤ x ∧ x ≤ 255) ∧ a ≤ B.length ∧ B.length ≤ 140737488355328
theorem Rq.lt {w : World} {S : Nat → Prop} {g : Nat} {B : List Int} {a : Nat} {e : Int} (h : Rq w S g B a e) : g < w.heap.size := by
  obtain ⟨A, c, hb, _⟩ := h
  exact hb.lt
theorem Rq.info {w : World} {S : Nat → Prop} {g : Nat} {B : List Int} {a : Nat} {e : Int} (h : Rq w S g B a e) : (∀ x ∈ B, 0 ≤ x ∧ x ≤ 255) ∧ a ≤ B.length ∧ B.length ≤ 140737488355328 := by
  obtain ⟨_, _, _, _, _, _, _, h⟩ := h
  exact h
theorem Rq.kept {w w' : World} {S S2 : Nat → Prop} {g : Nat} {B : List Int} {a : Nat} {e : Int} (h : Rq w S g B a e) (hk : Kept w w' S2) (hd : ∀ k, S k → ¬ S2 k) : Rq w' S g B a e := by
  obtain ⟨A, c, hb, hc, hS, hA, hC, hx⟩ := h
  exact ⟨A, c, blk_kept hb hk (hd g hS), hc, hS, fun ad e => ⟨(hA ad e).1, (hA ad e).2.1, Nat.lt_of_lt_of_le (hA ad e).2.2 hk.1⟩, C_keptb hC hk (fun ad e => ⟨hd _ (hA ad e).1, (hA ad e).2.2⟩), hx⟩
theorem Rq.below {w w' : World} {S : Nat → Prop} {g : Nat} {B : List Int} {a : Nat} {e : Int} (h : Rq w S g B a e) (hb : Below w.heap.size w w') : Rq w' S g B a e := h.kept (Kept.of_below hb (fun _ => False)) (fun _ _ hk => hk)
theorem Rq.set_at {w : World} {S : Nat → Prop} {g : Nat} {B : List Int} {a a' : Nat} {e : Int} (h : Rq w S g B a e) (ha : a' ≤ B.length) : Rq (w.setCell ⟨g, 1, none⟩ (.int .i64 a')) S g B a' e := by
  obtain ⟨A, c, hb, hc, hS, hA, hC, hx, _, hl⟩ := h
  exact ⟨A, c, by simpa using hb.set_ 1 (.int .i64 a'), hc, hS, fun ad e => ⟨(hA ad e).1, (hA ad e).2.1, by simpa [World.setCell] using (hA ad e).2.2⟩, Rd.far hC (fun ad e => (hA ad e).2) 1 _, hx, ha, hl⟩
theorem Rq.set_e {w : World} {S : Nat → Prop} {g : Nat} {B : List Int} {a : Nat} {e e' : Int} (h : Rq w S g B a e) : Rq (w.setCell ⟨g, 2, none⟩ (.int .i64 e')) S g B a e' := by
  obtain ⟨A, c, hb, hc, hS, hA, hC, hx, ha, hl⟩ := h
  exact ⟨A, c, by simpa using hb.set_ 2 (.int .i64 e'), hc, hS, fun ad e => ⟨(hA ad e).1, (hA ad e).2.1, by simpa [World.setCell] using (hA ad e).2.2⟩, Rd.far hC (fun ad e => (hA ad e).2) 2 _, hx, ha, hl⟩
set_option maxRecDepth 100000 in
theorem weighhouseref01_Reader_Left.calls (S : Nat → Prop) (g : Nat) (B : List Int) (a : Nat) (ev : Int) (w : World) (hR : Rq w S g B a ev) :
    Calls Tryz.prog 57 #[.pointer (some ⟨g, 0, none⟩)] w fun e w' => e = .returned (.int .i64 ((B.drop a).length : Int)) ∧ Below w.heap.size w w' := by
  obtain ⟨A, c, hb, hc, hS, hA, hC, hx, ha, hl⟩ := hR
  have k0 : w.drew.cell? ⟨g, 0, none⟩ = some (.slice A B.length c) := hb.cell 0
  have k1 : w.drew.cell? ⟨g, 1, none⟩ = some (.int .i64 a) := hb.cell 1
  have hd : wrap64 ((B.length : Int) - (a : Int)) = ((B.drop a).length : Int) := by
    rw [wrapI (by omega) (by omega), List.length_drop]
    omega
  obtain ⟨n, hn⟩ : ∃ n : Int, ((B.drop a).length : Int) = n := ⟨_, rfl⟩
  rw [hn] at hd ⊢
  clear hb hC hx hA hn
  go_enter Tryz.func57, Tryz.ntmps57
  go_wp2
  have HBd := Aside0.mk ((Below.refl w.heap.size w).drew)
  refine start_ (n := 11) (S := fun w' => w'.cell? ⟨g, 0, none⟩ = some (.slice A B.length c) ∧ w'.cell? ⟨g, 1, none⟩ = some (.int .i64 a)) (ds := []) #[false, false, false, false, false, false, false, false, false, false, false] (by kernel_rfl) rfl rfl ⟨k0, k1⟩ (fun hHeld => ?_)
  generalize w.drew = wd at k0 k1 HBd hHeld ⊢
  refine pure_ (i := 0) (N := some 3) (v := ?_) (a' := ?_) #[true, false, false, false, false, false, false, false, false, false, false] rfl rfl (by kernel_rfl) (fun _ _ _ h => h) (Or.inl ⟨by rfl, ?_⟩) ?_ ?_
  rotate_left
  · intro w'
    go_simp
    with_reducible rfl
  rotate_left
  · simp only [Act.put, List.setIfInBounds_toArray, List.set_cons_zero, List.set_cons_succ, i64_w, i32_w]
    rfl
  refine pure_ (i := 1) (N := some 4) (v := ?_) (a' := ?_) #[true, true, false, false, false, false, false, false, false, false, false] rfl rfl (by kernel_rfl) (fun _ _ _ h => h) (Or.inl ⟨by rfl, ?_⟩) ?_ ?_
  rotate_left
  · intro w'
    go_simp
    with_reducible rfl
  rotate_left
  · simp only [Act.put, List.setIfInBounds_toArray, List.set_cons_zero, List.set_cons_succ, i64_w, i32_w]
    rfl
  refine pure_ (i := 2) (N := some 5) (v := ?_) (a' := ?_) #[true, true, true, false, false, false, false, false, false, false, false] rfl rfl (by kernel_rfl) (fun _ _ _ h => h) (Or.inl ⟨by rfl, ?_⟩) ?_ ?_
  rotate_left
  · intro w'
    go_simp
    with_reducible rfl
  rotate_left
  · simp only [Act.put, List.setIfInBounds_toArray, List.set_cons_zero, List.set_cons_succ, i64_w, i32_w]
    rfl
  refine pure_ (i := 5) (N := some 8) (v := ?_) (a' := ?_) #[true, true, true, false, false, true, false, false, false, false, false] rfl rfl (by kernel_rfl) (fun _ _ _ h => h) (Or.inl ⟨by rfl, ?_⟩) ?_ ?_
  rotate_left
  · intro w'
    go_simp
    with_reducible rfl
  rotate_left
  · simp only [Act.put, List.setIfInBounds_toArray, List.set_cons_zero, List.set_cons_succ, i64_w, i32_w]
    rfl
  refine pure_ (i := 6) (N := some 9) (v := ?_) (a' := ?_) #[true, true, true, false, false, true, true, false, false, false, false] rfl rfl (by kernel_rfl) (fun _ _ _ h => h) (Or.inl ⟨by rfl, ?_⟩) ?_ ?_
  rotate_left
  · intro w'
    go_simp
    with_reducible rfl
  rotate_left
  · simp only [Act.put, List.setIfInBounds_toArray, List.set_cons_zero, List.set_cons_succ, i64_w, i32_w]
    rfl
  refine pure_ (i := 7) (N := some 10) (v := ?_) (a' := ?_) #[true, true, true, false, false, true, true, true, false, false, false] rfl rfl (by kernel_rfl) (fun _ _ _ h => h) (Or.inl ⟨by rfl, ?_⟩) ?_ ?_
  rotate_left
  · intro w'
    go_simp
    with_reducible rfl
  rotate_left
  · simp only [Act.put, List.setIfInBounds_toArray, List.set_cons_zero, List.set_cons_succ, i64_w, i32_w]
    rfl
  refine take_ (i := 3) (N := some 6) (v := ?_) (a' := ?_) #[true, true, true, true, false, true, true, true, false, false, false] rfl rfl (by kernel_rfl) (fun _ _ _ h => h) (Or.inl ⟨by rfl, ?_⟩) hHeld ?_ ?_
  rotate_left
  · rintro w' ⟨s0, s1⟩
    go_simp
    with_reducible rfl
  rotate_left
  · simp only [Act.put, List.setIfInBounds_toArray, List.set_cons_zero, List.set_cons_succ, i64_w, i32_w]
    rfl
  refine pure_ (i := 4) (N := some 7) (v := ?_) (a' := ?_) #[true, true, true, true, true, true, true, true, false, false, false] rfl rfl (by kernel_rfl) (fun _ _ _ h => h) (Or.inl ⟨by rfl, ?_⟩) ?_ ?_
  rotate_left
  · intro w'
    go_simp
    with_reducible rfl
  rotate_left
  · simp only [Act.put, List.setIfInBounds_toArray, List.set_cons_zero, List.set_cons_succ, i64_w, i32_w]
    rfl
  refine take_ (i := 8) (N := some 11) (v := ?_) (a' := ?_) #[true, true, true, true, true, true, true, true, true, false, false] rfl rfl (by kernel_rfl) (fun _ _ _ h => h) (Or.inl ⟨by rfl, ?_⟩) hHeld ?_ ?_
  rotate_left
  · rintro w' ⟨s0, s1⟩
    go_simp
    with_reducible rfl
  rotate_left
  · simp only [Act.put, List.setIfInBounds_toArray, List.set_cons_zero, List.set_cons_succ, i64_w, i32_w]
    rfl
  refine pure_ (i := 9) (N := some 12) (v := ?_) (a' := ?_) #[true, true, true, true, true, true, true, true, true, true, false] rfl rfl (by kernel_rfl) (fun _ _ _ h => h) (Or.inl ⟨by rfl, ?_⟩) ?_ ?_
  rotate_left
  · intro w'
    go_simp
    with_reducible rfl
  rotate_left
  · simp only [Act.put, List.setIfInBounds_toArray, List.set_cons_zero, List.set_cons_succ, i64_w, i32_w]
    rfl
  refine pure_ (i := 10) (N := some 2) (v := ?_) (a' := ?_) #[true, true, true, true, true, true, true, true, true, true, true] rfl rfl (by kernel_rfl) (fun _ _ _ h => h) (Or.inl ⟨by rfl, ?_⟩) ?_ ?_
  rotate_left
  · intro w'
    go_simp
    with_reducible rfl
  rotate_left
  · simp only [Act.put, List.setIfInBounds_toArray, List.set_cons_zero, List.set_cons_succ, i64_w, i32_w]
    rfl
  refine done_ (by kernel_rfl) ?_
  clear hHeld k0 k1 hd
  go_wp2
  go_ret
  exact ⟨rfl, HBd.out⟩


end Go.Proofs.YtblaibigjhlblaaGreatDoor.Q
end

section
-- written by hprint.py (a program of these sessions) out of the translation; Lean checks it
namespace Go.Proofs.YtblaibigjhlblaaGreatDoor.Q
open Go.RowKit Go.Proofs.YtblaibigjhlblaaGreatDoorW.Hb Go.Proofs.YtblaibigjhlblaaGreatDoorW.PrintWords Go.Proofs.YtblaibigjhlblaaGreatDoorW.PrintLast Go.Proofs.YtblaibigjhlblaaGreatDoorW.PrintMore
attribute [local go_sem] max2_int min2_int max_two min_two max_three min_three max_four min_four   -- for this text's walks alone
set_option linter.unusedVariables false
set_option linter.unusedSimpArgs false

/-! ### weighhouseref01_NewReader: function 31, by hand -/
set_option maxRecDepth 100000 in
theorem weighhouseref01_NewReader.calls (A : Option Addr) (c : Nat) (l : List Int) (w : World) (hr : (Kd.int .u8).C w A l.length l) (hc : l.length ≤ c) (hl : l.length * 1 ≤ 140737488355328) (hx : ∀ x ∈ l, 0 ≤ x ∧ x ≤ 255) :
    Calls Tryz.prog 31 #[.slice A l.length c] w fun e w' => ∃ g, e = .returned (.pointer (some ⟨g, 0, none⟩)) ∧ Rq w' (fun k => w.heap.size ≤ k ∧ k < w'.heap.size) g l 0 0 ∧ w.heap.size ≤ g ∧ Below w.heap.size w w' := by
  have HC := Aside0.mk (Kd.C_alloc hr (.cells #[] 5))
  have HX := Aside0.mk hx
  have HO := Aside0.mk (show (Kd.int .u8).R 5 (w.alloc (.cells #[] 5)) w.heap.size (fun _ => True) (.slice (some ⟨w.heap.size, 0, none⟩) 0 0) [] from Kd.R_of_own (own_lit w w.heap.size 5 .u8 [] (Nat.le_refl _) (by simp)) (fun _ _ => trivial))
  have HB := Aside0.mk ((Below.refl w.heap.size w).alloc (Nat.le_refl _) (.cells #[] 5))
  clear hr hx
  go_enter Tryz.func31, Tryz.ntmps31
  go_wp2_with ((with_reducible refine gate_builtin (b := .append) (xs := #[.tmp 3, .tmp 4]) rfl ?_); at_builtin; refine Kd.R_append_rows (Kd.int .u8) (w0 := w) (Rr := (Kd.int .u8).K (w.alloc (.cells #[] 5))) w.heap.size rfl (.tmp 3) (.tmp 4) 23 5 (.int .u8 0) 1 rfl Tryz.underlying23 info5 rfl (by decide) (by omega) (.slice (some ⟨w.heap.size, 0, none⟩) 0 0) [] l A l.length c (fun _ => True) (fun _ => False) rfl rfl HO.out HC.out (fun x cs hK => hK) (fun _ hk => hk.elim) (fun _ _ => trivial) HB.out HB.out.size (by simpa using hl) ?_; intro v2 w2 hR2 hB2 _ _; rw [List.nil_append] at hR2; obtain ⟨A2, c2, rfl, hc2, hC2⟩ := Kd.R_reads hR2; have HR2 := Aside0.mk (Kd.R_bound hR2); have HB2 := Aside0.mk hB2; have HC2 := Aside0.mk hC2; clear hR2 hB2 hC2)
  go_ret
  have hs := HB2.out.size
  refine ⟨w2.heap.size, rfl, ⟨A2, c2, Blk.new w2 _ _, hc2, ⟨hs, by simp⟩, fun ad e => ?_, Kd.C_alloc HC2.out _, HX.out, Nat.zero_le _, by omega⟩, hs, HB2.out.alloc hs _⟩
  subst e
  have hb := HR2.out.1 ad.block rfl
  have h1 := hb.2.1
  have h2 := hb.2.2.1
  refine ⟨⟨h1, ?_⟩, by omega, ?_⟩ <;> (simp; omega)


end Go.Proofs.YtblaibigjhlblaaGreatDoor.Q
end

section
-- written by hprint.py (a program of these sessions) out of the translation; Lean checks it
namespace Go.Proofs.YtblaibigjhlblaaGreatDoor.Q
open Go.RowKit Go.Proofs.YtblaibigjhlblaaGreatDoorW.Hb Go.Proofs.YtblaibigjhlblaaGreatDoorW.PrintWords Go.Proofs.YtblaibigjhlblaaGreatDoorW.PrintLast Go.Proofs.YtblaibigjhlblaaGreatDoorW.PrintMore
attribute [local go_sem] max2_int min2_int max_two min_two max_three min_three max_four min_four   -- for this text's walks alone
set_option linter.unusedVariables false
set_option linter.unusedSimpArgs false

/-! ### weighhouseref01_Reader_has: function 70, by hand -/
def hasS (l : Nat) (e n : Int) : Bool × Int := if e = 0 then (if (l : Int) < n then (false, 20) else (true, 0)) else (false, e)
set_option maxRecDepth 100000 in
theorem weighhouseref01_Reader_has.calls (S : Nat → Prop) (g : Nat) (B : List Int) (a : Nat) (ev n : Int) (b : Bool) (e1 : Int) (w : World) (hR : Rq w S g B a ev) (hh : hasS (B.drop a).length ev n = (b, e1)) :
    Calls Tryz.prog 70 #[.pointer (some ⟨g, 0, none⟩), .int .i64 n] w fun e w' => e = .returned (.bool b) ∧ Rq w' S g B a e1 ∧ Fr w w' (fun k => k = g) := by
  have HR := Aside0.mk hR
  obtain ⟨A, c, hb, hc, hS, hA, hC, hx, ha, hl⟩ := hR
  have k2 : w.cell? ⟨g, 2, none⟩ = some (.int .i64 ev) := hb.cell 2
  have HB := Aside0.mk hb
  clear hb hC hx hA
  unfold hasS at hh
  by_cases he : ev = 0
  · subst he
    rw [if_pos rfl] at hh
    obtain ⟨ln, hln⟩ : ∃ ln : Int, ((B.drop a).length : Int) = ln := ⟨_, rfl⟩
    have HLN := Aside0.mk hln
    rw [hln] at hh
    clear hln
    by_cases h1 : ln < n
    · rw [if_pos h1] at hh
      cases hh
      have d1 : decide (ln < n) = true := decide_eq_true h1
      have f2 : w.frozen? ⟨g, 2, none⟩ = false := HB.out.frozen 2
      clear h1
      go_enter Tryz.func70, Tryz.ntmps70
      go_wp2_with (go_at_call 57; (with_reducible refine (weighhouseref01_Reader_Left.calls S g B a 0 _ HR.out).mono ?_); rintro e2 w2 ⟨rfl, hB2⟩; rw [HLN.out]; have hbk := HB.out.after hB2; have k3 : w2.cell? ⟨g, 2, none⟩ = some (.int .i64 0) := hbk.cell 2; have f3 : w2.frozen? ⟨g, 2, none⟩ = false := hbk.frozen 2; have HB2 := Aside0.mk hB2; clear hB2 hbk)
      go_ret
      exact ⟨rfl, (HR.out.below HB2.out).set_e, (Fr.of_below HB2.out _).then_ (Fr.set_ w2 g 2 _) (fun _ h => .inl h)⟩
    · rw [if_neg h1] at hh
      cases hh
      have d1 : decide (ln < n) = false := decide_eq_false h1
      clear h1
      go_enter Tryz.func70, Tryz.ntmps70
      go_wp2_with (go_at_call 57; (with_reducible refine (weighhouseref01_Reader_Left.calls S g B a 0 _ HR.out).mono ?_); rintro e2 w2 ⟨rfl, hB2⟩; rw [HLN.out]; have HB2 := Aside0.mk hB2; clear hB2)
      go_ret
      exact ⟨rfl, HR.out.below HB2.out, Fr.of_below HB2.out _⟩
  · rw [if_neg he] at hh
    cases hh
    have d1 : (ev == 0) = false := by simp [he]
    have d2 : (ev != 0) = true := by simp [he]
    clear he
    go_enter Tryz.func70, Tryz.ntmps70
    go_wp2
    go_ret
    exact ⟨rfl, HR.out, Fr.of_below (Below.refl _ _) _⟩


end Go.Proofs.YtblaibigjhlblaaGreatDoor.Q
end

section
-- written by hprint.py (a program of these sessions) out of the translation; Lean checks it
namespace Go.Proofs.YtblaibigjhlblaaGreatDoor.Q
open Go.RowKit Go.Proofs.YtblaibigjhlblaaGreatDoorW.Hb Go.Proofs.YtblaibigjhlblaaGreatDoorW.PrintWords Go.Proofs.YtblaibigjhlblaaGreatDoorW.PrintLast Go.Proofs.YtblaibigjhlblaaGreatDoorW.PrintMore
attribute [local go_sem] max2_int min2_int max_two min_two max_three min_three max_four min_four   -- for this text's walks alone
set_option linter.unusedVariables false
set_option linter.unusedSimpArgs false

/-! ### weighhouseref01_Reader_Byte: function 54, by hand -/
theorem drop_rd (B : List Int) (a i : Nat) : rd (B.drop a) (i : Int) = rd B ((a + i : Nat) : Int) := by
  simp only [rd, Int.toNat_natCast, List.getD_eq_getElem?_getD, List.getElem?_drop]
theorem hasS_err {l : Nat} {e n : Int} (h : e ≠ 0) : hasS l e n = (false, e) := if_neg h
theorem hasS_end {l : Nat} {n : Int} (h : (l : Int) < n) : hasS l 0 n = (false, 20) := by unfold hasS; rw [if_pos rfl, if_pos h]
theorem hasS_ok {l : Nat} {n : Int} (h : ¬ (l : Int) < n) : hasS l 0 n = (true, 0) := by unfold hasS; rw [if_pos rfl, if_neg h]
set_option maxRecDepth 100000 in
set_option maxHeartbeats 1000000 in
theorem weighhouseref01_Reader_Byte.calls (S : Nat → Prop) (g : Nat) (B : List Int) (a : Nat) (ev : Int) (w : World) (hR : Rq w S g B a ev) :
    Calls Tryz.prog 54 #[.pointer (some ⟨g, 0, none⟩)] w fun e w' => e = .returned (.int .i64 (rByte (B.drop a) ev).1) ∧ (∃ a', Rq w' S g B a' (rByte (B.drop a) ev).2.2 ∧ B.drop a' = (rByte (B.drop a) ev).2.1) ∧ Fr w w' (fun k => k = g) := by
  have HR := Aside0.mk hR
  by_cases he : ev = 0
  rotate_left
  · have HH := Aside0.mk (hasS_err (l := (B.drop a).length) (n := 1) he)
    rw [rByte_err he]
    clear hR he
    go_enter Tryz.func54, Tryz.ntmps54
    go_wp2_with (go_at_call 70; (with_reducible refine (weighhouseref01_Reader_has.calls S g B a ev 1 _ _ _ HR.out HH.out).mono ?_); rintro e2 w2 ⟨rfl, hR2, hF2⟩; have HR2 := Aside0.mk hR2; have HF2 := Aside0.mk hF2; clear hR2 hF2)
    go_ret
    exact ⟨rfl, ⟨a, HR2.out, rfl⟩, HF2.out⟩
  subst he
  by_cases h1 : (B.drop a).length < 1
  · have HH := Aside0.mk (hasS_end (l := (B.drop a).length) (n := 1) (by omega))
    rw [rByte_end h1]
    clear hR h1
    go_enter Tryz.func54, Tryz.ntmps54
    go_wp2_with (go_at_call 70; (with_reducible refine (weighhouseref01_Reader_has.calls S g B a 0 1 _ _ _ HR.out HH.out).mono ?_); rintro e2 w2 ⟨rfl, hR2, hF2⟩; have HR2 := Aside0.mk hR2; have HF2 := Aside0.mk hF2; clear hR2 hF2)
    go_ret
    exact ⟨rfl, ⟨a, HR2.out, rfl⟩, HF2.out⟩
  · have HH := Aside0.mk (hasS_ok (l := (B.drop a).length) (n := 1) (by omega))
    rw [rByte_ok h1]
    obtain ⟨hx, ha, hl⟩ := Rq.info hR
    clear hR
    have hln : (B.drop a).length = B.length - a := List.length_drop
    have hal0 : a < B.length := by omega
    have hrd : rd (B.drop a) 0 = B[a]'hal0 := (drop_rd B a 0).trans (rdN B a hal0)
    have hp := hx _ (List.getElem_mem hal0)
    obtain ⟨p, hpp⟩ : ∃ p, B[a]'hal0 = p := ⟨_, rfl⟩
    have HP := Aside0.mk hpp
    rw [hrd, hpp]
    rw [hpp] at hp
    obtain ⟨p0, p1⟩ := hp
    clear hx hrd hpp hln h1
    go_enter Tryz.func54, Tryz.ntmps54
    go_upto_region 3 with (go_at_call 70; (with_reducible refine (weighhouseref01_Reader_has.calls S g B a 0 1 _ _ _ HR.out HH.out).mono ?_); rintro e2 w2 ⟨rfl, hR2, hF2⟩; have HR2 := Aside0.mk hR2; have HF2 := Aside0.mk hF2; clear hR2 hF2)
    obtain ⟨A, c, hb, _⟩ := HR2.out
    have k1 : w2.cell? ⟨g, 1, none⟩ = some (.int .i64 a) := hb.cell 1
    have f1 : w2.frozen? ⟨g, 1, none⟩ = false := hb.frozen 1
    clear hb
    go_wp2
    have HR3 := Aside0.mk (Rq.set_at (a' := a + 1) HR2.out (by omega))
    have HF3 := Aside0.mk (HF2.out.then_ (Fr.set_ w2 g 1 (.int .i64 ((a + 1 : Nat) : Int))) (fun _ h => .inl h))
    rw [show ((a + 1 : Nat) : Int) = (a : Int) + 1 from by omega] at HR3 HF3
    obtain ⟨w3, hw3⟩ : ∃ w3, w2.setCell ⟨g, 1, none⟩ (.int .i64 ((a : Int) + 1)) = w3 := ⟨_, rfl⟩
    rw [hw3] at HR3 HF3 ⊢
    clear hw3 k1 f1 HR2 HF2
    obtain ⟨A, c, hb, hc, _, _, hC, _⟩ := HR3.out
    obtain ⟨ad, e, hc0⟩ := at_intN hC a hal0
    subst e
    rw [HP.out] at hc0
    have k0 : w3.drew.cell? ⟨g, 0, none⟩ = some (.slice (some ad) B.length c) := hb.cell 0
    have k1 : w3.drew.cell? ⟨g, 1, none⟩ = some (.int .i64 ((a : Int) + 1)) := hb.cell 1
    have k2 : w3.drew.cell? (ad.add a) = some (.int .u8 p) := hc0
    have HR4 := Aside0.mk (HR3.out.below ((Below.refl _ _).drew))
    have HF4 := Aside0.mk (HF3.out.then_ (Fr.of_below ((Below.refl _ _).drew) (fun k => k = g)) (fun _ h => .inl h))
    have hw1 : wrap64 (a : Int) = (a : Int) := wrapI (by omega) (by omega)
    have hw2 : wrap64 p = p := by clear hw1; exact wrapI (by omega) (by omega)
    clear hb hC hc0 HR3 HF3
    refine start_ (n := 13) (S := fun w' => w'.cell? ⟨g, 0, none⟩ = some (.slice (some ad) B.length c) ∧ w'.cell? ⟨g, 1, none⟩ = some (.int .i64 ((a : Int) + 1)) ∧ w'.cell? (ad.add a) = some (.int .u8 p)) (ds := []) #[false, false, false, false, false, false, false, false, false, false, false, false, false] (by kernel_rfl) rfl rfl ⟨k0, k1, k2⟩ (fun hHeld => ?_)
    generalize w3.drew = wd at HR4 HF4 k0 k1 k2 hHeld ⊢
    refine pure_ (i := 0) (N := some 13) (v := ?_) (a' := ?_) #[true, false, false, false, false, false, false, false, false, false, false, false, false] rfl rfl (by kernel_rfl) (fun _ _ _ h => h) (Or.inl ⟨by rfl, ?_⟩) ?_ ?_
    rotate_left
    · intro w'
      go_simp
      with_reducible rfl
    rotate_left
    · simp only [Act.put, List.setIfInBounds_toArray, List.set_cons_zero, List.set_cons_succ, i64_w, i32_w]
      rfl
    refine pure_ (i := 1) (N := some 14) (v := ?_) (a' := ?_) #[true, true, false, false, false, false, false, false, false, false, false, false, false] rfl rfl (by kernel_rfl) (fun _ _ _ h => h) (Or.inl ⟨by rfl, ?_⟩) ?_ ?_
    rotate_left
    · intro w'
      go_simp
      with_reducible rfl
    rotate_left
    · simp only [Act.put, List.setIfInBounds_toArray, List.set_cons_zero, List.set_cons_succ, i64_w, i32_w]
      rfl
    refine pure_ (i := 2) (N := some 15) (v := ?_) (a' := ?_) #[true, true, true, false, false, false, false, false, false, false, false, false, false] rfl rfl (by kernel_rfl) (fun _ _ _ h => h) (Or.inl ⟨by rfl, ?_⟩) ?_ ?_
    rotate_left
    · intro w'
      go_simp
      with_reducible rfl
    rotate_left
    · simp only [Act.put, List.setIfInBounds_toArray, List.set_cons_zero, List.set_cons_succ, i64_w, i32_w]
      rfl
    refine pure_ (i := 4) (N := some 17) (v := ?_) (a' := ?_) #[true, true, true, false, true, false, false, false, false, false, false, false, false] rfl rfl (by kernel_rfl) (fun _ _ _ h => h) (Or.inl ⟨by rfl, ?_⟩) ?_ ?_
    rotate_left
    · intro w'
      go_simp
      with_reducible rfl
    rotate_left
    · simp only [Act.put, List.setIfInBounds_toArray, List.set_cons_zero, List.set_cons_succ, i64_w, i32_w]
      rfl
    refine pure_ (i := 5) (N := some 18) (v := ?_) (a' := ?_) #[true, true, true, false, true, true, false, false, false, false, false, false, false] rfl rfl (by kernel_rfl) (fun _ _ _ h => h) (Or.inl ⟨by rfl, ?_⟩) ?_ ?_
    rotate_left
    · intro w'
      go_simp
      with_reducible rfl
    rotate_left
    · simp only [Act.put, List.setIfInBounds_toArray, List.set_cons_zero, List.set_cons_succ, i64_w, i32_w]
      rfl
    refine pure_ (i := 6) (N := some 19) (v := ?_) (a' := ?_) #[true, true, true, false, true, true, true, false, false, false, false, false, false] rfl rfl (by kernel_rfl) (fun _ _ _ h => h) (Or.inl ⟨by rfl, ?_⟩) ?_ ?_
    rotate_left
    · intro w'
      go_simp
      with_reducible rfl
    rotate_left
    · simp only [Act.put, List.setIfInBounds_toArray, List.set_cons_zero, List.set_cons_succ, i64_w, i32_w]
      rfl
    refine take_ (i := 3) (N := some 16) (v := ?_) (a' := ?_) #[true, true, true, true, true, true, true, false, false, false, false, false, false] rfl rfl (by kernel_rfl) (fun _ _ _ h => h) (Or.inl ⟨by rfl, ?_⟩) hHeld ?_ ?_
    rotate_left
    · rintro w' ⟨s0, s1, s2⟩
      go_simp
      with_reducible rfl
    rotate_left
    · simp only [Act.put, List.setIfInBounds_toArray, List.set_cons_zero, List.set_cons_succ, i64_w, i32_w]
      rfl
    refine take_ (i := 7) (N := some 20) (v := ?_) (a' := ?_) #[true, true, true, true, true, true, true, true, false, false, false, false, false] rfl rfl (by kernel_rfl) (fun _ _ _ h => h) (Or.inl ⟨by rfl, ?_⟩) hHeld ?_ ?_
    rotate_left
    · rintro w' ⟨s0, s1, s2⟩
      go_simp
      with_reducible rfl
    rotate_left
    · simp only [Act.put, List.setIfInBounds_toArray, List.set_cons_zero, List.set_cons_succ, i64_w, i32_w]
      rfl
    refine pure_ (i := 8) (N := some 21) (v := ?_) (a' := ?_) #[true, true, true, true, true, true, true, true, true, false, false, false, false] rfl rfl (by kernel_rfl) (fun _ _ _ h => h) (Or.inl ⟨by rfl, ?_⟩) ?_ ?_
    rotate_left
    · intro w'
      go_simp
      with_reducible rfl
    rotate_left
    · simp only [Act.put, List.setIfInBounds_toArray, List.set_cons_zero, List.set_cons_succ, i64_w, i32_w]
      rfl
    refine pure_ (i := 9) (N := some 22) (v := ?_) (a' := ?_) #[true, true, true, true, true, true, true, true, true, true, false, false, false] rfl rfl (by kernel_rfl) (fun _ _ _ h => h) (Or.inl ⟨by rfl, ?_⟩) ?_ ?_
    rotate_left
    · intro w'
      go_simp
      with_reducible rfl
    rotate_left
    · simp only [Act.put, List.setIfInBounds_toArray, List.set_cons_zero, List.set_cons_succ, i64_w, i32_w]
      rfl
    refine take_ (i := 10) (N := some 23) (v := ?_) (a' := ?_) #[true, true, true, true, true, true, true, true, true, true, true, false, false] rfl rfl (by kernel_rfl) (fun _ _ _ h => h) (Or.inl ⟨by rfl, ?_⟩) hHeld ?_ ?_
    rotate_left
    · rintro w' ⟨s0, s1, s2⟩
      go_simp
      with_reducible rfl
    rotate_left
    · simp only [Act.put, List.setIfInBounds_toArray, List.set_cons_zero, List.set_cons_succ, i64_w, i32_w]
      rfl
    refine pure_ (i := 11) (N := some 24) (v := ?_) (a' := ?_) #[true, true, true, true, true, true, true, true, true, true, true, true, false] rfl rfl (by kernel_rfl) (fun _ _ _ h => h) (Or.inl ⟨by rfl, ?_⟩) ?_ ?_
    rotate_left
    · intro w'
      go_simp
      with_reducible rfl
    rotate_left
    · simp only [Act.put, List.setIfInBounds_toArray, List.set_cons_zero, List.set_cons_succ, i64_w, i32_w]
      rfl
    refine pure_ (i := 12) (N := some 2) (v := ?_) (a' := ?_) #[true, true, true, true, true, true, true, true, true, true, true, true, true] rfl rfl (by kernel_rfl) (fun _ _ _ h => h) (Or.inl ⟨by rfl, ?_⟩) ?_ ?_
    rotate_left
    · intro w'
      go_simp
      with_reducible rfl
    rotate_left
    · simp only [Act.put, List.setIfInBounds_toArray, List.set_cons_zero, List.set_cons_succ, i64_w, i32_w]
      rfl
    refine done_ (by kernel_rfl) ?_
    clear hHeld k0 k1 k2 hw1 hw2
    go_wp2
    go_ret
    exact ⟨rfl, ⟨a + 1, HR4.out, by rw [List.drop_drop]⟩, HF4.out⟩


end Go.Proofs.YtblaibigjhlblaaGreatDoor.Q
end

section
-- written by hprint.py (a program of these sessions) out of the translation; Lean checks it
namespace Go.Proofs.YtblaibigjhlblaaGreatDoor.Q
open Go.RowKit Go.Proofs.YtblaibigjhlblaaGreatDoorW.Hb Go.Proofs.YtblaibigjhlblaaGreatDoorW.PrintWords Go.Proofs.YtblaibigjhlblaaGreatDoorW.PrintLast Go.Proofs.YtblaibigjhlblaaGreatDoorW.PrintMore
attribute [local go_sem] max2_int min2_int max_two min_two max_three min_three max_four min_four   -- for this text's walks alone
set_option linter.unusedVariables false
set_option linter.unusedSimpArgs false

/-! ### weighhouseref01_Reader_Int: function 55, by hand -/
theorem numB_snoc (n : Nat) (l : List Int) (x : Int) : numB n (l ++ [x]) = numB n l * 256 + x.toNat := by
  unfold numB
  rw [List.foldl_append]
  rfl
theorem numB_lt (l : List Int) (hl : ∀ x ∈ l, 0 ≤ x ∧ x ≤ 255) : ∀ n, numB n l < (n + 1) * 256 ^ l.length := by
  induction l with
  | nil => intro n; simp [numB]
  | cons x l ih =>
    intro n
    have hx := hl x (by simp)
    have := ih (fun y hy => hl y (by simp [hy])) (n * 256 + x.toNat)
    show numB (n * 256 + x.toNat) l < _
    refine Nat.lt_of_lt_of_le this ?_
    rw [List.length_cons, Nat.pow_succ, Nat.mul_comm (256 ^ l.length) 256, ← Nat.mul_assoc]
    exact Nat.mul_le_mul_right _ (by omega)
/-- One byte more of a number. -/
theorem numB_next (xs : List Int) (hx : ∀ x ∈ xs, 0 ≤ x ∧ x ≤ 255) (i : Nat) (hi : i < 8) (hl : i < xs.length) : (numB 0 (xs.take (i + 1)) : Int) = 256 * (numB 0 (xs.take i) : Int) + xs[i] ∧ 256 * (numB 0 (xs.take i) : Int) + xs[i] < 18446744073709551616 ∧ 0 ≤ xs[i] ∧ xs[i] ≤ 255 := by
  have h1 := hx _ (List.getElem_mem hl)
  have hlt := numB_lt (xs.take i) (fun x hm => hx x (List.mem_of_mem_take hm)) 0
  have hpow : 256 ^ (xs.take i).length ≤ 256 ^ 7 := Nat.pow_le_pow_right (by omega) (by rw [List.length_take]; omega)
  rw [List.take_succ_eq_append_getElem hl, numB_snoc]
  refine ⟨by omega, by omega, h1⟩
theorem u64words (N x N2 : Int) (h0 : 0 ≤ N) (h1 : N2 = 256 * N + x) (h2 : 256 * N + x < 18446744073709551616) (h3 : 0 ≤ x) (h4 : x ≤ 255) : IntKind.u64.wrap (256 * N) = 256 * N ∧ IntKind.u64.wrap x = x ∧ IntKind.u64.wrap (256 * N + x) = N2 ∧ (256 * N) % 18446744073709551616 = 256 * N ∧ x % 18446744073709551616 = x ∧ (256 * N + x) % 18446744073709551616 = N2 := by
  rw [wrapU64, wrapU64, wrapU64]
  omega
set_option maxRecDepth 100000 in
set_option maxHeartbeats 2000000 in
theorem weighhouseref01_Reader_Int.calls (S : Nat → Prop) (g : Nat) (B : List Int) (a : Nat) (ev : Int) (w : World) (hR : Rq w S g B a ev) :
    Calls Tryz.prog 55 #[.pointer (some ⟨g, 0, none⟩)] w fun e w' => e = .returned (.int .i64 (rInt (B.drop a) ev).1) ∧ (∃ a', Rq w' S g B a' (rInt (B.drop a) ev).2.2 ∧ B.drop a' = (rInt (B.drop a) ev).2.1) ∧ Fr w w' (fun k => k = g) := by
  have HR := Aside0.mk hR
  by_cases he : ev = 0
  rotate_left
  · have HH := Aside0.mk (hasS_err (l := (B.drop a).length) (n := 8) he)
    rw [rInt_err he]
    clear hR he
    go_enter Tryz.func55, Tryz.ntmps55
    go_wp2_with (go_at_call 70; (with_reducible refine (weighhouseref01_Reader_has.calls S g B a ev 8 _ _ _ HR.out HH.out).mono ?_); rintro e2 w2 ⟨rfl, hR2, hF2⟩; have HR2 := Aside0.mk hR2; have HF2 := Aside0.mk hF2; clear hR2 hF2)
    go_ret
    exact ⟨rfl, ⟨a, HR2.out, rfl⟩, HF2.out⟩
  subst he
  by_cases h1 : (B.drop a).length < 8
  · have HH := Aside0.mk (hasS_end (l := (B.drop a).length) (n := 8) (by omega))
    rw [rInt_end h1]
    clear hR h1
    go_enter Tryz.func55, Tryz.ntmps55
    go_wp2_with (go_at_call 70; (with_reducible refine (weighhouseref01_Reader_has.calls S g B a 0 8 _ _ _ HR.out HH.out).mono ?_); rintro e2 w2 ⟨rfl, hR2, hF2⟩; have HR2 := Aside0.mk hR2; have HF2 := Aside0.mk hF2; clear hR2 hF2)
    go_ret
    exact ⟨rfl, ⟨a, HR2.out, rfl⟩, HF2.out⟩
  · have HH := Aside0.mk (hasS_ok (l := (B.drop a).length) (n := 8) (by omega))
    rw [rInt_ok h1]
    obtain ⟨hx, ha, hl⟩ := Rq.info hR
    have hln : (B.drop a).length = B.length - a := List.length_drop
    have hal : a + 8 ≤ B.length := by omega
    have HX := Aside0.mk hx
    have HXD := Aside0.mk (show ∀ x ∈ B.drop a, 0 ≤ x ∧ x ≤ 255 from fun x h => hx x (List.mem_of_mem_drop h))
    clear hR hx hln h1
    go_enter Tryz.func55, Tryz.ntmps55
    go_wp2_with (go_at_call 70; (with_reducible refine (weighhouseref01_Reader_has.calls S g B a 0 8 _ _ _ HR.out HH.out).mono ?_); rintro e2 w2 ⟨rfl, hR2, hF2⟩; have HR2 := Aside0.mk hR2; have HF2 := Aside0.mk hF2; clear hR2 hF2)
    go_loopw [3, 4] (fun n i wr => ∃ j : Nat, j ≤ 8 ∧ i = .int .i64 j ∧ n = .int .u64 (numB 0 ((B.drop a).take j) : Int) ∧ Aside0 (Rq wr S g B a 0) ∧ Aside0 (Fr w wr (fun k => k = g))) (fun _ i _ => 8 - (intOf i).toNat)
    case atStart => exact ⟨0, Nat.zero_le _, rfl, rfl, HR2, HF2⟩
    case round =>
      clear HR2 HF2
      obtain ⟨j, hj, rfl, rfl, HRj, HFj⟩ := hrel
      by_cases hlt : j < 8
      · have hjl : a + j < B.length := by omega
        have hjd : j < (B.drop a).length := by rw [List.length_drop]; omega
        obtain ⟨n1, n2, n3, n4⟩ := numB_next (B.drop a) HXD.out j hlt hjd
        have hge : (B.drop a)[j]'hjd = B[a + j]'hjl := List.getElem_drop
        rw [hge] at n1 n2 n3 n4
        obtain ⟨x, hxx⟩ : ∃ x, B[a + j]'hjl = x := ⟨_, rfl⟩
        have HXX := Aside0.mk hxx
        rw [hxx] at n1 n2 n3 n4
        have N0 : (0 : Int) ≤ (numB 0 ((B.drop a).take j) : Int) := by omega
        obtain ⟨N, hN⟩ : ∃ N : Int, (numB 0 ((B.drop a).take j) : Int) = N := ⟨_, rfl⟩
        obtain ⟨N2, hN2⟩ : ∃ N2 : Int, (numB 0 ((B.drop a).take (j + 1)) : Int) = N2 := ⟨_, rfl⟩
        have HN2 := Aside0.mk hN2
        rw [hN] at n1 n2 N0 ⊢
        rw [hN2] at n1
        have HUW := Aside0.mk (u64words N x N2 N0 n1 n2 n3 n4)
        clear hge hxx hN hN2 n1 n2 hjd
        obtain ⟨A, c, hb, hc, _, _, hC, _⟩ := HRj.out
        obtain ⟨ad, e, hc0⟩ := at_intN hC (a + j) hjl
        subst e
        rw [HXX.out] at hc0
        have k0 : wr.drew.cell? ⟨g, 0, none⟩ = some (.slice (some ad) B.length c) := hb.cell 0
        have k1 : wr.drew.cell? ⟨g, 1, none⟩ = some (.int .i64 a) := hb.cell 1
        have k2 : wr.drew.cell? (ad.add (a + j)) = some (.int .u8 x) := hc0
        have HR4 := Aside0.mk (HRj.out.below ((Below.refl _ _).drew))
        have HF4 := Aside0.mk (HFj.out.then_ (Fr.of_below ((Below.refl _ _).drew) (fun k => k = g)) (fun _ h => .inl h))
        have r0 : (0 : Int) ≤ (a : Int) + (j : Int) := by omega
        have r1 : (a : Int) + (j : Int) < (B.length : Int) := by omega
        have r2 : ((a : Int) + (j : Int)).toNat = a + j := by omega
        have hw1 : wrap64 ((a : Int) + (j : Int)) = (a : Int) + (j : Int) := wrapI (by omega) (by omega)
        obtain ⟨u1, u2, u3, u4, u5, u6⟩ := HUW.out
        clear hb hC hc0
        go_wp2
        refine start_ (n := 17) (S := fun w' => w'.cell? ⟨g, 0, none⟩ = some (.slice (some ad) B.length c) ∧ w'.cell? ⟨g, 1, none⟩ = some (.int .i64 a) ∧ w'.cell? (ad.add (a + j)) = some (.int .u8 x)) (ds := []) #[false, false, false, false, false, false, false, false, false, false, false, false, false, false, false, false, false] (by kernel_rfl) rfl rfl ⟨k0, k1, k2⟩ (fun hHeld => ?_)
        generalize wr.drew = wd at HR4 HF4 k0 k1 k2 hHeld ⊢
        refine pure_ (i := 0) (N := some 12) (v := ?_) (a' := ?_) #[true, false, false, false, false, false, false, false, false, false, false, false, false, false, false, false, false] rfl rfl (by kernel_rfl) (fun _ _ _ h => h) (Or.inl ⟨by rfl, ?_⟩) ?_ ?_
        rotate_left
        · intro w'
          go_simp
          with_reducible rfl
        rotate_left
        · simp only [Act.put, List.setIfInBounds_toArray, List.set_cons_zero, List.set_cons_succ, i64_w, i32_w]
          rfl
        refine pure_ (i := 1) (N := some 13) (v := ?_) (a' := ?_) #[true, true, false, false, false, false, false, false, false, false, false, false, false, false, false, false, false] rfl rfl (by kernel_rfl) (fun _ _ _ h => h) (Or.inl ⟨by rfl, ?_⟩) ?_ ?_
        rotate_left
        · intro w'
          go_simp
          with_reducible rfl
        rotate_left
        · simp only [Act.put, List.setIfInBounds_toArray, List.set_cons_zero, List.set_cons_succ, i64_w, i32_w]
          rfl
        refine pure_ (i := 2) (N := some 14) (v := ?_) (a' := ?_) #[true, true, true, false, false, false, false, false, false, false, false, false, false, false, false, false, false] rfl rfl (by kernel_rfl) (fun _ _ _ h => h) (Or.inl ⟨by rfl, ?_⟩) ?_ ?_
        rotate_left
        · intro w'
          go_simp
          with_reducible rfl
        rotate_left
        · simp only [Act.put, List.setIfInBounds_toArray, List.set_cons_zero, List.set_cons_succ, i64_w, i32_w]
          rfl
        refine pure_ (i := 3) (N := some 15) (v := ?_) (a' := ?_) #[true, true, true, true, false, false, false, false, false, false, false, false, false, false, false, false, false] rfl rfl (by kernel_rfl) (fun _ _ _ h => h) (Or.inl ⟨by rfl, ?_⟩) ?_ ?_
        rotate_left
        · intro w'
          go_simp
          with_reducible rfl
        rotate_left
        · simp only [Act.put, List.setIfInBounds_toArray, List.set_cons_zero, List.set_cons_succ, i64_w, i32_w]
          rfl
        refine pure_ (i := 4) (N := some 16) (v := ?_) (a' := ?_) #[true, true, true, true, true, false, false, false, false, false, false, false, false, false, false, false, false] rfl rfl (by kernel_rfl) (fun _ _ _ h => h) (Or.inl ⟨by rfl, ?_⟩) ?_ ?_
        rotate_left
        · intro w'
          go_simp
          with_reducible rfl
        rotate_left
        · simp only [Act.put, List.setIfInBounds_toArray, List.set_cons_zero, List.set_cons_succ, i64_w, i32_w]
          rfl
        refine pure_ (i := 6) (N := some 18) (v := ?_) (a' := ?_) #[true, true, true, true, true, false, true, false, false, false, false, false, false, false, false, false, false] rfl rfl (by kernel_rfl) (fun _ _ _ h => h) (Or.inl ⟨by rfl, ?_⟩) ?_ ?_
        rotate_left
        · intro w'
          go_simp
          with_reducible rfl
        rotate_left
        · simp only [Act.put, List.setIfInBounds_toArray, List.set_cons_zero, List.set_cons_succ, i64_w, i32_w]
          rfl
        refine pure_ (i := 7) (N := some 19) (v := ?_) (a' := ?_) #[true, true, true, true, true, false, true, true, false, false, false, false, false, false, false, false, false] rfl rfl (by kernel_rfl) (fun _ _ _ h => h) (Or.inl ⟨by rfl, ?_⟩) ?_ ?_
        rotate_left
        · intro w'
          go_simp
          with_reducible rfl
        rotate_left
        · simp only [Act.put, List.setIfInBounds_toArray, List.set_cons_zero, List.set_cons_succ, i64_w, i32_w]
          rfl
        refine pure_ (i := 8) (N := some 20) (v := ?_) (a' := ?_) #[true, true, true, true, true, false, true, true, true, false, false, false, false, false, false, false, false] rfl rfl (by kernel_rfl) (fun _ _ _ h => h) (Or.inl ⟨by rfl, ?_⟩) ?_ ?_
        rotate_left
        · intro w'
          go_simp
          with_reducible rfl
        rotate_left
        · simp only [Act.put, List.setIfInBounds_toArray, List.set_cons_zero, List.set_cons_succ, i64_w, i32_w]
          rfl
        refine pure_ (i := 10) (N := some 22) (v := ?_) (a' := ?_) #[true, true, true, true, true, false, true, true, true, false, true, false, false, false, false, false, false] rfl rfl (by kernel_rfl) (fun _ _ _ h => h) (Or.inl ⟨by rfl, ?_⟩) ?_ ?_
        rotate_left
        · intro w'
          go_simp
          with_reducible rfl
        rotate_left
        · simp only [Act.put, List.setIfInBounds_toArray, List.set_cons_zero, List.set_cons_succ, i64_w, i32_w]
          rfl
        refine take_ (i := 5) (N := some 17) (v := ?_) (a' := ?_) #[true, true, true, true, true, true, true, true, true, false, true, false, false, false, false, false, false] rfl rfl (by kernel_rfl) (fun _ _ _ h => h) (Or.inl ⟨by rfl, ?_⟩) hHeld ?_ ?_
        rotate_left
        · rintro w' ⟨s0, s1, s2⟩
          go_simp
          with_reducible rfl
        rotate_left
        · simp only [Act.put, List.setIfInBounds_toArray, List.set_cons_zero, List.set_cons_succ, i64_w, i32_w]
          rfl
        refine take_ (i := 9) (N := some 21) (v := ?_) (a' := ?_) #[true, true, true, true, true, true, true, true, true, true, true, false, false, false, false, false, false] rfl rfl (by kernel_rfl) (fun _ _ _ h => h) (Or.inl ⟨by rfl, ?_⟩) hHeld ?_ ?_
        rotate_left
        · rintro w' ⟨s0, s1, s2⟩
          go_simp
          with_reducible rfl
        rotate_left
        · simp only [Act.put, List.setIfInBounds_toArray, List.set_cons_zero, List.set_cons_succ, i64_w, i32_w]
          rfl
        refine pure_ (i := 11) (N := some 23) (v := ?_) (a' := ?_) #[true, true, true, true, true, true, true, true, true, true, true, true, false, false, false, false, false] rfl rfl (by kernel_rfl) (fun _ _ _ h => h) (Or.inl ⟨by rfl, ?_⟩) ?_ ?_
        rotate_left
        · intro w'
          go_simp
          with_reducible rfl
        rotate_left
        · simp only [Act.put, List.setIfInBounds_toArray, List.set_cons_zero, List.set_cons_succ, i64_w, i32_w]
          rfl
        refine pure_ (i := 12) (N := some 24) (v := ?_) (a' := ?_) #[true, true, true, true, true, true, true, true, true, true, true, true, true, false, false, false, false] rfl rfl (by kernel_rfl) (fun _ _ _ h => h) (Or.inl ⟨by rfl, ?_⟩) ?_ ?_
        rotate_left
        · intro w'
          go_simp
          with_reducible rfl
        rotate_left
        · simp only [Act.put, List.setIfInBounds_toArray, List.set_cons_zero, List.set_cons_succ, i64_w, i32_w]
          rfl
        refine take_ (i := 13) (N := some 25) (v := ?_) (a' := ?_) #[true, true, true, true, true, true, true, true, true, true, true, true, true, true, false, false, false] rfl rfl (by kernel_rfl) (fun _ _ _ h => h) (Or.inl ⟨by rfl, ?_⟩) hHeld ?_ ?_
        rotate_left
        · rintro w' ⟨s0, s1, s2⟩
          go_simp
          with_reducible rfl
        rotate_left
        · simp only [Act.put, List.setIfInBounds_toArray, List.set_cons_zero, List.set_cons_succ, i64_w, i32_w]
          rfl
        refine pure_ (i := 14) (N := some 26) (v := ?_) (a' := ?_) #[true, true, true, true, true, true, true, true, true, true, true, true, true, true, true, false, false] rfl rfl (by kernel_rfl) (fun _ _ _ h => h) (Or.inl ⟨by rfl, ?_⟩) ?_ ?_
        rotate_left
        · intro w'
          go_simp
          with_reducible rfl
        rotate_left
        · simp only [Act.put, List.setIfInBounds_toArray, List.set_cons_zero, List.set_cons_succ, i64_w, i32_w]
          rfl
        refine pure_ (i := 15) (N := some 27) (v := ?_) (a' := ?_) #[true, true, true, true, true, true, true, true, true, true, true, true, true, true, true, true, false] rfl rfl (by kernel_rfl) (fun _ _ _ h => h) (Or.inl ⟨by rfl, ?_⟩) ?_ ?_
        rotate_left
        · intro w'
          go_simp
          with_reducible rfl
        rotate_left
        · simp only [Act.put, List.setIfInBounds_toArray, List.set_cons_zero, List.set_cons_succ, i64_w, i32_w]
          rfl
        refine pure_ (i := 16) (N := some 3) (v := ?_) (a' := ?_) #[true, true, true, true, true, true, true, true, true, true, true, true, true, true, true, true, true] rfl rfl (by kernel_rfl) (fun _ _ _ h => h) (Or.inl ⟨by rfl, ?_⟩) ?_ ?_
        rotate_left
        · intro w'
          go_simp
          with_reducible rfl
        rotate_left
        · simp only [Act.put, List.setIfInBounds_toArray, List.set_cons_zero, List.set_cons_succ, i64_w, i32_w]
          rfl
        refine done_ (by kernel_rfl) ?_
        clear hHeld k0 k1 k2 hw1 u1 u2 u3 u4 u5 u6 r2
        go_wp2
        go_roundw
        case rel => exact ⟨j + 1, by omega, by go_num, by rw [HN2.out], HR4, HF4⟩
        case measure => simp [intOf]; omega
      · obtain rfl : j = 8 := by omega
        obtain ⟨N, hN⟩ : ∃ N : Int, (numB 0 ((B.drop a).take 8) : Int) = N := ⟨_, rfl⟩
        have HN := Aside0.mk hN
        rw [hN]
        clear hN
        obtain ⟨A, c, hb, _⟩ := HRj.out
        have k1 : wr.cell? ⟨g, 1, none⟩ = some (.int .i64 a) := hb.cell 1
        have f1 : wr.frozen? ⟨g, 1, none⟩ = false := hb.frozen 1
        clear hb
        go_wp2
        go_ret
        have h8 : (a : Int) + 8 = ((a + 8 : Nat) : Int) := by omega
        rw [h8, HN.out]
        exact ⟨rfl, ⟨a + 8, HRj.out.set_at hal, by rw [List.drop_drop]⟩, HFj.out.then_ (Fr.set_ wr g 1 _) (fun _ h => .inl h)⟩


end Go.Proofs.YtblaibigjhlblaaGreatDoor.Q
end

section
-- written by hprint.py (a program of these sessions) out of the translation; Lean checks it
namespace Go.Proofs.YtblaibigjhlblaaGreatDoor.Q
open Go.RowKit Go.Proofs.YtblaibigjhlblaaGreatDoorW.Hb Go.Proofs.YtblaibigjhlblaaGreatDoorW.PrintWords Go.Proofs.YtblaibigjhlblaaGreatDoorW.PrintLast Go.Proofs.YtblaibigjhlblaaGreatDoorW.PrintMore
attribute [local go_sem] max2_int min2_int max_two min_two max_three min_three max_four min_four   -- for this text's walks alone
set_option linter.unusedVariables false
set_option linter.unusedSimpArgs false

/-! ### weighhouseref01_Reader_Done: function 33, by hand -/
set_option maxRecDepth 100000 in
theorem weighhouseref01_Reader_Done.calls (S : Nat → Prop) (g : Nat) (B : List Int) (a : Nat) (ev : Int) (w : World) (hR : Rq w S g B a ev) :
    Calls Tryz.prog 33 #[.pointer (some ⟨g, 0, none⟩)] w fun e w' => e = .returned (.int .i64 (rDone (B.drop a) ev)) ∧ Below w.heap.size w w' := by
  have HR := Aside0.mk hR
  obtain ⟨A, c, hb, _⟩ := hR
  have HB := Aside0.mk hb
  have k2 : w.cell? ⟨g, 2, none⟩ = some (.int .i64 ev) := hb.cell 2
  clear hb
  by_cases he : ev ≠ 0
  · have HS := Aside0.mk (show rDone (B.drop a) ev = ev from if_pos he)
    have d1 : (ev == 0) = false := by simp [he]
    clear he
    go_enter Tryz.func33, Tryz.ntmps33
    go_wp2
    go_ret
    rw [HS.out]
    exact ⟨rfl, Below.refl _ _⟩
  · obtain rfl : ev = 0 := by omega
    obtain ⟨ln, hln⟩ : ∃ ln : Int, ((B.drop a).length : Int) = ln := ⟨_, rfl⟩
    have HLN := Aside0.mk hln
    by_cases h1 : 0 < (B.drop a).length
    · have HS := Aside0.mk (show rDone (B.drop a) 0 = 21 by unfold rDone; rw [if_neg (by decide), if_pos h1])
      have d1 : decide (0 < ln) = true := decide_eq_true (by omega)
      clear he h1 hln
      go_enter Tryz.func33, Tryz.ntmps33
      go_wp2_with (go_at_call 57; (with_reducible refine (weighhouseref01_Reader_Left.calls S g B a 0 _ HR.out).mono ?_); rintro e2 w2 ⟨rfl, hB2⟩; rw [HLN.out]; have k3 : w2.cell? ⟨g, 2, none⟩ = some (.int .i64 0) := (HB.out.after hB2).cell 2; have HB2 := Aside0.mk hB2; clear hB2)
      go_ret
      rw [HS.out]
      exact ⟨rfl, HB2.out⟩
    · have HS := Aside0.mk (show rDone (B.drop a) 0 = 0 by unfold rDone; rw [if_neg (by decide), if_neg h1])
      have d1 : decide (0 < ln) = false := decide_eq_false (by omega)
      clear he h1 hln
      go_enter Tryz.func33, Tryz.ntmps33
      go_wp2_with (go_at_call 57; (with_reducible refine (weighhouseref01_Reader_Left.calls S g B a 0 _ HR.out).mono ?_); rintro e2 w2 ⟨rfl, hB2⟩; rw [HLN.out]; have k3 : w2.cell? ⟨g, 2, none⟩ = some (.int .i64 0) := (HB.out.after hB2).cell 2; have HB2 := Aside0.mk hB2; clear hB2)
      go_ret
      rw [HS.out]
      exact ⟨rfl, HB2.out⟩


end Go.Proofs.YtblaibigjhlblaaGreatDoor.Q
end

section
-- written by hprint.py (a program of these sessions) out of the translation; Lean checks it
namespace Go.Proofs.YtblaibigjhlblaaGreatDoor.Q
open Go.RowKit Go.Proofs.YtblaibigjhlblaaGreatDoorW.Hb Go.Proofs.YtblaibigjhlblaaGreatDoorW.PrintWords Go.Proofs.YtblaibigjhlblaaGreatDoorW.PrintLast Go.Proofs.YtblaibigjhlblaaGreatDoorW.PrintMore
attribute [local go_sem] max2_int min2_int max_two min_two max_three min_three max_four min_four   -- for this text's walks alone
set_option linter.unusedVariables false
set_option linter.unusedSimpArgs false

/-! ### weighhouseref01_Reader_Text: function 56, by hand -/
def weighhouseref01_Reader_Text.T3 : Bool × List (List Nat × List Nat) := (true, [([], []), ([0], [0]), ([1], [1]), ([2], [2]), ([], []), ([4], [4]), ([5], [5]), ([6], [6]), ([3, 7], [3, 7]), ([8], [8]), ([9], [9]), ([10], [10]), ([], []), ([12], [12]), ([13], [13]), ([14], [14]), ([], []), ([16], [16]), ([17], [17]), ([18], [18]), ([19], [19]), ([15, 20], [15, 20]), ([21], [21]), ([22], [22]), ([11, 23], [11, 23]), ([24, 0, 1, 2, 3, 4, 5, 6, 7, 8, 9, 10, 11, 12, 13, 14, 15, 16, 17, 18, 19, 20, 21, 22, 23, 24], [24])])
def weighhouseref01_Reader_Text.B3 : List Nat := [0, 1, 3, 7, 0, 16, 48, 112, 255, 511, 1023, 2047, 0, 4096, 12288, 28672, 0, 65536, 196608, 458752, 983040, 2093056, 4190208, 8384512, 16777215, 33554431]
theorem weighhouseref01_Reader_Text.tab3 : rtab .any (opsOf Tryz.f56 3) = weighhouseref01_Reader_Text.T3 := by kernel_rfl
theorem weighhouseref01_Reader_Text.bits3 : waitsOk weighhouseref01_Reader_Text.T3.2 weighhouseref01_Reader_Text.B3 = true := by kernel_rfl
theorem refWords (a p q n : Nat) (ha : a ≤ 140737488355328) (hp : (p : Int) ≤ 255) (hq : (q : Int) ≤ 255) (hn : n = ((p : Int) * 256 + (q : Int)).toNat) : wrap64 (p : Int) = (p : Int) ∧ wrap64 (256 * (p : Int)) = 256 * (p : Int) ∧ wrap64 (q : Int) = (q : Int) ∧ wrap64 (256 * (p : Int) + (q : Int)) = (n : Int) ∧ wrap64 ((a : Int) + 1) = (a : Int) + 1 := by
  refine ⟨wrapI (by omega) (by omega), wrapI (by omega) (by omega), wrapI (by omega) (by omega), ?_, wrapI (by omega) (by omega)⟩
  rw [wrapI (by omega) (by omega)]
  omega
theorem cutb_ex {P : Program} (t e : TypeId) {i : TypeInfo} (ht : P.underlying t = some (.slice e)) (hi : P.info? e = some i) (hsz : i.size = 1) (A : Option Addr) (c : Nat) (xs : List Int) (lo hi' : Int) (h0 : 0 ≤ lo) (h1 : lo ≤ hi') (h2 : hi' ≤ xs.length) (hc : xs.length ≤ c) (ys : List Int) (hys : ys = (xs.take hi'.toNat).drop lo.toNat) :
    ∃ A' c', (∀ W : World, (Instr.slice t (.slice A xs.length c) (some (.int .i64 lo)) (some (.int .i64 hi')) none).run P W = .ok (.slice A' ys.length c') W) ∧ ys.length ≤ c' ∧ ∀ (w : World) (k : IntKind), (Kd.int k).C w A xs.length xs → (Kd.int k).C w A' ys.length ys := by
  subst hys
  have hl : ((xs.take hi'.toNat).drop lo.toNat).length = hi'.toNat - lo.toNat := by simp; omega
  refine ⟨(if c = lo.toNat then A else A.map (·.add (lo.toNat * 1))), c - lo.toNat, fun W => ?_, by rw [hl]; omega, fun w k h => ?_⟩
  · rw [hl]
    exact cut_mid t e .i64 .i64 ht hi 1 hsz A xs.length c lo hi' h0 h1 h2 hc W
  · exact Kd.C_mid h (by omega) (by omega) hc
set_option maxRecDepth 100000 in
set_option maxHeartbeats 2000000 in
theorem weighhouseref01_Reader_Text.calls (S : Nat → Prop) (g : Nat) (B : List Int) (a : Nat) (ev : Int) (w : World) (hR : Rq w S g B a ev) :
    Calls Tryz.prog 56 #[.pointer (some ⟨g, 0, none⟩)] w fun e w' => e = .returned (.string (rText (B.drop a) ev).1) ∧ (∃ a', Rq w' S g B a' (rText (B.drop a) ev).2.2 ∧ B.drop a' = (rText (B.drop a) ev).2.1) ∧ Fr w w' (fun k => k = g) := by
  have HR := Aside0.mk hR
  by_cases he : ev = 0
  rotate_left
  · have HH := Aside0.mk (hasS_err (l := (B.drop a).length) (n := 2) he)
    rw [rText_err he]
    clear hR he
    go_enter Tryz.func56, Tryz.ntmps56
    go_wp2_with (go_at_call 70; (with_reducible refine (weighhouseref01_Reader_has.calls S g B a ev 2 _ _ _ HR.out HH.out).mono ?_); rintro e2 w2 ⟨rfl, hR2, hF2⟩; have HR2 := Aside0.mk hR2; have HF2 := Aside0.mk hF2; clear hR2 hF2)
    go_ret
    exact ⟨rfl, ⟨a, HR2.out, rfl⟩, HF2.out⟩
  subst he
  by_cases h1 : (B.drop a).length < 2
  · have HH := Aside0.mk (hasS_end (l := (B.drop a).length) (n := 2) (by omega))
    rw [rText_end h1]
    clear hR h1
    go_enter Tryz.func56, Tryz.ntmps56
    go_wp2_with (go_at_call 70; (with_reducible refine (weighhouseref01_Reader_has.calls S g B a 0 2 _ _ _ HR.out HH.out).mono ?_); rintro e2 w2 ⟨rfl, hR2, hF2⟩; have HR2 := Aside0.mk hR2; have HF2 := Aside0.mk hF2; clear hR2 hF2)
    go_ret
    exact ⟨rfl, ⟨a, HR2.out, rfl⟩, HF2.out⟩
  have HH := Aside0.mk (hasS_ok (l := (B.drop a).length) (n := 2) (by omega))
  obtain ⟨hx, ha, hl⟩ := Rq.info hR
  have hln : (B.drop a).length = B.length - a := List.length_drop
  obtain ⟨n, hn⟩ : ∃ n, tlen (B.drop a) = n := ⟨_, rfl⟩
  have hal0 : a < B.length := by omega
  have hal : a + 1 < B.length := by omega
  have hp0 := hx _ (List.getElem_mem hal0)
  have hp1 := hx _ (List.getElem_mem hal)
  have hn' : n = (rd B ((a : Nat) : Int) * 256 + rd B ((a + 1 : Nat) : Int)).toNat := by rw [← hn]; unfold tlen; rw [drop_rd, drop_rd]; rfl
  rw [rdN B a hal0, rdN B (a + 1) hal] at hn'
  have HE2 := Aside0.mk (show (B.drop a).length < 2 + n → rText (B.drop a) 0 = (ByteArray.empty, B.drop a, 20) from fun h => rText_end2 h1 (by rw [hn]; exact h))
  have HE3 := Aside0.mk (show ¬ (B.drop a).length < 2 + n → rText (B.drop a) 0 = (strOfNums (((B.drop a).drop 2).take n), (B.drop a).drop (2 + n), 0) from fun h => by have := rText_ok h1 (by rw [hn]; exact h); rwa [hn] at this)
  obtain ⟨p, hp⟩ : ∃ p, B[a]'hal0 = p := ⟨_, rfl⟩
  obtain ⟨q, hq⟩ : ∃ q, B[a + 1]'hal = q := ⟨_, rfl⟩
  rw [hp] at hp0 hn'
  rw [hq] at hp1 hn'
  have HP := Aside0.mk hp
  have HQ := Aside0.mk hq
  obtain ⟨p0, p1⟩ := hp0
  obtain ⟨q0, q1⟩ := hp1
  obtain ⟨p, hpp⟩ := Int.eq_ofNat_of_zero_le p0
  obtain ⟨q, hqq⟩ := Int.eq_ofNat_of_zero_le q0
  subst hpp
  subst hqq
  have HL := Aside0.mk hln
  have HN := Aside0.mk hn'
  have hnb : n ≤ 65535 := by omega
  clear hR hx hln hn hp hq hn' h1
  go_enter Tryz.func56, Tryz.ntmps56
  go_upto_region 3 with (go_at_call 70; (with_reducible refine (weighhouseref01_Reader_has.calls S g B a 0 2 _ _ _ HR.out HH.out).mono ?_); rintro e2 w1 ⟨rfl, hR2, hF2⟩; have HR2 := Aside0.mk hR2; have HF2 := Aside0.mk hF2; clear hR2 hF2)
  obtain ⟨A1, c1, hb1, hcc1, _, _, hC1, _⟩ := HR2.out
  obtain ⟨ad, e, hc0⟩ := at_intN hC1 a hal0
  subst e
  obtain ⟨ad', e, hc1⟩ := at_intN hC1 (a + 1) hal
  cases e
  rw [HP.out] at hc0
  rw [HQ.out] at hc1
  have k0 : w1.drew.cell? ⟨g, 0, none⟩ = some (.slice (some ad) B.length c1) := hb1.cell 0
  have k1 : w1.drew.cell? ⟨g, 1, none⟩ = some (.int .i64 a) := hb1.cell 1
  have k2 : w1.drew.cell? (ad.add a) = some (.int .u8 p) := hc0
  have k3 : w1.drew.cell? (ad.add (a + 1)) = some (.int .u8 q) := hc1
  have HRd := Aside0.mk (HR2.out.below ((Below.refl _ _).drew))
  have HFd := Aside0.mk (HF2.out.then_ (Fr.of_below ((Below.refl _ _).drew) (fun k => k = g)) (fun _ h => .inl h))
  have r0 : (0 : Int) ≤ (a : Int) + 1 := by omega
  have r1 : (a : Int) + 1 < (B.length : Int) := by omega
  have e1 : ad.add (a + 1) = ⟨ad.block, ad.off + (a + 1), none⟩ := by simp [Addr.add]
  rw [e1] at k3
  clear e1
  obtain ⟨hw1, hw2, hw3, hw4, hw5⟩ := refWords a p q n (by omega) p1 q1 HN.out
  clear hb1 hC1 hc0 hc1 HR2 HF2
  refine start_ (n := 26) (S := fun w' => w'.cell? ⟨g, 0, none⟩ = some (.slice (some ad) B.length c1) ∧ w'.cell? ⟨g, 1, none⟩ = some (.int .i64 a) ∧ w'.cell? (ad.add a) = some (.int .u8 p) ∧ w'.cell? ⟨ad.block, ad.off + (a + 1), none⟩ = some (.int .u8 q)) (ds := []) #[false, false, false, false, false, false, false, false, false, false, false, false, false, false, false, false, false, false, false, false, false, false, false, false, false, false] (by kernel_rfl) rfl rfl ⟨k0, k1, k2, k3⟩ (fun hHeld => ?_); refine with_tabW weighhouseref01_Reader_Text.tab3 weighhouseref01_Reader_Text.bits3 (fun HT_ HW_ => ?_)
  generalize w1.drew = wd at HRd HFd k0 k1 k2 k3 hHeld ⊢
  refine pure_ (i := 0) (N := some 7) (v := ?_) (a' := ?_) #[true, false, false, false, false, false, false, false, false, false, false, false, false, false, false, false, false, false, false, false, false, false, false, false, false, false] rfl rfl (any_of HT_.out (by kernel_rfl)) (fun _ _ _ h => h) (Or.inl ⟨by rfl, ?_⟩) ?_ ?_
  rotate_left
  · intro w'
    go_simp
    with_reducible rfl
  rotate_left
  · simp only [Act.put, List.setIfInBounds_toArray, List.set_cons_zero, List.set_cons_succ, i64_w, i32_w]
    rfl
  refine pure_ (i := 1) (N := some 8) (v := ?_) (a' := ?_) #[true, true, false, false, false, false, false, false, false, false, false, false, false, false, false, false, false, false, false, false, false, false, false, false, false, false] rfl rfl (any_of HT_.out (by kernel_rfl)) (fun _ _ _ h => h) (Or.inl ⟨by rfl, ?_⟩) ?_ ?_
  rotate_left
  · intro w'
    go_simp
    with_reducible rfl
  rotate_left
  · simp only [Act.put, List.setIfInBounds_toArray, List.set_cons_zero, List.set_cons_succ, i64_w, i32_w]
    rfl
  refine pure_ (i := 2) (N := some 9) (v := ?_) (a' := ?_) #[true, true, true, false, false, false, false, false, false, false, false, false, false, false, false, false, false, false, false, false, false, false, false, false, false, false] rfl rfl (any_of HT_.out (by kernel_rfl)) (fun _ _ _ h => h) (Or.inl ⟨by rfl, ?_⟩) ?_ ?_
  rotate_left
  · intro w'
    go_simp
    with_reducible rfl
  rotate_left
  · simp only [Act.put, List.setIfInBounds_toArray, List.set_cons_zero, List.set_cons_succ, i64_w, i32_w]
    rfl
  refine pure_ (i := 4) (N := some 11) (v := ?_) (a' := ?_) #[true, true, true, false, true, false, false, false, false, false, false, false, false, false, false, false, false, false, false, false, false, false, false, false, false, false] rfl rfl (any_of HT_.out (by kernel_rfl)) (fun _ _ _ h => h) (Or.inl ⟨by rfl, ?_⟩) ?_ ?_
  rotate_left
  · intro w'
    go_simp
    with_reducible rfl
  rotate_left
  · simp only [Act.put, List.setIfInBounds_toArray, List.set_cons_zero, List.set_cons_succ, i64_w, i32_w]
    rfl
  refine pure_ (i := 5) (N := some 12) (v := ?_) (a' := ?_) #[true, true, true, false, true, true, false, false, false, false, false, false, false, false, false, false, false, false, false, false, false, false, false, false, false, false] rfl rfl (any_of HT_.out (by kernel_rfl)) (fun _ _ _ h => h) (Or.inl ⟨by rfl, ?_⟩) ?_ ?_
  rotate_left
  · intro w'
    go_simp
    with_reducible rfl
  rotate_left
  · simp only [Act.put, List.setIfInBounds_toArray, List.set_cons_zero, List.set_cons_succ, i64_w, i32_w]
    rfl
  refine pure_ (i := 6) (N := some 13) (v := ?_) (a' := ?_) #[true, true, true, false, true, true, true, false, false, false, false, false, false, false, false, false, false, false, false, false, false, false, false, false, false, false] rfl rfl (any_of HT_.out (by kernel_rfl)) (fun _ _ _ h => h) (Or.inl ⟨by rfl, ?_⟩) ?_ ?_
  rotate_left
  · intro w'
    go_simp
    with_reducible rfl
  rotate_left
  · simp only [Act.put, List.setIfInBounds_toArray, List.set_cons_zero, List.set_cons_succ, i64_w, i32_w]
    rfl
  refine pure_ (i := 12) (N := some 19) (v := ?_) (a' := ?_) #[true, true, true, false, true, true, true, false, false, false, false, false, true, false, false, false, false, false, false, false, false, false, false, false, false, false] rfl rfl (any_of HT_.out (by kernel_rfl)) (fun _ _ _ h => h) (Or.inl ⟨by rfl, ?_⟩) ?_ ?_
  rotate_left
  · intro w'
    go_simp
    with_reducible rfl
  rotate_left
  · simp only [Act.put, List.setIfInBounds_toArray, List.set_cons_zero, List.set_cons_succ, i64_w, i32_w]
    rfl
  refine pure_ (i := 13) (N := some 20) (v := ?_) (a' := ?_) #[true, true, true, false, true, true, true, false, false, false, false, false, true, true, false, false, false, false, false, false, false, false, false, false, false, false] rfl rfl (any_of HT_.out (by kernel_rfl)) (fun _ _ _ h => h) (Or.inl ⟨by rfl, ?_⟩) ?_ ?_
  rotate_left
  · intro w'
    go_simp
    with_reducible rfl
  rotate_left
  · simp only [Act.put, List.setIfInBounds_toArray, List.set_cons_zero, List.set_cons_succ, i64_w, i32_w]
    rfl
  refine pure_ (i := 14) (N := some 21) (v := ?_) (a' := ?_) #[true, true, true, false, true, true, true, false, false, false, false, false, true, true, true, false, false, false, false, false, false, false, false, false, false, false] rfl rfl (any_of HT_.out (by kernel_rfl)) (fun _ _ _ h => h) (Or.inl ⟨by rfl, ?_⟩) ?_ ?_
  rotate_left
  · intro w'
    go_simp
    with_reducible rfl
  rotate_left
  · simp only [Act.put, List.setIfInBounds_toArray, List.set_cons_zero, List.set_cons_succ, i64_w, i32_w]
    rfl
  refine pure_ (i := 16) (N := some 23) (v := ?_) (a' := ?_) #[true, true, true, false, true, true, true, false, false, false, false, false, true, true, true, false, true, false, false, false, false, false, false, false, false, false] rfl rfl (any_of HT_.out (by kernel_rfl)) (fun _ _ _ h => h) (Or.inl ⟨by rfl, ?_⟩) ?_ ?_
  rotate_left
  · intro w'
    go_simp
    with_reducible rfl
  rotate_left
  · simp only [Act.put, List.setIfInBounds_toArray, List.set_cons_zero, List.set_cons_succ, i64_w, i32_w]
    rfl
  refine pure_ (i := 17) (N := some 24) (v := ?_) (a' := ?_) #[true, true, true, false, true, true, true, false, false, false, false, false, true, true, true, false, true, true, false, false, false, false, false, false, false, false] rfl rfl (any_of HT_.out (by kernel_rfl)) (fun _ _ _ h => h) (Or.inl ⟨by rfl, ?_⟩) ?_ ?_
  rotate_left
  · intro w'
    go_simp
    with_reducible rfl
  rotate_left
  · simp only [Act.put, List.setIfInBounds_toArray, List.set_cons_zero, List.set_cons_succ, i64_w, i32_w]
    rfl
  refine pure_ (i := 18) (N := some 25) (v := ?_) (a' := ?_) #[true, true, true, false, true, true, true, false, false, false, false, false, true, true, true, false, true, true, true, false, false, false, false, false, false, false] rfl rfl (any_of HT_.out (by kernel_rfl)) (fun _ _ _ h => h) (Or.inl ⟨by rfl, ?_⟩) ?_ ?_
  rotate_left
  · intro w'
    go_simp
    with_reducible rfl
  rotate_left
  · simp only [Act.put, List.setIfInBounds_toArray, List.set_cons_zero, List.set_cons_succ, i64_w, i32_w]
    rfl
  refine take_ (i := 3) (N := some 10) (v := ?_) (a' := ?_) #[true, true, true, true, true, true, true, false, false, false, false, false, true, true, true, false, true, true, true, false, false, false, false, false, false, false] rfl rfl (take_ofW HT_.out HW_.out (by kernel_rfl)) (fun _ _ _ h => h) (Or.inl ⟨by rfl, ?_⟩) hHeld ?_ ?_
  rotate_left
  · rintro w' ⟨s0, s1, s2, s3⟩
    go_simp
    with_reducible rfl
  rotate_left
  · simp only [Act.put, List.setIfInBounds_toArray, List.set_cons_zero, List.set_cons_succ, i64_w, i32_w]
    rfl
  refine take_ (i := 7) (N := some 14) (v := ?_) (a' := ?_) #[true, true, true, true, true, true, true, true, false, false, false, false, true, true, true, false, true, true, true, false, false, false, false, false, false, false] rfl rfl (take_ofW HT_.out HW_.out (by kernel_rfl)) (fun _ _ _ h => h) (Or.inl ⟨by rfl, ?_⟩) hHeld ?_ ?_
  rotate_left
  · rintro w' ⟨s0, s1, s2, s3⟩
    go_simp
    with_reducible rfl
  rotate_left
  · simp only [Act.put, List.setIfInBounds_toArray, List.set_cons_zero, List.set_cons_succ, i64_w, i32_w]
    rfl
  refine pure_ (i := 8) (N := some 15) (v := ?_) (a' := ?_) #[true, true, true, true, true, true, true, true, true, false, false, false, true, true, true, false, true, true, true, false, false, false, false, false, false, false] rfl rfl (any_of HT_.out (by kernel_rfl)) (fun _ _ _ h => h) (Or.inl ⟨by rfl, ?_⟩) ?_ ?_
  rotate_left
  · intro w'
    go_simp
    with_reducible rfl
  rotate_left
  · simp only [Act.put, List.setIfInBounds_toArray, List.set_cons_zero, List.set_cons_succ, i64_w, i32_w]
    rfl
  refine take_ (i := 9) (N := some 16) (v := ?_) (a' := ?_) #[true, true, true, true, true, true, true, true, true, true, false, false, true, true, true, false, true, true, true, false, false, false, false, false, false, false] rfl rfl (take_ofW HT_.out HW_.out (by kernel_rfl)) (fun _ _ _ h => h) (Or.inl ⟨by rfl, ?_⟩) hHeld ?_ ?_
  rotate_left
  · rintro w' ⟨s0, s1, s2, s3⟩
    go_simp
    with_reducible rfl
  rotate_left
  · simp only [Act.put, List.setIfInBounds_toArray, List.set_cons_zero, List.set_cons_succ, i64_w, i32_w]
    rfl
  refine pure_ (i := 10) (N := some 17) (v := ?_) (a' := ?_) #[true, true, true, true, true, true, true, true, true, true, true, false, true, true, true, false, true, true, true, false, false, false, false, false, false, false] rfl rfl (any_of HT_.out (by kernel_rfl)) (fun _ _ _ h => h) (Or.inl ⟨by rfl, ?_⟩) ?_ ?_
  rotate_left
  · intro w'
    go_simp
    with_reducible rfl
  rotate_left
  · simp only [Act.put, List.setIfInBounds_toArray, List.set_cons_zero, List.set_cons_succ, i64_w, i32_w]
    rfl
  refine pure_ (i := 11) (N := some 18) (v := ?_) (a' := ?_) #[true, true, true, true, true, true, true, true, true, true, true, true, true, true, true, false, true, true, true, false, false, false, false, false, false, false] rfl rfl (any_of HT_.out (by kernel_rfl)) (fun _ _ _ h => h) (Or.inl ⟨by rfl, ?_⟩) ?_ ?_
  rotate_left
  · intro w'
    go_simp
    with_reducible rfl
  rotate_left
  · simp only [Act.put, List.setIfInBounds_toArray, List.set_cons_zero, List.set_cons_succ, i64_w, i32_w]
    rfl
  refine take_ (i := 15) (N := some 22) (v := ?_) (a' := ?_) #[true, true, true, true, true, true, true, true, true, true, true, true, true, true, true, true, true, true, true, false, false, false, false, false, false, false] rfl rfl (take_ofW HT_.out HW_.out (by kernel_rfl)) (fun _ _ _ h => h) (Or.inl ⟨by rfl, ?_⟩) hHeld ?_ ?_
  rotate_left
  · rintro w' ⟨s0, s1, s2, s3⟩
    go_simp
    with_reducible rfl
  rotate_left
  · simp only [Act.put, List.setIfInBounds_toArray, List.set_cons_zero, List.set_cons_succ, i64_w, i32_w]
    rfl
  refine take_ (i := 19) (N := some 26) (v := ?_) (a' := ?_) #[true, true, true, true, true, true, true, true, true, true, true, true, true, true, true, true, true, true, true, true, false, false, false, false, false, false] rfl rfl (take_ofW HT_.out HW_.out (by kernel_rfl)) (fun _ _ _ h => h) (Or.inl ⟨by rfl, ?_⟩) hHeld ?_ ?_
  rotate_left
  · rintro w' ⟨s0, s1, s2, s3⟩
    go_simp
    with_reducible rfl
  rotate_left
  · simp only [Act.put, List.setIfInBounds_toArray, List.set_cons_zero, List.set_cons_succ, i64_w, i32_w]
    rfl
  refine pure_ (i := 20) (N := some 27) (v := ?_) (a' := ?_) #[true, true, true, true, true, true, true, true, true, true, true, true, true, true, true, true, true, true, true, true, true, false, false, false, false, false] rfl rfl (any_of HT_.out (by kernel_rfl)) (fun _ _ _ h => h) (Or.inl ⟨by rfl, ?_⟩) ?_ ?_
  rotate_left
  · intro w'
    go_simp
    with_reducible rfl
  rotate_left
  · simp only [Act.put, List.setIfInBounds_toArray, List.set_cons_zero, List.set_cons_succ, i64_w, i32_w]
    rfl
  refine pure_ (i := 21) (N := some 28) (v := ?_) (a' := ?_) #[true, true, true, true, true, true, true, true, true, true, true, true, true, true, true, true, true, true, true, true, true, true, false, false, false, false] rfl rfl (any_of HT_.out (by kernel_rfl)) (fun _ _ _ h => h) (Or.inl ⟨by rfl, ?_⟩) ?_ ?_
  rotate_left
  · intro w'
    go_simp
    with_reducible rfl
  rotate_left
  · simp only [Act.put, List.setIfInBounds_toArray, List.set_cons_zero, List.set_cons_succ, i64_w, i32_w]
    rfl
  refine take_ (i := 22) (N := some 29) (v := ?_) (a' := ?_) #[true, true, true, true, true, true, true, true, true, true, true, true, true, true, true, true, true, true, true, true, true, true, true, false, false, false] rfl rfl (take_ofW HT_.out HW_.out (by kernel_rfl)) (fun _ _ _ h => h) (Or.inl ⟨by rfl, ?_⟩) hHeld ?_ ?_
  rotate_left
  · rintro w' ⟨s0, s1, s2, s3⟩
    go_simp
    with_reducible rfl
  rotate_left
  · simp only [Act.put, List.setIfInBounds_toArray, List.set_cons_zero, List.set_cons_succ, i64_w, i32_w]
    rfl
  refine pure_ (i := 23) (N := some 30) (v := ?_) (a' := ?_) #[true, true, true, true, true, true, true, true, true, true, true, true, true, true, true, true, true, true, true, true, true, true, true, true, false, false] rfl rfl (any_of HT_.out (by kernel_rfl)) (fun _ _ _ h => h) (Or.inl ⟨by rfl, ?_⟩) ?_ ?_
  rotate_left
  · intro w'
    go_simp
    with_reducible rfl
  rotate_left
  · simp only [Act.put, List.setIfInBounds_toArray, List.set_cons_zero, List.set_cons_succ, i64_w, i32_w]
    rfl
  refine pure_ (i := 24) (N := some 31) (v := ?_) (a' := ?_) #[true, true, true, true, true, true, true, true, true, true, true, true, true, true, true, true, true, true, true, true, true, true, true, true, true, false] rfl rfl (any_of HT_.out (by kernel_rfl)) (fun _ _ _ h => h) (Or.inl ⟨by rfl, ?_⟩) ?_ ?_
  rotate_left
  · intro w'
    go_simp
    with_reducible rfl
  rotate_left
  · simp only [Act.put, List.setIfInBounds_toArray, List.set_cons_zero, List.set_cons_succ, i64_w, i32_w]
    rfl
  refine pure_ (i := 25) (N := some 3) (v := ?_) (a' := ?_) #[true, true, true, true, true, true, true, true, true, true, true, true, true, true, true, true, true, true, true, true, true, true, true, true, true, true] rfl rfl (any_of HT_.out (by kernel_rfl)) (fun _ _ _ h => h) (Or.inl ⟨by rfl, ?_⟩) ?_ ?_
  rotate_left
  · intro w'
    go_simp
    with_reducible rfl
  rotate_left
  · simp only [Act.put, List.setIfInBounds_toArray, List.set_cons_zero, List.set_cons_succ, i64_w, i32_w]
    rfl
  refine done_ (done_of HT_.out (by kernel_rfl)) ?_
  clear hHeld k0 k1 k2 k3 hw1 hw2 hw3 hw4 hw5
  by_cases h3 : (B.drop a).length < 2 + n
  · have HS := Aside0.mk (HE2.out h3)
    have HH3 := Aside0.mk (hasS_end (l := (B.drop a).length) (n := 2 + (n : Int)) (by omega))
    clear h3
    go_wp2_with (go_at_call 70; (with_reducible refine (weighhouseref01_Reader_has.calls S g B a 0 (2 + (n : Int)) _ _ _ HRd.out HH3.out).mono ?_); rintro e2 w4 ⟨rfl, hR4, hF4⟩; have HR4 := Aside0.mk hR4; have HF4 := Aside0.mk (HFd.out.then_ hF4 (fun _ h => .inl h)); clear hR4 hF4)
    go_ret
    rw [HS.out]
    exact ⟨rfl, ⟨a, HR4.out, rfl⟩, HF4.out⟩
  · have hS := HE3.out h3
    have HH3 := Aside0.mk (hasS_ok (l := (B.drop a).length) (n := 2 + (n : Int)) (by omega))
    have hX : a + 2 + n ≤ B.length := by have := HL.out; omega
    have hys : (B.take (a + 2 + n)).drop (a + 2) = ((B.drop a).drop 2).take n := by
      rw [List.drop_take, List.drop_drop]
      congr 1
      omega
    have hzs : (B.drop a).drop (2 + n) = B.drop (a + 2 + n) := by rw [List.drop_drop, ← Nat.add_assoc]
    rw [← hys, hzs] at hS
    obtain ⟨y5, hy5⟩ : ∃ y5, (B.take (a + 2 + n)).drop (a + 2) = y5 := ⟨_, rfl⟩
    rw [hy5] at hS
    have HY5 := Aside0.mk hy5
    have HS := Aside0.mk hS
    clear h3 hS hys hzs hy5
    go_upto_region 6 with (go_at_call 70; (with_reducible refine (weighhouseref01_Reader_has.calls S g B a 0 (2 + (n : Int)) _ _ _ HRd.out HH3.out).mono ?_); rintro e2 w4 ⟨rfl, hR4, hF4⟩; have HR4 := Aside0.mk hR4; have HF4 := Aside0.mk (HFd.out.then_ hF4 (fun _ h => .inl h)); clear hR4 hF4)
    obtain ⟨A4, c4, hb4, _⟩ := HR4.out
    have k1 : w4.cell? ⟨g, 1, none⟩ = some (.int .i64 a) := hb4.cell 1
    have f1 : w4.frozen? ⟨g, 1, none⟩ = false := hb4.frozen 1
    clear hb4
    go_wp2
    have hXI : (a : Int) + 2 + (n : Int) = ((a + 2 + n : Nat) : Int) := by omega
    rw [hXI]
    have HR5 := Aside0.mk (Rq.set_at (a' := a + 2 + n) HR4.out hX)
    have HF5 := Aside0.mk (HF4.out.then_ (Fr.set_ w4 g 1 (.int .i64 ((a + 2 + n : Nat) : Int))) (fun _ h => .inl h))
    obtain ⟨X, hXX⟩ : ∃ X, a + 2 + n = X := ⟨_, rfl⟩
    obtain ⟨lo, hlo⟩ : ∃ lo, a + 2 = lo := ⟨_, rfl⟩
    have hlX : lo ≤ X := by omega
    have hsub : wrap64 ((X : Int) - (n : Int)) = (lo : Int) := by rw [wrapI (by omega) (by omega)]; omega
    have HSUB := Aside0.mk hsub
    clear hsub hXI
    rw [hXX] at HR5 HF5 HY5 HS hX ⊢
    rw [hlo] at HY5
    obtain ⟨w5, hw5⟩ : ∃ w5, w4.setCell ⟨g, 1, none⟩ (.int .i64 (X : Int)) = w5 := ⟨_, rfl⟩
    rw [hw5] at HR5 HF5 ⊢
    clear hw5 hXX hlo k1 f1 HR4 HF4
    obtain ⟨ii, hii, his⟩ : ∃ ii, Tryz.prog.info? 5 = some ii ∧ ii.size = 1 := by
      obtain ⟨ii, h1, h2⟩ := Option.map_eq_some_iff.1 info5
      exact ⟨ii, h1, congrArg (fun p => p.2.1) h2⟩
    obtain ⟨A5, c5, hb5, hcc5, _, _, hC5, _⟩ := HR5.out
    obtain ⟨A6, c6, hq6, hc6, hC6⟩ := cutb_ex (P := Tryz.prog) 23 5 Tryz.underlying23 hii his A5 c5 B (lo : Int) (X : Int) (by omega) (by omega) (by omega) hcc5 y5 (by rw [Int.toNat_natCast, Int.toNat_natCast]; exact HY5.out.symm)
    have hcv := Kd.C_string (P := Tryz.prog) (w := w5.drew) (src := 23) (dst := 9) (e := 5) (c := c6) Tryz.underlying23 Tryz.underlying5 Tryz.underlying9 (hC6 w5.drew .u8 (Kd.C_below hC5 ((Below.refl _ _).drew)))
    have k0 : w5.drew.cell? ⟨g, 0, none⟩ = some (.slice A5 B.length c5) := hb5.cell 0
    have k1 : w5.drew.cell? ⟨g, 1, none⟩ = some (.int .i64 X) := hb5.cell 1
    have HR6 := Aside0.mk (HR5.out.below ((Below.refl _ _).drew))
    have HF6 := Aside0.mk (HF5.out.then_ (Fr.of_below ((Below.refl _ _).drew) (fun k => k = g)) (fun _ h => .inl h))
    have hsub := HSUB.out
    clear hb5 hC5 hC6 HR5 HF5
    refine start_ (n := 17) (S := fun w' => w' = w5.drew ∧ w'.cell? ⟨g, 0, none⟩ = some (.slice A5 B.length c5) ∧ w'.cell? ⟨g, 1, none⟩ = some (.int .i64 X)) (ds := []) #[false, false, false, false, false, false, false, false, false, false, false, false, false, false, false, false, false] (by kernel_rfl) rfl rfl ⟨rfl, k0, k1⟩ (fun hHeld => ?_)
    generalize w5.drew = wd7 at HR6 HF6 k0 k1 hcv hHeld ⊢
    refine pure_ (i := 0) (N := some 47) (v := ?_) (a' := ?_) #[true, false, false, false, false, false, false, false, false, false, false, false, false, false, false, false, false] rfl rfl (by kernel_rfl) (fun _ _ _ h => h) (Or.inl ⟨by rfl, ?_⟩) ?_ ?_
    rotate_left
    · intro w'
      go_simp
      with_reducible rfl
    rotate_left
    · simp only [Act.put, List.setIfInBounds_toArray, List.set_cons_zero, List.set_cons_succ, i64_w, i32_w]
      rfl
    refine pure_ (i := 1) (N := some 48) (v := ?_) (a' := ?_) #[true, true, false, false, false, false, false, false, false, false, false, false, false, false, false, false, false] rfl rfl (by kernel_rfl) (fun _ _ _ h => h) (Or.inl ⟨by rfl, ?_⟩) ?_ ?_
    rotate_left
    · intro w'
      go_simp
      with_reducible rfl
    rotate_left
    · simp only [Act.put, List.setIfInBounds_toArray, List.set_cons_zero, List.set_cons_succ, i64_w, i32_w]
      rfl
    refine pure_ (i := 2) (N := some 49) (v := ?_) (a' := ?_) #[true, true, true, false, false, false, false, false, false, false, false, false, false, false, false, false, false] rfl rfl (by kernel_rfl) (fun _ _ _ h => h) (Or.inl ⟨by rfl, ?_⟩) ?_ ?_
    rotate_left
    · intro w'
      go_simp
      with_reducible rfl
    rotate_left
    · simp only [Act.put, List.setIfInBounds_toArray, List.set_cons_zero, List.set_cons_succ, i64_w, i32_w]
      rfl
    refine pure_ (i := 4) (N := some 51) (v := ?_) (a' := ?_) #[true, true, true, false, true, false, false, false, false, false, false, false, false, false, false, false, false] rfl rfl (by kernel_rfl) (fun _ _ _ h => h) (Or.inl ⟨by rfl, ?_⟩) ?_ ?_
    rotate_left
    · intro w'
      go_simp
      with_reducible rfl
    rotate_left
    · simp only [Act.put, List.setIfInBounds_toArray, List.set_cons_zero, List.set_cons_succ, i64_w, i32_w]
      rfl
    refine pure_ (i := 5) (N := some 52) (v := ?_) (a' := ?_) #[true, true, true, false, true, true, false, false, false, false, false, false, false, false, false, false, false] rfl rfl (by kernel_rfl) (fun _ _ _ h => h) (Or.inl ⟨by rfl, ?_⟩) ?_ ?_
    rotate_left
    · intro w'
      go_simp
      with_reducible rfl
    rotate_left
    · simp only [Act.put, List.setIfInBounds_toArray, List.set_cons_zero, List.set_cons_succ, i64_w, i32_w]
      rfl
    refine pure_ (i := 6) (N := some 53) (v := ?_) (a' := ?_) #[true, true, true, false, true, true, true, false, false, false, false, false, false, false, false, false, false] rfl rfl (by kernel_rfl) (fun _ _ _ h => h) (Or.inl ⟨by rfl, ?_⟩) ?_ ?_
    rotate_left
    · intro w'
      go_simp
      with_reducible rfl
    rotate_left
    · simp only [Act.put, List.setIfInBounds_toArray, List.set_cons_zero, List.set_cons_succ, i64_w, i32_w]
      rfl
    refine pure_ (i := 8) (N := some 55) (v := ?_) (a' := ?_) #[true, true, true, false, true, true, true, false, true, false, false, false, false, false, false, false, false] rfl rfl (by kernel_rfl) (fun _ _ _ h => h) (Or.inl ⟨by rfl, ?_⟩) ?_ ?_
    rotate_left
    · intro w'
      go_simp
      with_reducible rfl
    rotate_left
    · simp only [Act.put, List.setIfInBounds_toArray, List.set_cons_zero, List.set_cons_succ, i64_w, i32_w]
      rfl
    refine pure_ (i := 10) (N := some 57) (v := ?_) (a' := ?_) #[true, true, true, false, true, true, true, false, true, false, true, false, false, false, false, false, false] rfl rfl (by kernel_rfl) (fun _ _ _ h => h) (Or.inl ⟨by rfl, ?_⟩) ?_ ?_
    rotate_left
    · intro w'
      go_simp
      with_reducible rfl
    rotate_left
    · simp only [Act.put, List.setIfInBounds_toArray, List.set_cons_zero, List.set_cons_succ, i64_w, i32_w]
      rfl
    refine pure_ (i := 11) (N := some 58) (v := ?_) (a' := ?_) #[true, true, true, false, true, true, true, false, true, false, true, true, false, false, false, false, false] rfl rfl (by kernel_rfl) (fun _ _ _ h => h) (Or.inl ⟨by rfl, ?_⟩) ?_ ?_
    rotate_left
    · intro w'
      go_simp
      with_reducible rfl
    rotate_left
    · simp only [Act.put, List.setIfInBounds_toArray, List.set_cons_zero, List.set_cons_succ, i64_w, i32_w]
      rfl
    refine pure_ (i := 12) (N := some 59) (v := ?_) (a' := ?_) #[true, true, true, false, true, true, true, false, true, false, true, true, true, false, false, false, false] rfl rfl (by kernel_rfl) (fun _ _ _ h => h) (Or.inl ⟨by rfl, ?_⟩) ?_ ?_
    rotate_left
    · intro w'
      go_simp
      with_reducible rfl
    rotate_left
    · simp only [Act.put, List.setIfInBounds_toArray, List.set_cons_zero, List.set_cons_succ, i64_w, i32_w]
      rfl
    refine take_ (i := 3) (N := some 50) (v := ?_) (a' := ?_) #[true, true, true, true, true, true, true, false, true, false, true, true, true, false, false, false, false] rfl rfl (by kernel_rfl) (fun _ _ _ h => h) (Or.inl ⟨by rfl, ?_⟩) hHeld ?_ ?_
    rotate_left
    · rintro w' ⟨s0, s1, s2⟩
      go_simp
      with_reducible rfl
    rotate_left
    · simp only [Act.put, List.setIfInBounds_toArray, List.set_cons_zero, List.set_cons_succ, i64_w, i32_w]
      rfl
    refine take_ (i := 7) (N := some 54) (v := ?_) (a' := ?_) #[true, true, true, true, true, true, true, true, true, false, true, true, true, false, false, false, false] rfl rfl (by kernel_rfl) (fun _ _ _ h => h) (Or.inl ⟨by rfl, ?_⟩) hHeld ?_ ?_
    rotate_left
    · rintro w' ⟨s0, s1, s2⟩
      go_simp
      with_reducible rfl
    rotate_left
    · simp only [Act.put, List.setIfInBounds_toArray, List.set_cons_zero, List.set_cons_succ, i64_w, i32_w]
      rfl
    refine pure_ (i := 9) (N := some 56) (v := ?_) (a' := ?_) #[true, true, true, true, true, true, true, true, true, true, true, true, true, false, false, false, false] rfl rfl (by kernel_rfl) (fun _ _ _ h => h) (Or.inl ⟨by rfl, ?_⟩) ?_ ?_
    rotate_left
    · intro w'
      go_simp
      with_reducible rfl
    rotate_left
    · simp only [Act.put, List.setIfInBounds_toArray, List.set_cons_zero, List.set_cons_succ, i64_w, i32_w]
      rfl
    refine take_ (i := 13) (N := some 60) (v := ?_) (a' := ?_) #[true, true, true, true, true, true, true, true, true, true, true, true, true, true, false, false, false] rfl rfl (by kernel_rfl) (fun _ _ _ h => h) (Or.inl ⟨by rfl, ?_⟩) hHeld ?_ ?_
    rotate_left
    · rintro w' ⟨s0, s1, s2⟩
      go_simp
      with_reducible rfl
    rotate_left
    · simp only [Act.put, List.setIfInBounds_toArray, List.set_cons_zero, List.set_cons_succ, i64_w, i32_w]
      rfl
    refine pure_ (i := 14) (N := some 61) (v := ?_) (a' := ?_) #[true, true, true, true, true, true, true, true, true, true, true, true, true, true, true, false, false] rfl rfl (by kernel_rfl) (fun _ _ _ h => h) (Or.inl ⟨by rfl, ?_⟩) ?_ ?_
    rotate_left
    · intro w'
      go_simp
      with_reducible rfl
    rotate_left
    · simp only [Act.put, List.setIfInBounds_toArray, List.set_cons_zero, List.set_cons_succ, i64_w, i32_w]
      rfl
    refine take_ (i := 15) (N := some 62) (v := ?_) (a' := ?_) #[true, true, true, true, true, true, true, true, true, true, true, true, true, true, true, true, false] rfl rfl (by kernel_rfl) (fun _ _ _ h => h) (Or.inl ⟨by rfl, ?_⟩) hHeld ?_ ?_
    rotate_left
    · rintro w' ⟨s0, s1, s2⟩
      go_simp
      with_reducible rfl
    rotate_left
    · simp only [Act.put, List.setIfInBounds_toArray, List.set_cons_zero, List.set_cons_succ, i64_w, i32_w]
      rfl
    refine pure_ (i := 16) (N := some 2) (v := ?_) (a' := ?_) #[true, true, true, true, true, true, true, true, true, true, true, true, true, true, true, true, true] rfl rfl (by kernel_rfl) (fun _ _ _ h => h) (Or.inl ⟨by rfl, ?_⟩) ?_ ?_
    rotate_left
    · intro w'
      go_simp
      with_reducible rfl
    rotate_left
    · simp only [Act.put, List.setIfInBounds_toArray, List.set_cons_zero, List.set_cons_succ, i64_w, i32_w]
      rfl
    refine done_ (by kernel_rfl) ?_
    clear hHeld k0 k1 hcv hsub hq6
    go_wp2
    go_ret
    rw [HS.out]
    exact ⟨rfl, ⟨X, HR6.out, rfl⟩, HF6.out⟩


end Go.Proofs.YtblaibigjhlblaaGreatDoor.Q
end

section
-- written by hprint.py (a program of these sessions) out of the translation; Lean checks it
namespace Go.Proofs.YtblaibigjhlblaaGreatDoor.Q
open Go.RowKit Go.Proofs.YtblaibigjhlblaaGreatDoorW.Hb Go.Proofs.YtblaibigjhlblaaGreatDoorW.PrintWords Go.Proofs.YtblaibigjhlblaaGreatDoorW.PrintLast Go.Proofs.YtblaibigjhlblaaGreatDoorW.PrintMore
attribute [local go_sem] max2_int min2_int max_two min_two max_three min_three max_four min_four   -- for this text's walks alone
set_option linter.unusedVariables false
set_option linter.unusedSimpArgs false

/-! ### weighhouseref02_From: function 32, by hand -/
/-- The document's reader, told by what is left; its blocks lie from w0 on, below b. -/
def Oq (w0 w : World) (b g : Nat) (xs : List Int) (e : Int) : Prop := ∃ S B a, Rq w S g B a e ∧ B.drop a = xs ∧ (∀ k, S k → w0.heap.size ≤ k ∧ k < b) ∧ b ≤ w.heap.size ∧ Below w0.heap.size w0 w ∧ S g
section
variable {w0 w w' : World} {b g : Nat} {xs xs' : List Int} {e e' : Int}
theorem Oq.bel (h : Oq w0 w b g xs e) : Below w0.heap.size w0 w := by
  obtain ⟨_, _, _, _, _, _, _, h, _⟩ := h
  exact h
theorem Oq.le (h : Oq w0 w b g xs e) : b ≤ w.heap.size := by
  obtain ⟨_, _, _, _, _, _, h, _⟩ := h
  exact h
theorem Oq.g_in (h : Oq w0 w b g xs e) : w0.heap.size ≤ g ∧ g < b := by
  obtain ⟨S, _, _, h1, _, h2, _, _, hg⟩ := h
  exact h2 g hg
theorem Oq.B (h : Oq w0 w b g xs e) : ∀ x ∈ xs, 0 ≤ x ∧ x ≤ 255 := by
  obtain ⟨S, B, a, h1, hx, _⟩ := h
  intro x hm
  rw [← hx] at hm
  exact h1.info.1 x (List.mem_of_mem_drop hm)
theorem Oq.cell2 (h : Oq w0 w b g xs e) : w.cell? ⟨g, 2, none⟩ = some (.int .i64 e) := by
  obtain ⟨S, B, a, ⟨A, c, hb, _⟩, _⟩ := h
  exact hb.cell 2
theorem Oq.kept {S2 : Nat → Prop} (h : Oq w0 w b g xs e) (hk : Kept w w' S2) (hd : ∀ k, S2 k → b ≤ k) (hb : Below w0.heap.size w w') : Oq w0 w' b g xs e := by
  obtain ⟨S, B, a, h1, hx, h2, h3, h4, hg⟩ := h
  exact ⟨S, B, a, h1.kept hk (fun k hS h => by have := (h2 k hS).2; have := hd k h; omega), hx, h2, Nat.le_trans h3 hk.1, h4.trans hb, hg⟩
theorem Oq.kept2 {S2 : Nat → Prop} (h : Oq w0 w b g xs e) (hk : Kept w w' S2) (hd : ∀ k, S2 k → b ≤ k) (hb : Below w0.heap.size w0 w') : Oq w0 w' b g xs e := by
  obtain ⟨S, B, a, h1, hx, h2, h3, h4, hg⟩ := h
  exact ⟨S, B, a, h1.kept hk (fun k hS h => by have := (h2 k hS).2; have := hd k h; omega), hx, h2, Nat.le_trans h3 hk.1, hb, hg⟩
theorem Oq.below (h : Oq w0 w b g xs e) (hb : Below b w w') : Oq w0 w' b g xs e :=
  h.kept (S2 := fun k => b ≤ k) ⟨hb.size, fun i hi hn => hb.block i (by omega)⟩ (fun _ h => h) (hb.mono (by have := h.g_in; omega))
theorem Oq.step {S : Nat → Prop} {B : List Int} (hg : S g) (h2 : ∀ k, S k → w0.heap.size ≤ k ∧ k < b) (h3 : b ≤ w.heap.size) (h4 : Below w0.heap.size w0 w) (hr : ∃ a', Rq w' S g B a' e' ∧ B.drop a' = xs') (hf : Fr w w' (fun k => k = g)) : Oq w0 w' b g xs' e' := by
  obtain ⟨a', hr, hx⟩ := hr
  exact ⟨S, B, a', hr, hx, h2, Nat.le_trans h3 hf.1.size, h4.trans (hf.below h4.size (fun k hk => by subst hk; exact (h2 _ hg).1)), hg⟩
theorem byteZ {v : Int} (h : Oq w0 w b g xs e) (hx : rByte xs e = (v, xs', e')) : Calls Tryz.prog 54 #[.pointer (some ⟨g, 0, none⟩)] w fun en w' => en = .returned (.int .i64 v) ∧ Oq w0 w' b g xs' e' ∧ Fr w w' (fun k => k = g) := by
  obtain ⟨S, B, a, h1, rfl, h2, h3, h4, hg⟩ := h
  have := weighhouseref01_Reader_Byte.calls S g B a e w h1
  rw [hx] at this
  exact this.mono fun en w' ⟨he, hr, hf⟩ => ⟨he, Oq.step hg h2 h3 h4 hr hf, hf⟩
theorem intZ {v : Int} (h : Oq w0 w b g xs e) (hx : rInt xs e = (v, xs', e')) : Calls Tryz.prog 55 #[.pointer (some ⟨g, 0, none⟩)] w fun en w' => en = .returned (.int .i64 v) ∧ Oq w0 w' b g xs' e' ∧ Fr w w' (fun k => k = g) := by
  obtain ⟨S, B, a, h1, rfl, h2, h3, h4, hg⟩ := h
  have := weighhouseref01_Reader_Int.calls S g B a e w h1
  rw [hx] at this
  exact this.mono fun en w' ⟨he, hr, hf⟩ => ⟨he, Oq.step hg h2 h3 h4 hr hf, hf⟩
theorem textZ {v : ByteArray} (h : Oq w0 w b g xs e) (hx : rText xs e = (v, xs', e')) : Calls Tryz.prog 56 #[.pointer (some ⟨g, 0, none⟩)] w fun en w' => en = .returned (.string v) ∧ Oq w0 w' b g xs' e' ∧ Fr w w' (fun k => k = g) := by
  obtain ⟨S, B, a, h1, rfl, h2, h3, h4, hg⟩ := h
  have := weighhouseref01_Reader_Text.calls S g B a e w h1
  rw [hx] at this
  exact this.mono fun en w' ⟨he, hr, hf⟩ => ⟨he, Oq.step hg h2 h3 h4 hr hf, hf⟩
theorem doneZ (h : Oq w0 w b g xs e) : Calls Tryz.prog 33 #[.pointer (some ⟨g, 0, none⟩)] w fun en w' => en = .returned (.int .i64 (rDone xs e)) ∧ Below w.heap.size w w' := by
  obtain ⟨S, B, a, h1, rfl, h2, h3, h4, hg⟩ := h
  exact weighhouseref01_Reader_Done.calls S g B a e w h1
end
theorem rByte_B {xs xs1 : List Int} {e e1 v : Int} (hB : ∀ x ∈ xs, 0 ≤ x ∧ x ≤ 255) (h1 : rByte xs e = (v, xs1, e1)) : ∀ x ∈ xs1, 0 ≤ x ∧ x ≤ 255 := fun x hx => by
  by_cases he : e ≠ 0
  · rw [rByte_err he] at h1; cases h1; exact hB x hx
  · obtain rfl : e = 0 := by omega
    by_cases h3 : xs.length < 1
    · rw [rByte_end h3] at h1; cases h1; exact hB x hx
    · rw [rByte_ok h3] at h1; cases h1; exact hB x (List.mem_of_mem_drop hx)
set_option maxRecDepth 100000 in
set_option maxHeartbeats 8000000 in
theorem weighhouseref02_From.calls (w0 w : World) (b g : Nat) (xs : List Int) (e : Int) (ls : List S47) (xs' : List Int) (e' : Int) (n : Nat) (x1 : List Int) (e1 : Int) (h : Oq w0 w b g xs e) (h1 : rByte xs e = ((n : Int), x1, e1)) (hn255 : n ≤ 255) (hG : gvals false n x1 e1 [] = (ls, xs', e')) :
    Calls Tryz.prog 32 #[.pointer (some ⟨g, 0, none⟩)] w fun en w' => ∃ v, en = .returned v ∧ Kd.R k47 47 w' w0.heap.size (fun k => b ≤ k) v ls ∧ Oq w0 w' b g xs' e' := by
  have HO2 := Aside0.mk h
  have HG := Aside0.mk hG
  have H1' := Aside0.mk h1
  have hgb := h.g_in
  clear h hG h1
  go_enter Tryz.func32, Tryz.ntmps32
  go_wp2_with (fail)
  with_reducible refine (byteZ HO2.out H1'.out).mono ?_
  rintro en w3 ⟨rfl, hO3, _⟩
  have HO3 := Aside0.mk hO3
  clear hO3 HO2 H1'
  go_wp2_with (fail)
  go_loopw [4, 5] (fun v5 v11 wr => ∃ (m : Nat) (ys : List Int) (ee : Int) (acc : List S47), v11 = .int .i64 (acc.length : Int) ∧ acc.length + m = n ∧ Aside0 (gvals false m ys ee acc = (ls, xs', e')) ∧ Aside0 (Oq w0 wr b g ys ee) ∧ Aside0 (Kd.R k47 47 wr w0.heap.size (fun k => b ≤ k) v5 acc)) (fun _ v _ => n - (intOf v).toNat)
  case atStart => exact ⟨n, x1, e1, [], rfl, by simp, HG, HO3, ⟨Kd.R_nil _ _ _ _ _⟩⟩
  case round =>
    clear HG HO3
    obtain ⟨m, ys, ee, acc, rfl, hlm, HX, HO, HR⟩ := hrel
    rcases Nat.eq_zero_or_pos m with h0 | h0
    · subst h0
      have hX := HX.out
      rw [gvals_0] at hX
      have HE := Aside0.mk hX
      clear hX HX
      have hz : decide ((acc.length : Int) < (n : Int)) = false := decide_eq_false (by omega)
      have hz2 : ¬ (acc.length : Int) < (n : Int) := by omega
      go_wp2_with (fail)
      go_ret
      obtain ⟨q1, hX⟩ := Prod.mk.inj HE.out
      obtain ⟨q2, q3⟩ := Prod.mk.inj hX
      exact ⟨_, rfl, by rw [← q1]; exact HR.out, by rw [← q2, ← q3]; exact HO.out⟩
    have hz : (acc.length : Int) < (n : Int) := by omega
    have ke : wr.cell? ⟨g, 2, none⟩ = some (.int .i64 ee) := HO.out.cell2
    by_cases he : ee = 0
    rotate_left
    · have hd : (ee == 0) = false := by simp [he]
      have hX := HX.out
      rw [gvals_stop m ys he] at hX
      have HE := Aside0.mk hX
      clear hX HX he
      go_wp2_with (fail)
      go_ret
      obtain ⟨q1, hX⟩ := Prod.mk.inj HE.out
      obtain ⟨q2, q3⟩ := Prod.mk.inj hX
      exact ⟨_, rfl, by rw [← q1]; exact HR.out, by rw [← q2, ← q3]; exact HO.out⟩
    · subst he
      have hd : ((0 : Int) == 0) = true := rfl
      obtain ⟨m, rfl⟩ : ∃ m', m = m' + 1 := ⟨m - 1, by omega⟩
      have HAL := Aside0.mk (show (acc.length + 1) * 32 ≤ 140737488355328 by omega)
      obtain ⟨t, x1, e1, h1⟩ : ∃ v x e, rByte ys 0 = (v, x, e) := ⟨_, _, _, rfl⟩
      have H1 := Aside0.mk h1
      have HRb := Aside0.mk (Kd.R_mono (ok' := fun k => b ≤ k ∧ k < wr.heap.size) (Kd.R_bound HR.out) (fun k hk => ⟨hk.1, hk.2.2.1⟩))
      have hble : b ≤ wr.heap.size := HO.out.le
      have hwb : w0.heap.size ≤ wr.heap.size := HO.out.bel.size
      clear h1 HR
      go_wp2_with (fail)
      with_reducible refine (byteZ HO.out H1.out).mono ?_
      rintro en w5 ⟨rfl, hO4, hF4⟩
      have HO5 := Aside0.mk hO4
      have HR5 := Aside0.mk (Kd.R_kept HRb.out hF4.2 (fun k hk h => by omega))
      have HS5 := Aside0.mk hF4.1.size
      clear hO4 hF4 HO HRb ke
      obtain ⟨kz, hkz⟩ : ∃ kz, t = kz := ⟨_, rfl⟩
      rw [hkz]
      go_upto_region 7 with (fail)
      have HK := Aside0.mk (Blk.new w5 47 #[.int .i64 kz, .int .i64 0, .string ⟨#[]⟩])
      have HOa := Aside0.mk (HO5.out.below ((Below.refl _ w5).alloc HO5.out.le (.cells #[.int .i64 kz, .int .i64 0, .string ⟨#[]⟩] 47)))
      have HRa := Aside0.mk (Kd.R_alloc HR5.out (.cells #[.int .i64 kz, .int .i64 0, .string ⟨#[]⟩] 47))
      generalize w5.alloc (.cells #[.int .i64 kz, .int .i64 0, .string ⟨#[]⟩] 47) = wa at HK HOa HRa ⊢
      have hgv : wr.heap.size ≤ w5.heap.size := HS5.out
      generalize w5.heap.size = gv at HK hgv ⊢
      have hgg : gv ≠ g := by omega
      have k0 : wa.cell? ⟨gv, 0, none⟩ = some (.int .i64 kz) := HK.out.cell 0
      clear HO5 HR5 HS5
      by_cases t1 : t = 1
      · subst t1
        obtain rfl : kz = 1 := hkz.symm
        have d1 : ((1 : Int) == 1) = true := rfl
        obtain ⟨v, x2, e2, h7⟩ : ∃ v x e, rInt x1 e1 = (v, x, e) := ⟨_, _, _, rfl⟩
        go_wp2_with (fail)
        with_reducible refine (intZ HOa.out h7).mono ?_
        rintro en w7 ⟨rfl, hO7, hF7⟩
        have HK7 := Aside0.mk (show Blk w7 gv 47 #[.int .i64 1, .int .i64 0, .string ⟨#[]⟩] from blk_kept HK.out hF7.2 hgg)
        have HOs := Aside0.mk (hO7.kept (S2 := fun k => k = gv) (Kept.setCell (S := fun k => k = gv) (p := ⟨gv, 1, none⟩) (Kept.refl w7 _) (.inl rfl) (.int .i64 v)) (fun k hk => by omega) ((Below.refl _ _).setCell (show w0.heap.size ≤ gv by omega) _))
        have HRs := Aside0.mk (Kd.R_far (p := ⟨gv, 1, none⟩) (Kd.R_kept HRa.out hF7.2 (fun k hk h => by omega)) (fun k hk => by show k ≠ gv; omega) (.int .i64 v))
        have HKs := Aside0.mk (show Blk (w7.setCell ⟨gv, 1, none⟩ (.int .i64 v)) gv 47 #[.int .i64 1, .int .i64 v, .string ⟨#[]⟩] from by simpa using HK7.out.set_ 1 (.int .i64 v))
        have z1 : w7.cell? ⟨gv, 1, none⟩ = some (.int .i64 0) := HK7.out.cell 1
        have y1 : w7.frozen? ⟨gv, 1, none⟩ = false := HK7.out.frozen 1
        clear hO7 hF7 HK7 HK HOa HRa k0
        go_upto_region 14 with (fail)
        generalize w7.setCell ⟨gv, 1, none⟩ (.int .i64 v) = ws at HKs HOs HRs ⊢
        have c0 : ws.cell? ⟨gv, 0, none⟩ = some (.int .i64 1) := HKs.out.cell 0
        have c1 : ws.cell? ⟨gv, 1, none⟩ = some (.int .i64 v) := HKs.out.cell 1
        have c2 : ws.cell? ⟨gv, 2, none⟩ = some (.string ⟨#[]⟩) := HKs.out.cell 2
        have hX := HX.out
        rw [gvals_step m acc (.inr rfl) (gval_1 H1.out h7)] at hX
        have HX2 := Aside0.mk hX
        clear hX HX
        have HRt := Aside0.mk (Kd.R_mono (ok' := fun k => b ≤ k) HRs.out (fun k hk => hk.1))
        go_wp2_with ((with_reducible refine gate_builtin (b := .append) (xs := #[.tmp 41, .tmp 43]) rfl ?_); at_builtin; refine Kd.R_append k47 (w0 := w0) w0.heap.size rfl (.tmp 41) (.tmp 43) 22 47 (.agg #[(.int .i64 0), (.int .i64 0), (.string ⟨#[]⟩)]) 32 rfl Tryz.underlying22 info47 rfl (by decide) (by omega) u4 acc ⟨1, v, ⟨#[]⟩⟩ [.int .i64 1, .int .i64 v, .string ⟨#[]⟩] (fun k => b ≤ k) (fun _ => False) rfl rfl ?aP (fun _ hk => hk.elim) (fun k hk => Nat.le_trans HOs.out.le hk) HRt.out HOs.out.bel HOs.out.bel.size HAL.out ?_; (case aP => exact k47_mkM _ _ _ ⟨1, v, ⟨#[]⟩⟩); intro v9 w9 hR9 hB9 hG9 _; have HR9 := Aside0.mk hR9; have HB9 := Aside0.mk hB9; have HG9 := Aside0.mk hG9; clear hR9 hB9 hG9)
        have HO9 := Aside0.mk (show Oq w0 w9 b g _ _ from HOs.out.kept2 (S2 := fun k => u4.ownBlock = some k) ⟨HG9.out.size, fun i hi hn => HG9.out.block i hi (fun he => hn he.symm)⟩ (fun k hk => HRt.out.1 k hk) HB9.out)
        go_roundw
        case rel => exact ⟨m, _, _, _, by first | rfl | (rw [List.length_append, List.length_singleton]; go_num), by rw [List.length_append, List.length_singleton]; omega, HX2, HO9, HR9⟩
        case measure => simp [intOf]; omega
      by_cases t2 : t = 2
      · subst t2
        obtain rfl : kz = 2 := hkz.symm
        have d1 : ((2 : Int) == 1) = false := rfl
        have d2 : ((2 : Int) == 2) = true := rfl
        obtain ⟨v, x2, e2, h7⟩ : ∃ v x e, rText x1 e1 = (v, x, e) := ⟨_, _, _, rfl⟩
        go_wp2_with (fail)
        with_reducible refine (textZ HOa.out h7).mono ?_
        rintro en w7 ⟨rfl, hO7, hF7⟩
        have HK7 := Aside0.mk (show Blk w7 gv 47 #[.int .i64 2, .int .i64 0, .string ⟨#[]⟩] from blk_kept HK.out hF7.2 hgg)
        have HOs := Aside0.mk (hO7.kept (S2 := fun k => k = gv) (Kept.setCell (S := fun k => k = gv) (p := ⟨gv, 2, none⟩) (Kept.refl w7 _) (.inl rfl) (.string v)) (fun k hk => by omega) ((Below.refl _ _).setCell (show w0.heap.size ≤ gv by omega) _))
        have HRs := Aside0.mk (Kd.R_far (p := ⟨gv, 2, none⟩) (Kd.R_kept HRa.out hF7.2 (fun k hk h => by omega)) (fun k hk => by show k ≠ gv; omega) (.string v))
        have HKs := Aside0.mk (show Blk (w7.setCell ⟨gv, 2, none⟩ (.string v)) gv 47 #[.int .i64 2, .int .i64 0, .string v] from by simpa using HK7.out.set_ 2 (.string v))
        have z2 : w7.cell? ⟨gv, 2, none⟩ = some (.string ⟨#[]⟩) := HK7.out.cell 2
        have y2 : w7.frozen? ⟨gv, 2, none⟩ = false := HK7.out.frozen 2
        clear hO7 hF7 HK7 HK HOa HRa k0
        go_upto_region 14 with (fail)
        generalize w7.setCell ⟨gv, 2, none⟩ (.string v) = ws at HKs HOs HRs ⊢
        have c0 : ws.cell? ⟨gv, 0, none⟩ = some (.int .i64 2) := HKs.out.cell 0
        have c1 : ws.cell? ⟨gv, 1, none⟩ = some (.int .i64 0) := HKs.out.cell 1
        have c2 : ws.cell? ⟨gv, 2, none⟩ = some (.string v) := HKs.out.cell 2
        have hX := HX.out
        rw [gvals_step m acc (.inr rfl) (gval_2 H1.out h7)] at hX
        have HX2 := Aside0.mk hX
        clear hX HX
        have HRt := Aside0.mk (Kd.R_mono (ok' := fun k => b ≤ k) HRs.out (fun k hk => hk.1))
        go_wp2_with ((with_reducible refine gate_builtin (b := .append) (xs := #[.tmp 41, .tmp 43]) rfl ?_); at_builtin; refine Kd.R_append k47 (w0 := w0) w0.heap.size rfl (.tmp 41) (.tmp 43) 22 47 (.agg #[(.int .i64 0), (.int .i64 0), (.string ⟨#[]⟩)]) 32 rfl Tryz.underlying22 info47 rfl (by decide) (by omega) u4 acc ⟨2, 0, v⟩ [.int .i64 2, .int .i64 0, .string v] (fun k => b ≤ k) (fun _ => False) rfl rfl ?aP (fun _ hk => hk.elim) (fun k hk => Nat.le_trans HOs.out.le hk) HRt.out HOs.out.bel HOs.out.bel.size HAL.out ?_; (case aP => exact k47_mkM _ _ _ ⟨2, 0, v⟩); intro v9 w9 hR9 hB9 hG9 _; have HR9 := Aside0.mk hR9; have HB9 := Aside0.mk hB9; have HG9 := Aside0.mk hG9; clear hR9 hB9 hG9)
        have HO9 := Aside0.mk (show Oq w0 w9 b g _ _ from HOs.out.kept2 (S2 := fun k => u4.ownBlock = some k) ⟨HG9.out.size, fun i hi hn => HG9.out.block i hi (fun he => hn he.symm)⟩ (fun k hk => HRt.out.1 k hk) HB9.out)
        go_roundw
        case rel => exact ⟨m, _, _, _, by first | rfl | (rw [List.length_append, List.length_singleton]; go_num), by rw [List.length_append, List.length_singleton]; omega, HX2, HO9, HR9⟩
        case measure => simp [intOf]; omega
      by_cases t3 : t = 3
      · subst t3
        obtain rfl : kz = 3 := hkz.symm
        have d1 : ((3 : Int) == 1) = false := rfl
        have d2 : ((3 : Int) == 2) = false := rfl
        have d3 : ((3 : Int) == 3) = true := rfl
        obtain ⟨v, x2, e2, h7⟩ : ∃ v x e, rByte x1 e1 = (v, x, e) := ⟨_, _, _, rfl⟩
        go_wp2_with (fail)
        with_reducible refine (byteZ HOa.out h7).mono ?_
        rintro en w7 ⟨rfl, hO7, hF7⟩
        have HK7 := Aside0.mk (show Blk w7 gv 47 #[.int .i64 3, .int .i64 0, .string ⟨#[]⟩] from blk_kept HK.out hF7.2 hgg)
        have HOs := Aside0.mk (hO7.kept (S2 := fun k => k = gv) (Kept.setCell (S := fun k => k = gv) (p := ⟨gv, 1, none⟩) (Kept.refl w7 _) (.inl rfl) (.int .i64 v)) (fun k hk => by omega) ((Below.refl _ _).setCell (show w0.heap.size ≤ gv by omega) _))
        have HRs := Aside0.mk (Kd.R_far (p := ⟨gv, 1, none⟩) (Kd.R_kept HRa.out hF7.2 (fun k hk h => by omega)) (fun k hk => by show k ≠ gv; omega) (.int .i64 v))
        have HKs := Aside0.mk (show Blk (w7.setCell ⟨gv, 1, none⟩ (.int .i64 v)) gv 47 #[.int .i64 3, .int .i64 v, .string ⟨#[]⟩] from by simpa using HK7.out.set_ 1 (.int .i64 v))
        have z1 : w7.cell? ⟨gv, 1, none⟩ = some (.int .i64 0) := HK7.out.cell 1
        have y1 : w7.frozen? ⟨gv, 1, none⟩ = false := HK7.out.frozen 1
        clear hO7 hF7 HK7 HK HOa HRa k0
        go_upto_region 14 with (fail)
        generalize w7.setCell ⟨gv, 1, none⟩ (.int .i64 v) = ws at HKs HOs HRs ⊢
        have c0 : ws.cell? ⟨gv, 0, none⟩ = some (.int .i64 3) := HKs.out.cell 0
        have c1 : ws.cell? ⟨gv, 1, none⟩ = some (.int .i64 v) := HKs.out.cell 1
        have c2 : ws.cell? ⟨gv, 2, none⟩ = some (.string ⟨#[]⟩) := HKs.out.cell 2
        have hX := HX.out
        rw [gvals_step m acc (.inr rfl) (gval_3 H1.out h7)] at hX
        have HX2 := Aside0.mk hX
        clear hX HX
        have HRt := Aside0.mk (Kd.R_mono (ok' := fun k => b ≤ k) HRs.out (fun k hk => hk.1))
        go_wp2_with ((with_reducible refine gate_builtin (b := .append) (xs := #[.tmp 41, .tmp 43]) rfl ?_); at_builtin; refine Kd.R_append k47 (w0 := w0) w0.heap.size rfl (.tmp 41) (.tmp 43) 22 47 (.agg #[(.int .i64 0), (.int .i64 0), (.string ⟨#[]⟩)]) 32 rfl Tryz.underlying22 info47 rfl (by decide) (by omega) u4 acc ⟨3, v, ⟨#[]⟩⟩ [.int .i64 3, .int .i64 v, .string ⟨#[]⟩] (fun k => b ≤ k) (fun _ => False) rfl rfl ?aP (fun _ hk => hk.elim) (fun k hk => Nat.le_trans HOs.out.le hk) HRt.out HOs.out.bel HOs.out.bel.size HAL.out ?_; (case aP => exact k47_mkM _ _ _ ⟨3, v, ⟨#[]⟩⟩); intro v9 w9 hR9 hB9 hG9 _; have HR9 := Aside0.mk hR9; have HB9 := Aside0.mk hB9; have HG9 := Aside0.mk hG9; clear hR9 hB9 hG9)
        have HO9 := Aside0.mk (show Oq w0 w9 b g _ _ from HOs.out.kept2 (S2 := fun k => u4.ownBlock = some k) ⟨HG9.out.size, fun i hi hn => HG9.out.block i hi (fun he => hn he.symm)⟩ (fun k hk => HRt.out.1 k hk) HB9.out)
        go_roundw
        case rel => exact ⟨m, _, _, _, by first | rfl | (rw [List.length_append, List.length_singleton]; go_num), by rw [List.length_append, List.length_singleton]; omega, HX2, HO9, HR9⟩
        case measure => simp [intOf]; omega
      subst hkz
      have d1 : (t == 1) = false := by simp [t1]
      have d2 : (t == 2) = false := by simp [t2]
      have d3 : (t == 3) = false := by simp [t3]
      clear k0
      have k0 : wa.cell? ⟨gv, 0, none⟩ = some (.int .i64 t) := HK.out.cell 0
      go_upto_region 14 with (fail)
      have HKs := HK
      have HOs := HOa
      have HRs := HRa
      clear HK HOa HRa k0
      have c0 : wa.cell? ⟨gv, 0, none⟩ = some (.int .i64 t) := HKs.out.cell 0
      have c1 : wa.cell? ⟨gv, 1, none⟩ = some (.int .i64 0) := HKs.out.cell 1
      have c2 : wa.cell? ⟨gv, 2, none⟩ = some (.string ⟨#[]⟩) := HKs.out.cell 2
      have hX := HX.out
      rw [gvals_step m acc (.inr rfl) (gval_4 H1.out t1 t2 t3)] at hX
      have HX2 := Aside0.mk hX
      clear hX HX
      have HRt := Aside0.mk (Kd.R_mono (ok' := fun k => b ≤ k) HRs.out (fun k hk => hk.1))
      go_wp2_with ((with_reducible refine gate_builtin (b := .append) (xs := #[.tmp 41, .tmp 43]) rfl ?_); at_builtin; refine Kd.R_append k47 (w0 := w0) w0.heap.size rfl (.tmp 41) (.tmp 43) 22 47 (.agg #[(.int .i64 0), (.int .i64 0), (.string ⟨#[]⟩)]) 32 rfl Tryz.underlying22 info47 rfl (by decide) (by omega) u4 acc ⟨t, 0, ⟨#[]⟩⟩ [.int .i64 t, .int .i64 0, .string ⟨#[]⟩] (fun k => b ≤ k) (fun _ => False) rfl rfl ?aP (fun _ hk => hk.elim) (fun k hk => Nat.le_trans HOs.out.le hk) HRt.out HOs.out.bel HOs.out.bel.size HAL.out ?_; (case aP => exact k47_mkM _ _ _ ⟨t, 0, ⟨#[]⟩⟩); intro v9 w9 hR9 hB9 hG9 _; have HR9 := Aside0.mk hR9; have HB9 := Aside0.mk hB9; have HG9 := Aside0.mk hG9; clear hR9 hB9 hG9)
      have HO9 := Aside0.mk (show Oq w0 w9 b g _ _ from HOs.out.kept2 (S2 := fun k => u4.ownBlock = some k) ⟨HG9.out.size, fun i hi hn => HG9.out.block i hi (fun he => hn he.symm)⟩ (fun k hk => HRt.out.1 k hk) HB9.out)
      go_roundw
      case rel => exact ⟨m, _, _, _, by first | rfl | (rw [List.length_append, List.length_singleton]; go_num), by rw [List.length_append, List.length_singleton]; omega, HX2, HO9, HR9⟩
      case measure => simp [intOf]; omega


end Go.Proofs.YtblaibigjhlblaaGreatDoor.Q
end

section
-- written by hprint.py (a program of these sessions) out of the translation; Lean checks it
namespace Go.Proofs.YtblaibigjhlblaaGreatDoor.Q
open Go.RowKit Go.Proofs.YtblaibigjhlblaaGreatDoorW.Hb Go.Proofs.YtblaibigjhlblaaGreatDoorW.PrintWords Go.Proofs.YtblaibigjhlblaaGreatDoorW.PrintLast Go.Proofs.YtblaibigjhlblaaGreatDoorW.PrintMore
attribute [local go_sem] max2_int min2_int max_two min_two max_three min_three max_four min_four   -- for this text's walks alone
set_option linter.unusedVariables false
set_option linter.unusedSimpArgs false

/-! ### weighhouseref02_Get: function 10, by hand -/
def weighhouseref02_Get.f (k : Nat) (l0 : List Int) : Option (List S47 × Int) := if (l0.all isBb && decide (l0.length ≤ 140737488355328)) = true then (if rDone (getV false l0).2.1 (getV false l0).2.2 = 0 then (weighhouseref02_All.f k (getV false l0).1).bind fun q => some (if q = true then ((getV false l0).1, 0) else ([], 21)) else some ([], 21)) else none
theorem weighhouseref02_Get.mono : ∀ a0 k, LeO (weighhouseref02_Get.f k a0) (weighhouseref02_Get.f (k + 1) a0) := fun a0 k => by
  unfold weighhouseref02_Get.f
  split
  · split
    · exact LeO.bind (weighhouseref02_All.mono _ _) (fun _ => LeO.refl _)
    · exact LeO.refl _
  · exact LeO.refl _
set_option maxRecDepth 100000 in
set_option maxHeartbeats 8000000 in
theorem weighhouseref02_Get.calls (k : Nat) (A0 : Option Addr) (c0 : Nat) (l0 : List Int) (r1 : List S47) (r2 : Int) (w0 : World) (hr0 : Kd.C (Kd.int .u8) w0 A0 l0.length l0) (hc0 : l0.length ≤ c0) (h : weighhouseref02_Get.f k l0 = some (r1, r2)) :
    Calls Tryz.prog 10 #[.slice A0 l0.length c0] w0 fun e w' => ∃ v0_ : Value, e = .returned (.tuple #[v0_, .int .i64 r2]) ∧ Kd.R k47 47 w' w0.heap.size (fun _ => True) v0_ r1 ∧ Below w0.heap.size w0 w' := by
  unfold weighhouseref02_Get.f at h
  split at h
  rotate_left
  · cases h
  rename_i hall
  simp only [Bool.and_eq_true, decide_eq_true_eq] at hall
  have HBB := Aside0.mk (isBb_all hall.1)
  have hll := hall.2
  have hm0 : l0.length ≤ 9223372036854775807 := hr0.2.1
  obtain ⟨v1, x1, e1, h1⟩ : ∃ v x e, rByte l0 0 = (v, x, e) := ⟨_, _, _, rfl⟩
  have hv1 := rByte_in (isBb_all hall.1) h1
  obtain ⟨n, rfl⟩ := Int.eq_ofNat_of_zero_le hv1.1
  have hn255 : n ≤ 255 := by omega
  rw [getV_is h1] at h
  obtain ⟨acc, ys, ee, hG⟩ : ∃ a b c, gvals false n x1 e1 [] = (a, b, c) := ⟨_, _, _, rfl⟩
  rw [hG] at h
  have HG := Aside0.mk hG
  have H1' := Aside0.mk h1
  have HR0 := Aside0.mk hr0
  clear hG h1 hr0 hall hv1
  go_enter Tryz.func10, Tryz.ntmps10
  go_wp2_with (fail)
  with_reducible refine (weighhouseref01_NewReader.calls A0 c0 l0 w0 HR0.out hc0 (by omega) HBB.out).mono ?_
  rintro en w2 ⟨g, rfl, hd2, hg2, hB2⟩
  have HO2 := Aside0.mk (show Oq w0 w2 w2.heap.size g l0 0 from ⟨_, _, 0, hd2, by simp, fun k hk => hk, Nat.le_refl _, hB2, (by obtain ⟨_, _, _, _, q, _⟩ := hd2; exact q)⟩)
  clear hd2 hg2 hB2
  generalize w2.heap.size = b at HO2
  go_wp2_with (fail)
  with_reducible refine (weighhouseref02_From.calls w0 w2 b g l0 0 acc ys ee n x1 e1 HO2.out H1'.out hn255 HG.out).mono ?_
  rintro en w3 ⟨v3, rfl, hR3, hO3⟩
  have HO := Aside0.mk hO3
  obtain ⟨A5, c5, rfl, hc5, hC5⟩ := Kd.R_reads hR3
  have HR := Aside0.mk hR3
  have HC := Aside0.mk hC5
  clear hR3 hO3 hC5 HO2 H1' HG HR0 HBB
  go_wp2_with (fail)
  with_reducible refine (doneZ HO.out).mono ?_
  rintro en w4 ⟨rfl, hb4⟩
  have HB4 := Aside0.mk hb4
  have HBl := Aside0.mk (HO.out.bel.trans (hb4.mono HO.out.bel.size))
  clear hb4
  by_cases hdn : rDone ys ee = 0
  · rw [if_pos hdn] at h
    obtain ⟨q, hq, h⟩ := Option.bind_eq_some_iff.1 h
    have HH := Aside0.mk (Option.some.inj h)
    have HQ := Aside0.mk hq
    have hd1 : (rDone ys ee == 0) = true := by simp [hdn]
    have hd2 : (rDone ys ee != 0) = false := by simp [hdn]
    clear hq h
    go_wp2_with (fail)
    with_reducible refine (weighhouseref02_All.calls k A5 c5 acc q _ (Kd.C_below HC.out HB4.out) hc5 HQ.out).mono ?_
    rintro en w6 ⟨rfl, hb6⟩
    have HB6 := Aside0.mk hb6
    clear hb6
    cases q
    · obtain ⟨rfl, rfl⟩ := Prod.mk.inj (show (([] : List S47), (21 : Int)) = (r1, r2) from HH.out)
      go_wp2_with (fail)
      go_ret2
      exact ⟨_, rfl, Kd.R_nil _ _ _ _ _, HBl.out.trans (HB6.out.mono HBl.out.size)⟩
    · obtain ⟨rfl, rfl⟩ := Prod.mk.inj (show (acc, (0 : Int)) = (r1, r2) from HH.out)
      go_wp2_with (fail)
      go_ret2
      exact ⟨_, rfl, Kd.R_mono (Kd.R_below (Kd.R_below HR.out HB4.out) HB6.out) (fun _ _ => trivial), HBl.out.trans (HB6.out.mono HBl.out.size)⟩
  · rw [if_neg hdn] at h
    obtain ⟨rfl, rfl⟩ := Prod.mk.inj (Option.some.inj h)
    have hd1 : (rDone ys ee == 0) = false := by simp [hdn]
    have hd2 : (rDone ys ee != 0) = true := by simp [hdn]
    clear h
    go_wp2_with (fail)
    go_ret2
    exact ⟨_, rfl, Kd.R_nil _ _ _ _ _, HBl.out⟩


end Go.Proofs.YtblaibigjhlblaaGreatDoor.Q
end

section
/- layer 2: values as bytes, by the program and by the document -/
set_option linter.unusedVariables false
set_option linter.unusedSimpArgs false
namespace Go.Proofs.YtblaibigjhlblaaGreatDoor.Th
open Go.RowKit Go.Proofs.YtblaibigjhlblaaGreatDoorW.PrintWords Go.Proofs.YtblaibigjhlblaaGreatDoorW.Hb Go.Proofs.YtblaibigjhlblaaGreatDoor.Q

theorem refRight_ok (a b : Int) (s : ByteArray) : weighhouseref02_Right.f a b s = some (okv a b s) := by
  unfold weighhouseref02_Right.f okv
  repeat' split
  all_goals first | rfl | (exfalso; omega)
theorem refAll_ev (l : List S47) (hm : l.length ≤ 4611686018427387904) : Ev (fun k => weighhouseref02_All.f k l) (allOk l) := by
  refine scan_ev (fun k i => weighhouseref02_All.l0 k l i) l.length _ (fun k i hi => ?_) (fun k => ?_) l.length 0 (by omega)
  · simp only [weighhouseref02_All.l0]
    rw [if_pos (by omega), if_pos (by omega), refRight_ok, Option.bind_some, w64 (by omega) (by omega)]
    rfl
  · simp only [weighhouseref02_All.l0]
    rw [if_neg (by omega)]
theorem ok_mem {l : List S47} (h : allOk l = true) : ∀ v ∈ l, okv v.f0 v.f1 v.f2 = true := by
  intro v hv
  obtain ⟨i, hi, rfl⟩ := List.mem_iff_getElem.1 hv
  exact ok_get h i hi
theorem ok_of {l : List S47} (h : ∀ v ∈ l, okv v.f0 v.f1 v.f2 = true) : allOk l = true := by
  unfold allOk
  refine allF_true l.length (fun i hi => ?_) l.length 0 (by omega)
  unfold okS
  rw [rdT l i hi]
  exact h _ (List.getElem_mem hi)
theorem okv_P {v : S47} (h : okv v.f0 v.f1 v.f2 = true) : okP v = true := by
  unfold okv at h
  simp only [okP, Bool.or_eq_true, Bool.and_eq_true, decide_eq_true_eq]
  by_cases a1 : v.f0 = 1
  · exact .inl (.inl a1)
  · rw [if_neg a1] at h
    by_cases a2 : v.f0 = 2
    · rw [if_pos a2] at h
      split at h
      · have := of_decide_eq_true h
        exact .inl (.inr ⟨a2, by omega⟩)
      · cases h
    · rw [if_neg a2] at h
      by_cases a3 : v.f0 = 3
      · rw [if_pos a3] at h
        split at h
        · exact .inr ⟨a3, by omega, by omega⟩
        · split at h
          · exact .inr ⟨a3, by omega, by omega⟩
          · cases h
      · rw [if_neg a3] at h
        cases h
theorem all_P {l : List S47} (h : allOk l = true) : l.all okP = true := List.all_eq_true.2 (fun v hv => okv_P (ok_mem h v hv))
/-! ### the document's bytes -/
theorem sh64 (n : Int) (k : Nat) (hk : k ≤ 64) : shr .u64 n (k : Int) = n / 2 ^ k := by
  unfold shr
  rw [Int.toNat_natCast, show IntKind.u64.bits = 64 from rfl, Nat.min_eq_left hk]
theorem number_is (x : Int) : weighhouseref01_Number.f 9 x = some (bigL (IntKind.u64.wrap x) 8) := by
  unfold weighhouseref01_Number.f
  have st : ∀ (k i : Nat) (l : List Int), i ≤ 56 → l.length ≤ 8 → weighhouseref01_Number.l0 (k + 1) x l (i : Int) = weighhouseref01_Number.l0 k x (l ++ [(IntKind.u64.wrap x / 2 ^ i) % 256]) ((i : Int) - 8) := by
    intro k i l hi hl
    have h1 : IntKind.u64.wrap (i : Int) = (i : Int) := by simp [IntKind.wrap, IntKind.bits, IntKind.signed]; omega
    have h2 : wrap64 ((i : Int) - 8) = (i : Int) - 8 := by unfold wrap64; omega
    rw [weighhouseref01_Number.l0, h1, h2, if_pos (by omega), if_pos (by omega), if_pos (by omega), sh64 _ _ (by omega)]
  rw [show (56 : Int) = ((56 : Nat) : Int) from rfl, st 8 56 [] (by omega) (by simp), show ((56 : Nat) : Int) - 8 = ((48 : Nat) : Int) from rfl, st 7 48 _ (by omega) (by simp), show ((48 : Nat) : Int) - 8 = ((40 : Nat) : Int) from rfl, st 6 40 _ (by omega) (by simp), show ((40 : Nat) : Int) - 8 = ((32 : Nat) : Int) from rfl, st 5 32 _ (by omega) (by simp), show ((32 : Nat) : Int) - 8 = ((24 : Nat) : Int) from rfl, st 4 24 _ (by omega) (by simp), show ((24 : Nat) : Int) - 8 = ((16 : Nat) : Int) from rfl, st 3 16 _ (by omega) (by simp), show ((16 : Nat) : Int) - 8 = ((8 : Nat) : Int) from rfl, st 2 8 _ (by omega) (by simp), show ((8 : Nat) : Int) - 8 = ((0 : Nat) : Int) from rfl, st 1 0 _ (by omega) (by simp)]
  rw [weighhouseref01_Number.l0, if_neg (by decide)]
  simp [bigL, bigB, List.range_succ]
theorem number_ev (x : Int) : Ev (fun k => weighhouseref01_Number.f k x) (bigL (IntKind.u64.wrap x) 8) := Ev.of (fun k => weighhouseref01_Number.mono x k) (number_is x)
theorem text_is (s : ByteArray) (h : s.size ≤ 65535) : weighhouseref01_Text.f s = some (textB s) := by
  unfold weighhouseref01_Text.f textB
  have h1 : wrap64 ((s.size : Int) / 256) = (s.size : Int) / 256 := by unfold wrap64; omega
  have h2 : bigL (s.size : Int) 2 = [(s.size : Int) / 256 % 256, (s.size : Int) % 256] := by simp [bigL, bigB, List.range_succ]
  rw [h1, h2, Option.bind_some, if_pos (by simp; omega)]
theorem bytes_ev (l : List S47) (hl : l.length ≤ 255) (hok : allOk l = true) : Ev (fun k => weighhouseref02_BytesOf.f k l) (putB l) := by
  have hP : ∀ v ∈ l, okP v = true := List.all_eq_true.1 (all_P hok)
  have loop : ∀ d i : Nat, i + d = l.length → Ev (fun k => weighhouseref02_BytesOf.l0 k l ((l.length : Int) :: pvals (l.take i)) (i : Int)) (putB l) := by
    intro d
    induction d with
    | zero =>
      intro i hi
      refine Ev.step (f := fun _ => some (putB l)) (fun k => ?_) (Ev.now _)
      simp only [weighhouseref02_BytesOf.l0]
      rw [if_neg (by omega), List.take_of_length_le (by omega)]
      rfl
    | succ d ih =>
      intro i hi
      have hil : i < l.length := by omega
      have e1 : rd_T47 l (i : Int) = l[i] := rdT l i hil
      have hv := okP_cases (hP _ (List.getElem_mem hil))
      have hlen := pvals_len (l.take i) (fun v hv => hP v (List.mem_of_mem_take hv))
      rw [List.length_take] at hlen
      have pt := pvals_take l i l[i] (List.getElem?_eq_getElem hil)
      have nx := ih (i + 1) (by omega)
      rw [pt] at nx
      obtain ⟨L, hL⟩ : ∃ L, (l.length : Int) :: pvals (l.take i) = L := ⟨_, rfl⟩
      have hLL : L.length ≤ 66046 := by rw [← hL]; simp only [List.length_cons]; omega
      have nx2 : Ev (fun k => weighhouseref02_BytesOf.l0 k l (L ++ pval l[i]) ((i + 1 : Nat) : Int)) (putB l) := by rw [← hL]; exact nx
      rw [hL]
      obtain ⟨v, hvv⟩ : ∃ v, l[i] = v := ⟨_, rfl⟩
      rw [hvv] at hv e1 nx2
      obtain ⟨f0, f1, f2⟩ := v
      dsimp only at hv
      have hf : f0 % 256 = f0 := by omega
      by_cases h1 : f0 = 1
      · have hp : L ++ pval ⟨f0, f1, f2⟩ = (L ++ [f0]) ++ bigL (IntKind.u64.wrap f1) 8 := by unfold pval; rw [if_pos h1]; simp
        rw [hp] at nx2
        refine Ev.step (f := fun k => (weighhouseref01_Number.f k f1).bind fun t => if (L ++ [f0]).length + t.length < 140737488355328 then weighhouseref02_BytesOf.l0 k l ((L ++ [f0]) ++ t) ((i + 1 : Nat) : Int) else none) (fun k => ?_) (Ev.bind (number_ev f1) (Ev.congr (fun k => if_pos (by rw [bigL_len', List.length_append]; simp; omega)) nx2))
        simp only [weighhouseref02_BytesOf.l0]
        rw [if_pos (by omega), if_pos (by omega), if_pos (by omega), e1, Option.bind_some, hf, if_pos h1, w64 (by omega) (by omega)]
        rfl
      · by_cases h2 : f0 = 2
        · have hs : f2.size ≤ 256 := by omega
          have hp : L ++ pval ⟨f0, f1, f2⟩ = (L ++ [f0]) ++ textB f2 := by unfold pval; rw [if_neg h1, if_pos h2]; simp
          rw [hp] at nx2
          refine Ev.step (fun k => ?_) nx2
          simp only [weighhouseref02_BytesOf.l0]
          rw [if_pos (by omega), if_pos (by omega), if_pos (by omega), e1, Option.bind_some, hf, if_neg h1, if_pos h2, text_is f2 (by omega), Option.bind_some, if_pos (by rw [textB_len, List.length_append]; simp; omega), w64 (by omega) (by omega)]
          rfl
        · have h3 : f0 = 3 := by omega
          have hf1 : f1 % 256 = f1 := by omega
          have hp : L ++ pval ⟨f0, f1, f2⟩ = (L ++ [f0]) ++ [f1] := by unfold pval; rw [if_neg h1, if_neg h2]; simp
          rw [hp] at nx2
          refine Ev.step (fun k => ?_) nx2
          simp only [weighhouseref02_BytesOf.l0]
          rw [if_pos (by omega), if_pos (by omega), if_pos (by omega), e1, Option.bind_some, hf, if_neg h1, if_neg h2, if_pos h3, if_pos (by rw [List.length_append]; simp; omega), hf1, w64 (by omega) (by omega)]
          rfl
  refine Ev.congr (fun k => ?_) (loop l.length 0 (by omega))
  unfold weighhouseref02_BytesOf.f
  rw [show ((l.length : Int)) % 256 = (l.length : Int) by omega]
  rfl
/-- What Put gives. -/
def putR (l : List S47) : List Int × Int := if 255 < l.length then ([], 6) else if allOk l = true then (putB l, 0) else ([], 1)
theorem put_ev (l : List S47) (hm : l.length ≤ 4398046511104) : Ev (fun k => value_Put.f k l) (putR l) := by
  unfold putR
  by_cases hb : 255 < l.length
  · rw [if_pos hb]
    refine Ev.congr (fun k => ?_) (Ev.now _)
    unfold value_Put.f
    rw [if_pos hb]
  · rw [if_neg hb]
    refine Ev.congr (f := fun k => (value_all.f k l).bind fun q => if q = true then (if l.all okP = true then some (putB l, 0) else none) else some ([], 1)) (fun k => ?_) (Ev.bind (all_ev l (by omega)) ?_)
    · unfold value_Put.f
      rw [if_neg hb]
    · by_cases ha : allOk l = true
      · rw [if_pos ha]
        exact Ev.congr (fun k => by rw [if_pos ha, if_pos (all_P ha)]) (Ev.now _)
      · rw [if_neg ha]
        exact Ev.congr (fun k => by rw [if_neg ha]) (Ev.now _)
theorem refPut_ev (l : List S47) (hm : l.length ≤ 4398046511104) : Ev (fun k => weighhouseref02_Put.f k l) (putR l) := by
  unfold putR
  by_cases hb : 255 < l.length
  · rw [if_pos hb]
    refine Ev.congr (fun k => ?_) (Ev.now _)
    unfold weighhouseref02_Put.f
    rw [if_pos (by omega)]
  · rw [if_neg hb]
    refine Ev.congr (f := fun k => (weighhouseref02_All.f k l).bind fun q => if q = true then ((weighhouseref02_BytesOf.f k l).bind fun t => some (t, 0)) else some ([], 1)) (fun k => ?_) (Ev.bind (refAll_ev l (by omega)) ?_)
    · unfold weighhouseref02_Put.f
      rw [if_neg (by omega)]
    · by_cases ha : allOk l = true
      · rw [if_pos ha]
        exact Ev.congr (fun k => by rw [if_pos ha]) (Ev.bind (bytes_ev l (by omega) ha) (Ev.now _))
      · rw [if_neg ha]
        exact Ev.congr (fun k => by rw [if_neg ha]) (Ev.now _)
/-! ### bytes read: by the program and by the document -/
def Bad (l : List S47) : Prop := ∃ v ∈ l, okv v.f0 v.f1 v.f2 = false
theorem bad_ok {l : List S47} (h : Bad l) : allOk l = false := by
  obtain ⟨v, hv, hb⟩ := h
  cases ha : allOk l with
  | false => rfl
  | true => rw [ok_mem ha v hv] at hb; cases hb
theorem Bad.app {l : List S47} (h : Bad l) (m : List S47) : Bad (l ++ m) := by
  obtain ⟨v, hv, hb⟩ := h
  exact ⟨v, List.mem_append_left _ hv, hb⟩
theorem done_err {xs : List Int} {e : Int} (h : e ≠ 0) : rDone xs e ≠ 0 := by
  unfold rDone
  rw [if_pos h]
  exact h
theorem gval_err (xs : List Int) {e : Int} (h : e ≠ 0) : gval true xs e = (⟨0, 0, ⟨#[]⟩⟩, xs, e) := gval_4 (rByte_err h) (by decide) (by decide) (by decide)
theorem gvals_err (n : Nat) (xs : List Int) {e : Int} (h : e ≠ 0) : ∀ acc, (gvals true n xs e acc).2 = (xs, e) := by
  induction n with
  | zero => intro acc; rfl
  | succ n ih =>
    intro acc
    rw [gvals_step n acc (.inl rfl) (gval_err xs h)]
    exact ih _
theorem gvals_two : ∀ (n : Nat) (xs : List Int) (e : Int) (a b : List S47), (a = b ∨ (Bad a ∧ Bad b)) →
    (rDone (gvals true n xs e a).2.1 (gvals true n xs e a).2.2 = 0 ↔ rDone (gvals false n xs e b).2.1 (gvals false n xs e b).2.2 = 0) ∧
    (rDone (gvals true n xs e a).2.1 (gvals true n xs e a).2.2 = 0 → ((gvals true n xs e a).1 = (gvals false n xs e b).1 ∨ (Bad (gvals true n xs e a).1 ∧ Bad (gvals false n xs e b).1)))
  | 0, xs, e, a, b, h => ⟨Iff.rfl, fun _ => h⟩
  | n + 1, xs, e, a, b, h => by
    by_cases he : e = 0
    · subst he
      obtain ⟨t, x1, e1, h1⟩ : ∃ v x e, rByte xs 0 = (v, x, e) := ⟨_, _, _, rfl⟩
      have go : ∀ (v w : S47) (x2 : List Int) (e2 : Int), gval true xs 0 = (v, x2, e2) → gval false xs 0 = (w, x2, e2) → (v = w ∨ (okv v.f0 v.f1 v.f2 = false ∧ okv w.f0 w.f1 w.f2 = false)) → _ := fun v w x2 e2 g1 g2 hvw => by
        have ih := gvals_two n x2 e2 (a ++ [v]) (b ++ [w]) (by
          rcases h with rfl | ⟨ha, hb⟩
          · rcases hvw with rfl | ⟨hv, hw⟩
            · exact .inl rfl
            · exact .inr ⟨⟨v, by simp, hv⟩, ⟨w, by simp, hw⟩⟩
          · exact .inr ⟨ha.app _, hb.app _⟩)
        rw [← gvals_step (z := true) n a (.inl rfl) g1, ← gvals_step (z := false) n b (.inr rfl) g2] at ih
        exact ih
      by_cases t1 : t = 1
      · subst t1
        obtain ⟨v, x2, e2, h2⟩ : ∃ v x e, rInt x1 e1 = (v, x, e) := ⟨_, _, _, rfl⟩
        exact go _ _ _ _ (gval_1 h1 h2) (gval_1 h1 h2) (.inl rfl)
      by_cases t2 : t = 2
      · subst t2
        obtain ⟨v, x2, e2, h2⟩ : ∃ v x e, rText x1 e1 = (v, x, e) := ⟨_, _, _, rfl⟩
        exact go _ _ _ _ (gval_2 h1 h2) (gval_2 h1 h2) (.inl rfl)
      by_cases t3 : t = 3
      · subst t3
        obtain ⟨v, x2, e2, h2⟩ : ∃ v x e, rByte x1 e1 = (v, x, e) := ⟨_, _, _, rfl⟩
        exact go _ _ _ _ (gval_3 h1 h2) (gval_3 h1 h2) (.inl rfl)
      refine go _ _ _ _ (gval_4 h1 t1 t2 t3) (gval_4 h1 t1 t2 t3) (.inr ⟨?_, ?_⟩)
      · show okv (if true = true then (0 : Int) else t) 0 ⟨#[]⟩ = false
        rw [if_pos rfl]
        decide
      show okv (if false = true then (0 : Int) else t) 0 ⟨#[]⟩ = false
      rw [if_neg (by decide)]
      unfold okv
      rw [if_neg t1, if_neg t2, if_neg t3]
    · have g1 := gvals_err (n + 1) xs he a
      rw [gvals_stop (n + 1) xs he b, g1]
      exact ⟨⟨fun h => absurd h (done_err he), fun h => absurd h (done_err he)⟩, fun h => absurd h (done_err he)⟩
theorem gvals_len (z : Bool) : ∀ (n : Nat) (xs : List Int) (e : Int) (a : List S47), (gvals z n xs e a).1.length ≤ n + a.length
  | 0, xs, e, a => by simp [gvals_0]
  | n + 1, xs, e, a => by
    rw [gvals]
    split
    · simp only; omega
    · have := gvals_len z n (gval z xs e).2.1 (gval z xs e).2.2 (a ++ [(gval z xs e).1])
      simp only [List.length_append, List.length_singleton] at this
      omega
/-- What Get gives. -/
def getR (z : Bool) (l : List Int) : List S47 × Int := if rDone (getV z l).2.1 (getV z l).2.2 = 0 ∧ allOk (getV z l).1 = true then ((getV z l).1, 0) else ([], 21)
theorem getR_two (l : List Int) : getR true l = getR false l := by
  obtain ⟨h1, h2⟩ := gvals_two (rByte l 0).1.toNat (rByte l 0).2.1 (rByte l 0).2.2 [] [] (.inl rfl)
  change (rDone (getV true l).2.1 (getV true l).2.2 = 0 ↔ rDone (getV false l).2.1 (getV false l).2.2 = 0) at h1
  change (rDone (getV true l).2.1 (getV true l).2.2 = 0 → ((getV true l).1 = (getV false l).1 ∨ (Bad (getV true l).1 ∧ Bad (getV false l).1))) at h2
  unfold getR
  by_cases hd : rDone (getV true l).2.1 (getV true l).2.2 = 0
  · rcases h2 hd with he | ⟨ha, hb⟩
    · rw [he]
      simp only [h1]
    · rw [if_neg (fun h => by rw [bad_ok ha] at h; cases h.2), if_neg (fun h => by rw [bad_ok hb] at h; cases h.2)]
  · rw [if_neg (fun h => hd h.1), if_neg (fun h => hd (h1.2 h.1))]
theorem getV_len (z : Bool) (l : List Int) (hl : ∀ x ∈ l, 0 ≤ x ∧ x ≤ 255) : (getV z l).1.length ≤ 255 := by
  have h := gvals_len z (rByte l 0).1.toNat (rByte l 0).2.1 (rByte l 0).2.2 []
  have h2 := rByte_in (xs := l) (e := 0) (v := (rByte l 0).1) (xs1 := (rByte l 0).2.1) (e1 := (rByte l 0).2.2) hl rfl
  unfold getV
  simp only [List.length_nil] at h
  omega
theorem isBb_of {l : List Int} (h : ∀ x ∈ l, 0 ≤ x ∧ x ≤ 255) : l.all isBb = true := List.all_eq_true.2 (fun x hx => by
  have := h x hx
  simp only [isBb, Bool.and_eq_true, decide_eq_true_eq]
  exact this)
theorem get_ev (l : List Int) (hb : ∀ x ∈ l, 0 ≤ x ∧ x ≤ 255) (hl : l.length ≤ 140737488355328) : Ev (fun k => value_Get.f k l) (getR true l) := by
  have hc : (l.all isBb && decide (l.length ≤ 140737488355328)) = true := by rw [isBb_of hb, decide_eq_true hl]; rfl
  have hn := getV_len true l hb
  by_cases hd : rDone (getV true l).2.1 (getV true l).2.2 = 0
  · refine Ev.congr (f := fun k => (value_all.f k (getV true l).1).bind fun q => some (if q = true then ((getV true l).1, 0) else ([], 21))) (fun k => ?_) (Ev.bind (all_ev _ (by omega)) ?_)
    · unfold value_Get.f
      rw [if_pos hc, if_pos hd]
    · by_cases ha : allOk (getV true l).1 = true
      · rw [show getR true l = ((getV true l).1, 0) by unfold getR; exact if_pos ⟨hd, ha⟩]
        exact Ev.congr (fun k => by rw [if_pos ha]) (Ev.now _)
      · rw [show getR true l = ([], 21) by unfold getR; exact if_neg (fun h => ha h.2)]
        exact Ev.congr (fun k => by rw [if_neg ha]) (Ev.now _)
  · rw [show getR true l = ([], 21) by unfold getR; exact if_neg (fun h => hd h.1)]
    refine Ev.congr (fun k => ?_) (Ev.now _)
    unfold value_Get.f
    rw [if_pos hc, if_neg hd]
theorem refGet_ev (l : List Int) (hb : ∀ x ∈ l, 0 ≤ x ∧ x ≤ 255) (hl : l.length ≤ 140737488355328) : Ev (fun k => weighhouseref02_Get.f k l) (getR false l) := by
  have hc : (l.all isBb && decide (l.length ≤ 140737488355328)) = true := by rw [isBb_of hb, decide_eq_true hl]; rfl
  have hn := getV_len false l hb
  by_cases hd : rDone (getV false l).2.1 (getV false l).2.2 = 0
  · refine Ev.congr (f := fun k => (weighhouseref02_All.f k (getV false l).1).bind fun q => some (if q = true then ((getV false l).1, 0) else ([], 21))) (fun k => ?_) (Ev.bind (refAll_ev _ (by omega)) ?_)
    · unfold weighhouseref02_Get.f
      rw [if_pos hc, if_pos hd]
    · by_cases ha : allOk (getV false l).1 = true
      · rw [show getR false l = ((getV false l).1, 0) by unfold getR; exact if_pos ⟨hd, ha⟩]
        exact Ev.congr (fun k => by rw [if_pos ha]) (Ev.now _)
      · rw [show getR false l = ([], 21) by unfold getR; exact if_neg (fun h => ha h.2)]
        exact Ev.congr (fun k => by rw [if_neg ha]) (Ev.now _)
  · rw [show getR false l = ([], 21) by unfold getR; exact if_neg (fun h => hd h.1)]
    refine Ev.congr (fun k => ?_) (Ev.now _)
    unfold weighhouseref02_Get.f
    rw [if_pos hc, if_neg hd]
theorem getR_len (z : Bool) (l : List Int) (hb : ∀ x ∈ l, 0 ≤ x ∧ x ≤ 255) : (getR z l).1.length ≤ 255 := by
  unfold getR
  split
  · exact getV_len z l hb
  · simp
end Go.Proofs.YtblaibigjhlblaaGreatDoor.Th
end

section
/- layer 2: a text cut at its spaces -/
set_option linter.unusedVariables false
set_option linter.unusedSimpArgs false
namespace Go.Proofs.YtblaibigjhlblaaGreatDoor.Th

def sp0 : List UInt8 → List (List UInt8)
  | [] => [[]]
  | c :: r => if c = 32 then [] :: sp0 r else match sp0 r with
    | [] => [[c]]
    | p :: ps => (c :: p) :: ps
theorem sp0_miss : ∀ p : List UInt8, (∀ x ∈ p, x ≠ 32) → sp0 p = [p]
  | [], _ => rfl
  | c :: r, h => by
    rw [sp0, if_neg (h c (by simp)), sp0_miss r (fun x hx => h x (List.mem_cons_of_mem _ hx))]
theorem sp0_hit : ∀ (p r : List UInt8), (∀ x ∈ p, x ≠ 32) → sp0 (p ++ 32 :: r) = p :: sp0 r
  | [], r, _ => by rw [List.nil_append, sp0, if_pos rfl]
  | c :: p, r, h => by
    rw [List.cons_append, sp0, if_neg (h c (by simp)), sp0_hit p r (fun x hx => h x (List.mem_cons_of_mem _ hx))]
theorem splitK_sp0 : ∀ L : List UInt8, Lib.splitK [32] 0 (Lib.count L [32]) L = sp0 L
  | [] => by
    rw [Lib.count_miss (by decide)]
    rfl
  | c :: r => by
    have ih := splitK_sp0 r
    by_cases hc : c = 32
    · subst hc
      rw [Lib.count_cons_eq, Nat.add_comm, sp0, if_pos rfl, ← ih]
      have hix : Lib.index (32 :: r) [32] = 0 := by rw [Lib.index]; simp [List.isPrefixOf]
      rw [Lib.splitK, hix, if_neg (by decide)]
      rfl
    · rw [Lib.count_cons_ne c 32 r hc, sp0, if_neg hc, ← ih]
      generalize hk : Lib.count r [32] = k
      cases k with
      | zero => rfl
      | succ k =>
        obtain ⟨j, hj⟩ := Lib.index_of_count (s := r) (old := [32]) (by omega)
        have hp : ([32] : List UInt8).isPrefixOf (c :: r) = false := by simp [List.isPrefixOf, Ne.symm hc]
        have hix : Lib.index (c :: r) [32] = ((j + 1 : Nat) : Int) := by
          rw [Lib.index, hp, hj, if_neg (by decide), if_neg (by rw [beq_iff_eq]; omega)]
          omega
        rw [Lib.splitK, Lib.splitK, hix, hj, if_neg (by rw [beq_iff_eq]; omega), if_neg (by rw [beq_iff_eq]; omega)]
        have e1 : (((j + 1 : Nat) : Int)).toNat = j + 1 := by omega
        have e2 : ((j : Nat) : Int).toNat = j := by omega
        rw [e1, e2]
        simp [List.take_succ_cons]
end Go.Proofs.YtblaibigjhlblaaGreatDoor.Th
end

section
/- layer 2: values written are read back, as bytes and as text -/
set_option linter.unusedVariables false
set_option linter.unusedSimpArgs false
namespace Go.Proofs.YtblaibigjhlblaaGreatDoor.Th
open Go.RowKit Go.Proofs.YtblaibigjhlblaaGreatDoorW.PrintWords Go.Proofs.YtblaibigjhlblaaGreatDoorW.Hb Go.Proofs.YtblaibigjhlblaaGreatDoor.Q

/-- A value that may be, of a number that is an int. -/
def Okb (v : S47) : Prop := okv v.f0 v.f1 v.f2 = true ∧ -9223372036854775808 ≤ v.f1 ∧ v.f1 ≤ 9223372036854775807
theorem isText_of {v : S47} (h : Okb v) : ∃ t : ByteArray, value_text.f v.f0 v.f1 v.f2 = some t ∧ IsText v.f0 v.f1 v.f2 t.data.toList ∧ t.size ≤ 600 := by
  obtain ⟨t, h1, h2⟩ := text_some v.f0 v.f1 v.f2 h.1 h.2.1 h.2.2
  exact ⟨t, h1, ⟨h.1, h.2.1, h.2.2, t, h1, rfl⟩, h2⟩
/-! ### bytes -/
theorem gval_back {v : S47} (h : Okb v) (rest : List Int) : gval true (pval v ++ rest) 0 = (v, rest, 0) := by
  obtain ⟨t, _, ht, _⟩ := isText_of h
  obtain ⟨f0, f1, f2⟩ := v
  have hb := h.2
  dsimp only at ht hb
  have e : pval ⟨f0, f1, f2⟩ ++ rest = f0 :: ((if f0 = 1 then bigL (IntKind.u64.wrap f1) 8 else if f0 = 2 then textB f2 else [f1]) ++ rest) := rfl
  rw [e]
  have hk := isText_cases ht
  by_cases h1 : f0 = 1
  · subst h1
    rw [if_pos rfl]
    have hc : f2 = ⟨#[]⟩ := by
      rcases hk with ⟨_, h, _⟩ | ⟨h, _⟩ | ⟨h, _⟩ | ⟨h, _⟩
      · exact h
      · cases h
      · cases h
      · cases h
    rw [gval_1 (rByte_back 1 _) (rInt_back f1 rest hb.1 hb.2), hc]
  · by_cases h2 : f0 = 2
    · subst h2
      rw [if_neg (by decide), if_pos rfl]
      have hc : f1 = 0 ∧ f2.size ≤ 256 := by
        rcases hk with ⟨h, _⟩ | ⟨_, h1, h2, _⟩ | ⟨h, _⟩ | ⟨h, _⟩
        · cases h
        · exact ⟨h1, h2⟩
        · cases h
        · cases h
      rw [gval_2 (rByte_back 2 _) (rText_back f2 rest (by omega)), hc.1]
    · have h3 : f0 = 3 := by
        rcases hk with ⟨h, _⟩ | ⟨h, _⟩ | ⟨h, _⟩ | ⟨h, _⟩
        · exact absurd h h1
        · exact absurd h h2
        · exact h
        · exact h
      subst h3
      have hc : f2 = ⟨#[]⟩ := by
        rcases hk with ⟨h, _⟩ | ⟨h, _⟩ | ⟨_, _, h, _⟩ | ⟨_, _, h, _⟩
        · cases h
        · cases h
        · exact h
        · exact h
      rw [if_neg (by decide), if_neg (by decide), List.singleton_append, gval_3 (rByte_back 3 _) (rByte_back f1 rest), hc]
theorem gvals_back : ∀ (l acc : List S47), (∀ v ∈ l, Okb v) → gvals true l.length (pvals l) 0 acc = (acc ++ l, [], 0)
  | [], acc, _ => by simp [gvals_0, pvals]
  | v :: r, acc, h => by
    have e : pvals (v :: r) = pval v ++ pvals r := rfl
    rw [List.length_cons, e, gvals_step r.length acc (.inl rfl) (gval_back (h v (by simp)) (pvals r)), gvals_back r _ (fun x hx => h x (List.mem_cons_of_mem _ hx))]
    simp
theorem get_put (l : List S47) (hl : l.length ≤ 255) (h : ∀ v ∈ l, Okb v) : getR true (putB l) = (l, 0) := by
  have e : getV true (putB l) = (l, [], 0) := by
    unfold putB
    rw [getV_is (rByte_back (l.length : Int) (pvals l)), gvals_back l [] h]
    rfl
  unfold getR
  rw [e, if_pos ⟨rfl, ok_of (fun v hv => (h v hv).1)⟩]
theorem pval_B {v : S47} (h : okP v = true) : ∀ x ∈ pval v, 0 ≤ x ∧ x ≤ 255 := by
  intro x hx
  have hk := okP_cases h
  unfold pval at hx
  rcases List.mem_cons.1 hx with rfl | hx
  · omega
  · split at hx
    · exact bigL_B _ _ x hx
    · split at hx
      · unfold textB at hx
        rcases List.mem_append.1 hx with hx | hx
        · exact bigL_B _ _ x hx
        · exact bytesOf_B _ x hx
      · rw [List.mem_singleton] at hx
        omega
theorem putB_B (l : List S47) (hl : l.length ≤ 255) (h : ∀ v ∈ l, okP v = true) : ∀ x ∈ putB l, 0 ≤ x ∧ x ≤ 255 := by
  intro x hx
  rcases List.mem_cons.1 hx with rfl | hx
  · omega
  · obtain ⟨v, hv, hx⟩ := List.mem_flatMap.1 hx
    exact pval_B (h v hv) x hx
/-! ### text -/
def toB (l : List UInt8) : ByteArray := ⟨l.toArray⟩
theorem toB_data (s : ByteArray) : toB s.data.toList = s := by cases s; simp [toB]
theorem spB_eq (s : ByteArray) : spB s = (sp0 s.data.toList).map toB := by
  have h := Lib.splitB_data ⟨#[32]⟩ 0 (Lib.countB s ⟨#[32]⟩) s
  have h2 : (spB s).map (·.data.toList) = sp0 s.data.toList := by
    refine h.trans ?_
    exact splitK_sp0 s.data.toList
  rw [← h2, List.map_map]
  conv => lhs; rw [← List.map_id (spB s)]
  refine List.map_congr_left (fun x _ => ?_)
  exact (toB_data x).symm
theorem sp0_join : ∀ (xs : List (List UInt8)), xs ≠ [] → (∀ x ∈ xs, ∀ c ∈ x, c ≠ 32) → sp0 (Lib.join xs [32]) = xs
  | [], h, _ => absurd rfl h
  | [x], _, h => by
    rw [Lib.join_one]
    exact sp0_miss x (h x (by simp))
  | x :: y :: r, _, h => by
    have e : Lib.join (x :: y :: r) [32] = x ++ 32 :: Lib.join (y :: r) [32] := by
      rw [Lib.join_cons, Lib.join_cons]
      simp [Lib.joinTail]
    rw [e, sp0_hit x _ (h x (by simp)), sp0_join (y :: r) (by simp) (fun z hz => h z (List.mem_cons_of_mem _ hz))]
theorem texts_all : ∀ (l : List S47), (∀ v ∈ l, Okb v) → ∃ ts, textsOf l = some ts ∧ ts.length = l.length ∧ (∀ t ∈ ts, (∀ c ∈ t.data.toList, c ≠ 32) ∧ t.data.toList ≠ [] ∧ t.data.toList.length ≤ 600) ∧ ∀ acc, parseL ts acc = some (acc ++ l, 0)
  | [], _ => ⟨[], rfl, rfl, fun t ht => by simp at ht, fun acc => by simp [parseL]⟩
  | v :: r, h => by
    obtain ⟨ts, h1, h2, h3, h4⟩ := texts_all r (fun x hx => h x (List.mem_cons_of_mem _ hx))
    obtain ⟨t, e1, e2, e3⟩ := isText_of (h v (by simp))
    have hz := Lib.size_eq t
    refine ⟨t :: ts, ?_, by simp [h2], fun x hx => ?_, fun acc => ?_⟩
    · unfold textsOf
      rw [e1, Option.bind_some, h1, Option.bind_some]
    · rcases List.mem_cons.1 hx with rfl | hx
      · exact ⟨(text_no e2).1, (text_no e2).2, by omega⟩
      · exact h3 x hx
    · obtain ⟨a, b, c, ok, w1, _, w2⟩ := word_prog t (by omega)
      obtain ⟨w3, w4⟩ := w2 _ _ _ e2
      simp only [Prod.mk.injEq] at w3
      obtain ⟨rfl, rfl, rfl⟩ := w3
      rw [parseL, w1, Option.bind_some]
      dsimp only
      rw [if_pos w4, h4]
      simp
theorem join_len : ∀ (xs : List (List UInt8)), (∀ x ∈ xs, x.length ≤ 600) → (Lib.join xs [32]).length ≤ 601 * xs.length
  | [], _ => by simp [Lib.join_nil]
  | [x], h => by
    have := h x (by simp)
    rw [Lib.join_one]
    simp only [List.length_cons, List.length_nil]
    omega
  | x :: y :: r, h => by
    have e : Lib.join (x :: y :: r) [32] = x ++ 32 :: Lib.join (y :: r) [32] := by
      rw [Lib.join_cons, Lib.join_cons]
      simp [Lib.joinTail]
    have h1 := h x (by simp)
    have h2 := join_len (y :: r) (fun z hz => h z (List.mem_cons_of_mem _ hz))
    rw [e, List.length_append, List.length_cons, List.length_cons]
    omega
theorem print_parse (l : List S47) (hl : l.length ≤ 255) (h : ∀ v ∈ l, Okb v) : ∃ s, Ev (fun k => value_Print.f k l) s ∧ value_Parse.f s = some (l, 0) := by
  obtain ⟨ts, h1, h2, h3, h4⟩ := texts_all l h
  have ha : allOk l = true := ok_of (fun v hv => (h v hv).1)
  have hj : (joinB ts).length ≤ 601 * l.length := by
    have := join_len (ts.map (·.data.toList)) (fun x hx => by
      obtain ⟨t, ht, rfl⟩ := List.mem_map.1 hx
      exact (h3 t ht).2.2)
    rw [List.length_map, h2] at this
    exact this
  refine ⟨toB (joinB ts), ?_, ?_⟩
  · refine Ev.congr (f := fun k => (value_all.f k l).bind fun q => if q = true then some (toB (joinB ts)) else some ⟨#[]⟩) (fun k => ?_) (Ev.bind (all_ev l (by omega)) (Ev.congr (fun k => by rw [if_pos ha]) (Ev.now _)))
    unfold value_Print.f
    rw [h1, Option.bind_some, if_pos ⟨by omega, by omega⟩]
    rfl
  · have hz : (toB (joinB ts)).size = (joinB ts).length := by rw [Lib.size_eq]; rfl
    unfold value_Parse.f
    cases hl0 : l with
    | nil =>
      subst hl0
      obtain rfl : ts = [] := List.eq_nil_of_length_eq_zero h2
      rw [if_pos (by rw [hz]; rfl)]
    | cons v r =>
      rw [← hl0]
      have hne : ts.map (·.data.toList) ≠ [] := by
        intro e
        have := congrArg List.length e
        rw [List.length_map, h2, hl0] at this
        simp at this
      have hsp : spB (toB (joinB ts)) = ts := by
        rw [spB_eq]
        show (sp0 (joinB ts)).map toB = ts
        unfold joinB
        rw [sp0_join _ hne (fun x hx => by
          obtain ⟨t, ht, rfl⟩ := List.mem_map.1 hx
          exact (h3 t ht).1), List.map_map]
        conv => rhs; rw [← List.map_id ts]
        refine List.map_congr_left (fun x _ => ?_)
        exact toB_data x
      have hpos : (joinB ts).length ≠ 0 := by
        cases hts : ts with
        | nil => rw [hts] at h2; rw [hl0] at h2; simp at h2
        | cons t ts' =>
          have := (h3 t (by rw [hts]; simp)).2.1
          unfold joinB
          rw [List.map_cons, Lib.join_cons, List.length_append]
          have := List.length_pos_iff.2 this
          omega
      have hc : (spB (toB (joinB ts))).length = Lib.countB (toB (joinB ts)) ⟨#[32]⟩ + 1 := Lib.splitB_all ⟨#[32]⟩ (by decide) 0 _ _ rfl
      rw [if_neg (by omega), if_neg (by omega), if_pos ⟨hc, by rw [hsp]; omega⟩, hsp, h4]
      rfl
end Go.Proofs.YtblaibigjhlblaaGreatDoor.Th
end

section
/- ValueBack: the pure statement, proved: values are read as they were written, as bytes and as text -/
set_option linter.unusedVariables false
set_option linter.unusedSimpArgs false
namespace Go.Proofs.YtblaibigjhlblaaGreatDoor.PuValueBack
open Go.RowKit Go.Proofs.YtblaibigjhlblaaGreatDoorW.PrintWords Go.Proofs.YtblaibigjhlblaaGreatDoorW.Hb Go.Proofs.YtblaibigjhlblaaGreatDoorW.Ho Go.Proofs.YtblaibigjhlblaaGreatDoor.Q Go.Proofs.YtblaibigjhlblaaGreatDoor.OpValueBack Go.Proofs.YtblaibigjhlblaaGreatDoor.Th

set_option maxRecDepth 100000 in
theorem knows_50 : weighhouselaw02_knows.f 50 = some true := by decide +kernel
theorem knows_ev : Ev (fun k => weighhouselaw02_knows.f k) true := Ev.of (fun k => weighhouselaw02_knows.mono k) knows_50
theorem own_ok (l : List S47) (h : l.length < 4398046511104) : weighhouselaw02_Own.f l = some l := by
  unfold weighhouselaw02_Own.f
  rw [Option.bind_some, if_pos (by simpa using h)]
  rfl
theorem same_ev (l : List S47) (hm : l.length ≤ 4398046511104) : Ev (fun k => weighhouselaw02_Same.f k l l) true := by
  have loop : ∀ d i : Nat, i + d = l.length → Ev (fun k => weighhouselaw02_Same.l0 k l l (i : Int)) true := by
    intro d
    induction d with
    | zero =>
      intro i hi
      refine Ev.step (f := fun _ => some true) (fun k => ?_) (Ev.now _)
      simp only [weighhouselaw02_Same.l0]
      rw [if_neg (by omega)]
    | succ d ih =>
      intro i hi
      refine Ev.step (f := fun k => weighhouselaw02_Same.l0 k l l ((i + 1 : Nat) : Int)) (fun k => ?_) (ih (i + 1) (by omega))
      simp only [weighhouselaw02_Same.l0]
      have h1 : (0 : Int) ≤ (i : Int) := by omega
      have h2 : (i : Int) < (l.length : Int) := by omega
      have h3 : wrap64 ((i : Int) + 1) = ((i + 1 : Nat) : Int) := by rw [w64 (by omega) (by omega)]; omega
      simp [h1, h2, h3]
  refine Ev.congr (f := fun k => weighhouselaw02_Same.l0 k l l 0) (fun k => ?_) (loop l.length 0 (by omega))
  unfold weighhouselaw02_Same.f
  rw [if_pos rfl]
theorem wfI {x : Int} (h : (Lit.int .i64 x).wf = true) : -9223372036854775808 ≤ x ∧ x ≤ 9223372036854775807 := by
  simp only [Lit.wf, IntKind.min, IntKind.max, IntKind.signed, IntKind.bits, Bool.and_eq_true] at h
  simp at h
  omega
theorem pure : Pure := by
  intro l ⟨hl1, hl2, hq⟩
  have hn : l.length < 4398046511104 := by unfold reachBytes at hl1; omega
  have w0 : wrap64 (0 + 0) = 0 := by unfold wrap64; omega
  refine Ev.rounds (Ev.congr (f := fun k => (value_Put.f k l).bind fun c => (if c.2 = 0 then ((value_Get.f k c.1).bind fun y => (value_Print.f k l).bind fun t => (value_Parse.f t).bind fun z => (if wrap64 (y.2 + z.2) = 0 then ((weighhouselaw02_Same.f k y.1 l).bind fun s => (if s = true then ((weighhouselaw02_Same.f k z.1 l).bind fun u => (if u = true then ((weighhouselaw02_knows.f k).bind fun q => some q) else some false)) else some false)) else some false)) else (if (c.1.length : Int) = 0 then ((weighhouselaw02_knows.f k).bind fun q => some q) else some false))) (fun k => ?_) (Ev.bind (put_ev l (by omega)) ?_))
  · unfold weighhouselaw02_ValueBack.f weighhouselaw02_num.f
    simp only [own_ok l hn, Option.bind_some]
  · unfold putR
    by_cases hb : 255 < l.length
    · rw [if_pos hb]
      refine Ev.congr (fun k => if_neg (by decide)) (Ev.congr (fun k => if_pos rfl) ?_)
      exact Ev.bind knows_ev (Ev.now _)
    · rw [if_neg hb]
      by_cases ha : allOk l = true
      · rw [if_pos ha]
        have hO : ∀ v ∈ l, Okb v := fun v hv => ⟨ok_mem ha v hv, wfI (hq v hv).2.1⟩
        have hP : ∀ v ∈ l, okP v = true := List.all_eq_true.1 (all_P ha)
        have g := get_ev (putB l) (putB_B l (by omega) hP) (by have := pvals_len l hP; unfold putB; rw [List.length_cons]; omega)
        rw [get_put l (by omega) hO] at g
        obtain ⟨s, s1, s2⟩ := print_parse l (by omega) hO
        refine Ev.congr (fun k => if_pos rfl) (Ev.bind g (Ev.bind s1 (Ev.congr (fun k => by rw [s2, Option.bind_some, if_pos w0]) ?_)))
        exact Ev.bind (same_ev l (by omega)) (Ev.congr (fun k => if_pos rfl) (Ev.bind (same_ev l (by omega)) (Ev.congr (fun k => if_pos rfl) (Ev.bind knows_ev (Ev.now _)))))
      · rw [if_neg ha]
        refine Ev.congr (fun k => if_neg (by decide)) (Ev.congr (fun k => if_pos rfl) ?_)
        exact Ev.bind knows_ev (Ev.now _)
end Go.Proofs.YtblaibigjhlblaaGreatDoor.PuValueBack
end
