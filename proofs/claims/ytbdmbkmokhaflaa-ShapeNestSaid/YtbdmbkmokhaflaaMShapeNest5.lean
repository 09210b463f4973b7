/- texts of one claim, merged: each in a section of its own -/
import Derived.Test.YtbdmbkmokhaflaaMShapeNest3
import Derived.Test.YtbdmbkmokhaflaaMShapeNest4
section
-- written by hprint.py (a program of these sessions) out of the translation; Lean checks it
namespace Go.Proofs.Ytbdmbkmokhaflaa.Q
open Go.RowKit Go.Proofs.YtbdmbkmokhaflaaW.Hb Go.Proofs.YtbdmbkmokhaflaaW.PrintWords Go.Proofs.YtbdmbkmokhaflaaW.PrintLast Go.Proofs.YtbdmbkmokhaflaaW.PrintMore
attribute [local go_sem] max2_int min2_int max_two min_two max_three min_three max_four min_four   -- for this text's walks alone
set_option linter.unusedVariables false
set_option linter.unusedSimpArgs false

/-! ### weighhouselaw06_ShapeNest: function 8 -/
mutual
def weighhouselaw06_ShapeNest.j0 : Nat → List (S31) → Int → Bool → Option (Bool)
  | 0, _, _, _ => none
  | k + 1, x0, x1, x21 => if x21 = true then ((weighhouselaw06_knows.f k).bind fun t302 => (some t302)) else ((weighhouselaw06_Own.f x0).bind fun t303 => ((shape_Match.f t303).bind fun bt306 => ((weighhouselaw06_num.f bt306.2).bind fun t310 => (if t310 = 0 then (if (bt306.1.length : Int) = (x0.length : Int) then (if (x0.length : Int) = 0 then (none) else (weighhouselaw06_ShapeNest.l0 k x0 (Int.tmod (wrap64 ((Int.tmod x1 (x0.length : Int)) + (x0.length : Int))) (x0.length : Int)) bt306.1 0)) else (some false)) else ((weighhouselaw06_knows.f k).bind fun t311 => (some t311))))))
def weighhouselaw06_ShapeNest.l0 : Nat → List (S31) → Int → List Int → Int → Option (Bool)
  | 0, _, _, _, _ => none
  | k + 1, x0, x1, x5, x8 => if x8 < (x0.length : Int) then (if 0 ≤ x8 then (if ((rd_T31 x0 x8).f0) = 50 then (weighhouselaw06_ShapeNest.l1 k x0 x1 x5 x8 0) else (weighhouselaw06_ShapeNest.l0 k x0 x1 x5 (wrap64 (x8 + 1)))) else (none)) else (weighhouselaw06_ShapeNest.l2 k x0 x1 x5 ([] : List Int) 0)
def weighhouselaw06_ShapeNest.l1 : Nat → List (S31) → Int → List Int → Int → Int → Option (Bool)
  | 0, _, _, _, _, _ => none
  | k + 1, x0, x1, x5, x8, x9 => if x9 < (x0.length : Int) then (if 0 ≤ x9 then (if ((rd_T31 x0 x9).f0) = 50 then (if x9 < (x5.length : Int) then (if 0 ≤ x8 then (if x8 < (x5.length : Int) then (if (rd x5 x9) < (rd x5 x8) then (if x9 > (rd x5 x8) then (if x9 < x8 then (some false) else (weighhouselaw06_ShapeNest.l1 k x0 x1 x5 x8 (wrap64 (x9 + 1)))) else (weighhouselaw06_ShapeNest.l1 k x0 x1 x5 x8 (wrap64 (x9 + 1)))) else (weighhouselaw06_ShapeNest.l1 k x0 x1 x5 x8 (wrap64 (x9 + 1)))) else (none)) else (none)) else (none)) else (weighhouselaw06_ShapeNest.l1 k x0 x1 x5 x8 (wrap64 (x9 + 1)))) else (none)) else (weighhouselaw06_ShapeNest.l0 k x0 x1 x5 (wrap64 (x8 + 1)))
def weighhouselaw06_ShapeNest.l2 : Nat → List (S31) → Int → List Int → List Int → Int → Option (Bool)
  | 0, _, _, _, _, _ => none
  | k + 1, x0, x1, x5, x7, x10 => if x10 < x1 then (if 0 ≤ x10 then (if x10 < (x0.length : Int) then (if ((rd_T31 x0 x10).f0) = 48 then (weighhouselaw06_ShapeNest.j4 k x0 x1 x5 x7 x10 false) else (weighhouselaw06_ShapeNest.j4 k x0 x1 x5 x7 x10 (((rd_T31 x0 x10).f0) != 51))) else (none)) else (none)) else ((weighhouselaw06_Own.f x0).bind fun t328 => ((shape_Depth.f t328).bind fun bt331 => ((weighhouselaw06_Own.f x0).bind fun t333 => ((shape_Around.f t333 x1).bind fun t336 => ((weighhouselaw03_Ints.f k t336 x7).bind fun t339 => (if t339 = true then ((weighhouselaw06_num.f bt331.2).bind fun t340 => (if t340 = 0 then (if bt331.1 ≥ (x7.length : Int) then ((weighhouselaw06_knows.f k).bind fun t341 => (some t341)) else (some false)) else (some false))) else (some false)))))))
def weighhouselaw06_ShapeNest.j4 : Nat → List (S31) → Int → List Int → List Int → Int → Bool → Option (Bool)
  | 0, _, _, _, _, _, _ => none
  | k + 1, x0, x1, x5, x7, x10, x114 => if x114 = true then (weighhouselaw06_ShapeNest.l2 k x0 x1 x5 x7 (wrap64 (x10 + 1))) else (if 0 ≤ x10 then (if x10 < (x5.length : Int) then (if 0 ≤ (rd x5 x10) then (if (rd x5 x10) < (x0.length : Int) then (if ((rd_T31 x0 (rd x5 x10)).f0) = 49 then (if (rd x5 x10) < (x5.length : Int) then (if (rd x5 (rd x5 x10)) ≥ x1 then (if x7.length < 17592186044416 then (weighhouselaw06_ShapeNest.l2 k x0 x1 x5 (x7 ++ [x10]) (wrap64 (x10 + 1))) else (none)) else (weighhouselaw06_ShapeNest.l2 k x0 x1 x5 x7 (wrap64 (x10 + 1)))) else (none)) else (if (rd x5 x10) ≥ x1 then (if x7.length < 17592186044416 then (weighhouselaw06_ShapeNest.l2 k x0 x1 x5 (x7 ++ [x10]) (wrap64 (x10 + 1))) else (none)) else (weighhouselaw06_ShapeNest.l2 k x0 x1 x5 x7 (wrap64 (x10 + 1))))) else (none)) else (none)) else (none)) else (none))
end
def weighhouselaw06_ShapeNest.f (k : Nat) (l0 : List (S31)) (a1 : Int) : Option (Bool) := if (l0.length : Int) > 200 then (weighhouselaw06_ShapeNest.j0 k l0 a1 true) else (weighhouselaw06_ShapeNest.j0 k l0 a1 ((l0.length : Int) == 0))
theorem weighhouselaw06_ShapeNest.mono_l : ∀ k, (∀ y0 y1 y2, LeO (weighhouselaw06_ShapeNest.j0 k y0 y1 y2) (weighhouselaw06_ShapeNest.j0 (k + 1) y0 y1 y2)) ∧ (∀ y0 y1 y2 y3, LeO (weighhouselaw06_ShapeNest.l0 k y0 y1 y2 y3) (weighhouselaw06_ShapeNest.l0 (k + 1) y0 y1 y2 y3)) ∧ (∀ y0 y1 y2 y3 y4, LeO (weighhouselaw06_ShapeNest.l1 k y0 y1 y2 y3 y4) (weighhouselaw06_ShapeNest.l1 (k + 1) y0 y1 y2 y3 y4)) ∧ (∀ y0 y1 y2 y3 y4, LeO (weighhouselaw06_ShapeNest.l2 k y0 y1 y2 y3 y4) (weighhouselaw06_ShapeNest.l2 (k + 1) y0 y1 y2 y3 y4)) ∧ (∀ y0 y1 y2 y3 y4 y5, LeO (weighhouselaw06_ShapeNest.j4 k y0 y1 y2 y3 y4 y5) (weighhouselaw06_ShapeNest.j4 (k + 1) y0 y1 y2 y3 y4 y5))
  | 0 => ⟨fun _ _ _ r h => by simp [weighhouselaw06_ShapeNest.j0] at h, fun _ _ _ _ r h => by simp [weighhouselaw06_ShapeNest.l0] at h, fun _ _ _ _ _ r h => by simp [weighhouselaw06_ShapeNest.l1] at h, fun _ _ _ _ _ r h => by simp [weighhouselaw06_ShapeNest.l2] at h, fun _ _ _ _ _ _ r h => by simp [weighhouselaw06_ShapeNest.j4] at h⟩
  | k + 1 => by
    obtain ⟨ih0, ih1, ih2, ih3, ih4⟩ := weighhouselaw06_ShapeNest.mono_l k
    refine ⟨?_, ?_, ?_, ?_, ?_⟩
    · intro y0 y1 y2
      unfold weighhouselaw06_ShapeNest.j0
      repeat' first
      | (with_reducible exact ih0 _ _ _)
      | (with_reducible exact ih1 _ _ _ _)
      | (with_reducible exact ih2 _ _ _ _ _)
      | (with_reducible exact ih3 _ _ _ _ _)
      | (with_reducible exact ih4 _ _ _ _ _ _)
      | (with_reducible exact weighhouselaw03_Ints.mono _ _ _)
      | (with_reducible exact weighhouselaw06_knows.mono _)
      | (with_reducible exact LeO.refl _)
      | (with_reducible exact LeO.none _)
      | (with_reducible refine LeO.ite ?_ ?_)
      | (with_reducible refine LeO.bind ?_ (fun _ => ?_))
      | exact ih0 _ _ _
      | exact ih1 _ _ _ _
      | exact ih2 _ _ _ _ _
      | exact ih3 _ _ _ _ _
      | exact ih4 _ _ _ _ _ _
      | exact weighhouselaw03_Ints.mono _ _ _
      | exact weighhouselaw06_knows.mono _
      | exact LeO.none _
      | refine LeO.ite ?_ ?_
      | refine LeO.bind ?_ (fun _ => ?_)
    · intro y0 y1 y2 y3
      unfold weighhouselaw06_ShapeNest.l0
      repeat' first
      | (with_reducible exact ih0 _ _ _)
      | (with_reducible exact ih1 _ _ _ _)
      | (with_reducible exact ih2 _ _ _ _ _)
      | (with_reducible exact ih3 _ _ _ _ _)
      | (with_reducible exact ih4 _ _ _ _ _ _)
      | (with_reducible exact weighhouselaw03_Ints.mono _ _ _)
      | (with_reducible exact weighhouselaw06_knows.mono _)
      | (with_reducible exact LeO.refl _)
      | (with_reducible exact LeO.none _)
      | (with_reducible refine LeO.ite ?_ ?_)
      | (with_reducible refine LeO.bind ?_ (fun _ => ?_))
      | exact ih0 _ _ _
      | exact ih1 _ _ _ _
      | exact ih2 _ _ _ _ _
      | exact ih3 _ _ _ _ _
      | exact ih4 _ _ _ _ _ _
      | exact weighhouselaw03_Ints.mono _ _ _
      | exact weighhouselaw06_knows.mono _
      | exact LeO.none _
      | refine LeO.ite ?_ ?_
      | refine LeO.bind ?_ (fun _ => ?_)
    · intro y0 y1 y2 y3 y4
      unfold weighhouselaw06_ShapeNest.l1
      repeat' first
      | (with_reducible exact ih0 _ _ _)
      | (with_reducible exact ih1 _ _ _ _)
      | (with_reducible exact ih2 _ _ _ _ _)
      | (with_reducible exact ih3 _ _ _ _ _)
      | (with_reducible exact ih4 _ _ _ _ _ _)
      | (with_reducible exact weighhouselaw03_Ints.mono _ _ _)
      | (with_reducible exact weighhouselaw06_knows.mono _)
      | (with_reducible exact LeO.refl _)
      | (with_reducible exact LeO.none _)
      | (with_reducible refine LeO.ite ?_ ?_)
      | (with_reducible refine LeO.bind ?_ (fun _ => ?_))
      | exact ih0 _ _ _
      | exact ih1 _ _ _ _
      | exact ih2 _ _ _ _ _
      | exact ih3 _ _ _ _ _
      | exact ih4 _ _ _ _ _ _
      | exact weighhouselaw03_Ints.mono _ _ _
      | exact weighhouselaw06_knows.mono _
      | exact LeO.none _
      | refine LeO.ite ?_ ?_
      | refine LeO.bind ?_ (fun _ => ?_)
    · intro y0 y1 y2 y3 y4
      unfold weighhouselaw06_ShapeNest.l2
      repeat' first
      | (with_reducible exact ih0 _ _ _)
      | (with_reducible exact ih1 _ _ _ _)
      | (with_reducible exact ih2 _ _ _ _ _)
      | (with_reducible exact ih3 _ _ _ _ _)
      | (with_reducible exact ih4 _ _ _ _ _ _)
      | (with_reducible exact weighhouselaw03_Ints.mono _ _ _)
      | (with_reducible exact weighhouselaw06_knows.mono _)
      | (with_reducible exact LeO.refl _)
      | (with_reducible exact LeO.none _)
      | (with_reducible refine LeO.ite ?_ ?_)
      | (with_reducible refine LeO.bind ?_ (fun _ => ?_))
      | exact ih0 _ _ _
      | exact ih1 _ _ _ _
      | exact ih2 _ _ _ _ _
      | exact ih3 _ _ _ _ _
      | exact ih4 _ _ _ _ _ _
      | exact weighhouselaw03_Ints.mono _ _ _
      | exact weighhouselaw06_knows.mono _
      | exact LeO.none _
      | refine LeO.ite ?_ ?_
      | refine LeO.bind ?_ (fun _ => ?_)
    · intro y0 y1 y2 y3 y4 y5
      unfold weighhouselaw06_ShapeNest.j4
      repeat' first
      | (with_reducible exact ih0 _ _ _)
      | (with_reducible exact ih1 _ _ _ _)
      | (with_reducible exact ih2 _ _ _ _ _)
      | (with_reducible exact ih3 _ _ _ _ _)
      | (with_reducible exact ih4 _ _ _ _ _ _)
      | (with_reducible exact weighhouselaw03_Ints.mono _ _ _)
      | (with_reducible exact weighhouselaw06_knows.mono _)
      | (with_reducible exact LeO.refl _)
      | (with_reducible exact LeO.none _)
      | (with_reducible refine LeO.ite ?_ ?_)
      | (with_reducible refine LeO.bind ?_ (fun _ => ?_))
      | exact ih0 _ _ _
      | exact ih1 _ _ _ _
      | exact ih2 _ _ _ _ _
      | exact ih3 _ _ _ _ _
      | exact ih4 _ _ _ _ _ _
      | exact weighhouselaw03_Ints.mono _ _ _
      | exact weighhouselaw06_knows.mono _
      | exact LeO.none _
      | refine LeO.ite ?_ ?_
      | refine LeO.bind ?_ (fun _ => ?_)
theorem weighhouselaw06_ShapeNest.mono : ∀ a0 a1 k, LeO (weighhouselaw06_ShapeNest.f k a0 a1) (weighhouselaw06_ShapeNest.f (k + 1) a0 a1) := by
  intro a0 a1 k
  obtain ⟨ih0, ih1, ih2, ih3, ih4⟩ := weighhouselaw06_ShapeNest.mono_l k
  unfold weighhouselaw06_ShapeNest.f
  repeat' first
      | (with_reducible exact ih0 _ _ _)
      | (with_reducible exact ih1 _ _ _ _)
      | (with_reducible exact ih2 _ _ _ _ _)
      | (with_reducible exact ih3 _ _ _ _ _)
      | (with_reducible exact ih4 _ _ _ _ _ _)
      | (with_reducible exact weighhouselaw03_Ints.mono _ _ _)
      | (with_reducible exact weighhouselaw06_knows.mono _)
      | (with_reducible exact LeO.refl _)
      | (with_reducible exact LeO.none _)
      | (with_reducible refine LeO.ite ?_ ?_)
      | (with_reducible refine LeO.bind ?_ (fun _ => ?_))
      | exact ih0 _ _ _
      | exact ih1 _ _ _ _
      | exact ih2 _ _ _ _ _
      | exact ih3 _ _ _ _ _
      | exact ih4 _ _ _ _ _ _
      | exact weighhouselaw03_Ints.mono _ _ _
      | exact weighhouselaw06_knows.mono _
      | exact LeO.none _
      | refine LeO.ite ?_ ?_
      | refine LeO.bind ?_ (fun _ => ?_)
set_option maxHeartbeats 8000000 in
set_option maxRecDepth 100000 in
theorem weighhouselaw06_ShapeNest.calls (k : Nat) (A0 : Option Addr) (c0 : Nat) (l0 : List (S31)) (a1 : Int) (r : Bool) (w : World) (hr0 : Kd.C k31 w A0 l0.length l0) (hc0 : l0.length ≤ c0) (h : weighhouselaw06_ShapeNest.f k l0 a1 = some r) :
    Calls Try.prog 8 #[.slice A0 l0.length c0, .int .i64 a1] w fun e w' => e = .returned (.bool r) ∧ Below w.heap.size w w' := by
  have HR0 := Aside0.mk hr0
  have HC0 := Aside0.mk hc0
  clear hr0 hc0
  have HB := Aside0.mk (Below.refl w.heap.size w)
  have H : (if (l0.length : Int) > 200 then (weighhouselaw06_ShapeNest.j0 k l0 a1 true) else (weighhouselaw06_ShapeNest.j0 k l0 a1 ((l0.length : Int) == 0))) = some r := h
  clear h
  have HC3 := Aside0.mk H
  clear H
  go_enter Try.func8, Try.ntmps8
  go_upto_region 1 with (fail)
  repeat (go_quiet (fail); go_upto_region 1 with (fail))
  go_cut [21] (fun v21 wc => ∃ (kq : Nat) (x21_2 : Bool), v21 = .bool x21_2 ∧ Aside0 (weighhouselaw06_ShapeNest.j0 kq l0 a1 x21_2 = some r) ∧ Aside0 (kq ≤ k) ∧ Aside0 (Below w.heap.size w wc))
  case first =>
    have H := HC3.out
    clear HC3
    by_cases c4 : (l0.length : Int) > 200
    · rw [if_pos c4] at H
      have c4b0 : decide (200 < (l0.length : Int)) = true := decide_eq_true c4
      have c4b1 : decide (200 < l0.length) = true := decide_eq_true (by omega)
      clear c4
      (first | rw [c4b0] | (simp only [i64_w, i32_w]; rw [c4b0]) | skip)
      have H' := Aside0.mk H
      clear H
      go_wp2
      repeat (go_quiet (fail); try go_wp2)
      go_meet
      case rel => exact ⟨_, (true), (by first | rfl | (simp; done) | (simp [*]; done)), H', ⟨by first | omega | exact Nat.le_refl _⟩, ⟨by repeat (first | (with_reducible first | exact HB.out | apply below_alloc | apply pw_below_drewN | apply below_drew1) | exact HB.out)⟩⟩
    · rw [if_neg c4] at H
      have c4b0 : decide (200 < (l0.length : Int)) = false := decide_eq_false c4
      have c4b1 : decide (200 < l0.length) = false := decide_eq_false (by omega)
      clear c4
      (first | rw [c4b0] | (simp only [i64_w, i32_w]; rw [c4b0]) | skip)
      have H' := Aside0.mk H
      clear H
      go_wp2
      repeat (go_quiet (fail); try go_wp2)
      go_meet
      case rel => exact ⟨_, (((l0.length : Int) == 0)), (by first | rfl | (simp; done) | (simp [*]; done)), H', ⟨by first | omega | exact Nat.le_refl _⟩, ⟨by repeat (first | (with_reducible first | exact HB.out | apply below_alloc | apply pw_below_drewN | apply below_drew1) | exact HB.out)⟩⟩
  case rest =>
    clear HC3
    try clear p2
    try clear c4
    try clear c4b0
    try clear c4b1
    obtain ⟨kq, x21_2, rfl, HA, HJ2, HB⟩ := hcut
    cases kq with
    | zero => exact absurd HA.out (by simp [weighhouselaw06_ShapeNest.j0])
    | succ kj2 =>
      have H := HA.out
      clear HA
      simp only [weighhouselaw06_ShapeNest.j0] at H
      by_cases c5 : x21_2 = true
      · subst c5
        have H1 : ((weighhouselaw06_knows.f kj2).bind fun t302 => (some t302)) = some r := by rw [if_pos rfl] at H; exact H
        clear H
        have H := H1
        clear H1
        replace H := Option.bind_eq_some_iff.mp H
        obtain ⟨t302, A60, H⟩ := H
        replace H : (some t302) = some r := H
        have A6 := Aside0.mk A60
        clear A60
        obtain rfl := Option.some.inj H
        go_wp2_with (first | (go_at_call 9; (with_reducible refine (weighhouselaw06_knows.calls kj2  t302 _ A6.out).mono ?_); rintro e w7 ⟨rfl, hb⟩; have n0_ := Aside0.mk (below_step (by repeat (first | (with_reducible first | exact HB.out | apply below_alloc | apply pw_below_drewN | apply below_drew1) | exact HB.out)) hb); clear HB; have HB := n0_; clear n0_; (try clear hb); (try clear hb2); (try clear hk); (try clear hi)))
        repeat (go_quiet (first | (go_at_call 9; (with_reducible refine (weighhouselaw06_knows.calls kj2  t302 _ A6.out).mono ?_); rintro e w7 ⟨rfl, hb⟩; have n0_ := Aside0.mk (below_step (by repeat (first | (with_reducible first | exact HB.out | apply below_alloc | apply pw_below_drewN | apply below_drew1) | exact HB.out)) hb); clear HB; have HB := n0_; clear n0_; (try clear hb); (try clear hb2); (try clear hk); (try clear hi))); try go_wp2_with (first | (go_at_call 9; (with_reducible refine (weighhouselaw06_knows.calls kj2  t302 _ A6.out).mono ?_); rintro e w7 ⟨rfl, hb⟩; have n0_ := Aside0.mk (below_step (by repeat (first | (with_reducible first | exact HB.out | apply below_alloc | apply pw_below_drewN | apply below_drew1) | exact HB.out)) hb); clear HB; have HB := n0_; clear n0_; (try clear hb); (try clear hb2); (try clear hk); (try clear hi))))
        go_ret
        exact ⟨by first | rfl | (simp [errW_none, errW_some] <;> rfl) | (simp [*, errW_none, errW_some] <;> rfl), by repeat (first | (with_reducible first | exact HB.out | apply below_alloc | apply pw_below_drewN | apply below_drew1) | exact HB.out)⟩
      · replace c5 := Bool.eq_false_iff.mpr c5
        subst c5
        have H1 : ((weighhouselaw06_Own.f l0).bind fun t303 => ((shape_Match.f t303).bind fun bt306 => ((weighhouselaw06_num.f bt306.2).bind fun t310 => (if t310 = 0 then (if (bt306.1.length : Int) = (l0.length : Int) then (if (l0.length : Int) = 0 then (none) else (weighhouselaw06_ShapeNest.l0 kj2 l0 (Int.tmod (wrap64 ((Int.tmod a1 (l0.length : Int)) + (l0.length : Int))) (l0.length : Int)) bt306.1 0)) else (some false)) else ((weighhouselaw06_knows.f kj2).bind fun t311 => (some t311)))))) = some r := by rw [if_neg (show ¬ (false = true) by decide)] at H; exact H
        clear H
        have H := H1
        clear H1
        replace H := Option.bind_eq_some_iff.mp H
        obtain ⟨t303, A80, H⟩ := H
        replace H : ((shape_Match.f t303).bind fun bt306 => ((weighhouselaw06_num.f bt306.2).bind fun t310 => (if t310 = 0 then (if (bt306.1.length : Int) = (l0.length : Int) then (if (l0.length : Int) = 0 then (none) else (weighhouselaw06_ShapeNest.l0 kj2 l0 (Int.tmod (wrap64 ((Int.tmod a1 (l0.length : Int)) + (l0.length : Int))) (l0.length : Int)) bt306.1 0)) else (some false)) else ((weighhouselaw06_knows.f kj2).bind fun t311 => (some t311))))) = some r := H
        have A8 := Aside0.mk A80
        clear A80
        replace H := Option.bind_eq_some_iff.mp H
        obtain ⟨⟨t306, t307⟩, A90, H⟩ := H
        replace H : ((weighhouselaw06_num.f t307).bind fun t310 => (if t310 = 0 then (if (t306.length : Int) = (l0.length : Int) then (if (l0.length : Int) = 0 then (none) else (weighhouselaw06_ShapeNest.l0 kj2 l0 (Int.tmod (wrap64 ((Int.tmod a1 (l0.length : Int)) + (l0.length : Int))) (l0.length : Int)) t306 0)) else (some false)) else ((weighhouselaw06_knows.f kj2).bind fun t311 => (some t311)))) = some r := H
        have A9 := Aside0.mk A90
        clear A90
        replace H := Option.bind_eq_some_iff.mp H
        obtain ⟨t310, A100, H⟩ := H
        replace H : (if t310 = 0 then (if (t306.length : Int) = (l0.length : Int) then (if (l0.length : Int) = 0 then (none) else (weighhouselaw06_ShapeNest.l0 kj2 l0 (Int.tmod (wrap64 ((Int.tmod a1 (l0.length : Int)) + (l0.length : Int))) (l0.length : Int)) t306 0)) else (some false)) else ((weighhouselaw06_knows.f kj2).bind fun t311 => (some t311))) = some r := H
        have A10 := Aside0.mk A100
        clear A100
        by_cases c11 : t310 = 0
        · rw [if_pos c11] at H
          have c11b0 : (t310 == 0) = true := beq_iff_eq.mpr c11
          have c11b1 : (t310 != 0) = false := bne_eq_false_iff_eq.mpr c11
          clear c11
          by_cases c12 : (t306.length : Int) = (l0.length : Int)
          · rw [if_pos c12] at H
            have c12b0 : ((t306.length : Int) == (l0.length : Int)) = true := beq_iff_eq.mpr c12
            have c12b1 : ((t306.length : Int) != (l0.length : Int)) = false := bne_eq_false_iff_eq.mpr c12
            have c12b2 : (t306.length == l0.length) = true := by first | simpa using c12 | (simp at c12 ⊢; omega)
            clear c12
            by_cases c13 : (l0.length : Int) = 0
            · rw [if_pos c13] at H
              exact absurd H (by simp)
            · rw [if_neg c13] at H
              have c13b0 : ((l0.length : Int) == 0) = false := beq_eq_false_iff_ne.mpr c13
              have c13b1 : ((l0.length : Int) != 0) = true := bne_iff_ne.mpr c13
              have c13b2 : ¬ (l0 = []) := fun h_ => c13 (by rw [h_]; rfl)
              have H' := Aside0.mk H
              clear H
              go_wp2_with (first | (go_at_call 11; (with_reducible refine (weighhouselaw06_Own.calls _ _ l0 t303 _ ?side1 ?side2 A8.out).mono ?_); (case side1 => repeat (first | exact (Kd.C_below HR0.out HB.out) | (with_reducible refine Kd.C_alloc ?_ _) | (with_reducible refine Kd.C_drewN ?_ _) | (with_reducible refine Kd.C_drew ?_))); (case side2 => exact HC0.out); rintro e w14 ⟨v304, rfl, ho0, hb⟩; have n0_ := Aside0.mk (Kd.R_lower ho0 (below_size (by repeat (first | (with_reducible first | exact HB.out | apply below_alloc | apply pw_below_drewN | apply below_drew1) | exact HB.out)))); have n1_ := Aside0.mk (below_step (by repeat (first | (with_reducible first | exact HB.out | apply below_alloc | apply pw_below_drewN | apply below_drew1) | exact HB.out)) hb); clear HB; have HO305 := n0_; have HB := n1_; clear n0_ n1_; (try clear hb); (try clear hb2); (try clear hk); (try clear hi); (try clear ho0); obtain ⟨Ao15, co15, eo15⟩ := Kd.R_slice HO305.out; subst eo15) | (go_at_call 10; (with_reducible refine (shape_Match.calls _ _ t303 t306 t307 _ ?side1 ?side2 A9.out).mono ?_); (case side1 => repeat (first | exact (Kd.R_reads' HO305.out).2.2 | (with_reducible refine Kd.C_alloc ?_ _) | (with_reducible refine Kd.C_drewN ?_ _) | (with_reducible refine Kd.C_drew ?_))); (case side2 => exact (Kd.R_reads' HO305.out).2.1); rintro e w16 ⟨v308, rfl, ho0, hb⟩; have n0_ := Aside0.mk (Kd.R_below (by (with_reducible repeat (first | apply Kd.R_alloc | apply Kd.R_drewN | apply Kd.R_drew)); exact HO305.out) hb); have n1_ := Aside0.mk (Kd.R_lower ho0 (below_size (by repeat (first | (with_reducible first | exact HB.out | apply below_alloc | apply pw_below_drewN | apply below_drew1) | exact HB.out)))); have n2_ := Aside0.mk (below_step (by repeat (first | (with_reducible first | exact HB.out | apply below_alloc | apply pw_below_drewN | apply below_drew1) | exact HB.out)) hb); clear HO305; clear HB; have HO305 := n0_; have HO309 := n1_; have HB := n2_; clear n0_ n1_ n2_; (try clear hb); (try clear hb2); (try clear hk); (try clear hi); (try clear ho0)) | (go_at_call 12; (with_reducible refine (weighhouselaw06_num.calls t307 t310 _ A10.out).mono ?_); rintro e w' ⟨rfl, ⟨nd, rfl⟩⟩; (try first | exact ⟨rfl, _, World.drewN_drewN _ _ _⟩ | exact ⟨rfl, _, Eq.trans (World.drewN_drewN _ _ _) (congrArg (World.drewN _) (Nat.add_assoc _ _ _))⟩); obtain ⟨Ao17, co17, eo17⟩ := Kd.R_slice HO309.out; subst eo17))
              repeat (go_quiet (first | (go_at_call 11; (with_reducible refine (weighhouselaw06_Own.calls _ _ l0 t303 _ ?side1 ?side2 A8.out).mono ?_); (case side1 => repeat (first | exact (Kd.C_below HR0.out HB.out) | (with_reducible refine Kd.C_alloc ?_ _) | (with_reducible refine Kd.C_drewN ?_ _) | (with_reducible refine Kd.C_drew ?_))); (case side2 => exact HC0.out); rintro e w14 ⟨v304, rfl, ho0, hb⟩; have n0_ := Aside0.mk (Kd.R_lower ho0 (below_size (by repeat (first | (with_reducible first | exact HB.out | apply below_alloc | apply pw_below_drewN | apply below_drew1) | exact HB.out)))); have n1_ := Aside0.mk (below_step (by repeat (first | (with_reducible first | exact HB.out | apply below_alloc | apply pw_below_drewN | apply below_drew1) | exact HB.out)) hb); clear HB; have HO305 := n0_; have HB := n1_; clear n0_ n1_; (try clear hb); (try clear hb2); (try clear hk); (try clear hi); (try clear ho0); obtain ⟨Ao15, co15, eo15⟩ := Kd.R_slice HO305.out; subst eo15) | (go_at_call 10; (with_reducible refine (shape_Match.calls _ _ t303 t306 t307 _ ?side1 ?side2 A9.out).mono ?_); (case side1 => repeat (first | exact (Kd.R_reads' HO305.out).2.2 | (with_reducible refine Kd.C_alloc ?_ _) | (with_reducible refine Kd.C_drewN ?_ _) | (with_reducible refine Kd.C_drew ?_))); (case side2 => exact (Kd.R_reads' HO305.out).2.1); rintro e w16 ⟨v308, rfl, ho0, hb⟩; have n0_ := Aside0.mk (Kd.R_below (by (with_reducible repeat (first | apply Kd.R_alloc | apply Kd.R_drewN | apply Kd.R_drew)); exact HO305.out) hb); have n1_ := Aside0.mk (Kd.R_lower ho0 (below_size (by repeat (first | (with_reducible first | exact HB.out | apply below_alloc | apply pw_below_drewN | apply below_drew1) | exact HB.out)))); have n2_ := Aside0.mk (below_step (by repeat (first | (with_reducible first | exact HB.out | apply below_alloc | apply pw_below_drewN | apply below_drew1) | exact HB.out)) hb); clear HO305; clear HB; have HO305 := n0_; have HO309 := n1_; have HB := n2_; clear n0_ n1_ n2_; (try clear hb); (try clear hb2); (try clear hk); (try clear hi); (try clear ho0)) | (go_at_call 12; (with_reducible refine (weighhouselaw06_num.calls t307 t310 _ A10.out).mono ?_); rintro e w' ⟨rfl, ⟨nd, rfl⟩⟩; (try first | exact ⟨rfl, _, World.drewN_drewN _ _ _⟩ | exact ⟨rfl, _, Eq.trans (World.drewN_drewN _ _ _) (congrArg (World.drewN _) (Nat.add_assoc _ _ _))⟩); obtain ⟨Ao17, co17, eo17⟩ := Kd.R_slice HO309.out; subst eo17)); try go_wp2_with (first | (go_at_call 11; (with_reducible refine (weighhouselaw06_Own.calls _ _ l0 t303 _ ?side1 ?side2 A8.out).mono ?_); (case side1 => repeat (first | exact (Kd.C_below HR0.out HB.out) | (with_reducible refine Kd.C_alloc ?_ _) | (with_reducible refine Kd.C_drewN ?_ _) | (with_reducible refine Kd.C_drew ?_))); (case side2 => exact HC0.out); rintro e w14 ⟨v304, rfl, ho0, hb⟩; have n0_ := Aside0.mk (Kd.R_lower ho0 (below_size (by repeat (first | (with_reducible first | exact HB.out | apply below_alloc | apply pw_below_drewN | apply below_drew1) | exact HB.out)))); have n1_ := Aside0.mk (below_step (by repeat (first | (with_reducible first | exact HB.out | apply below_alloc | apply pw_below_drewN | apply below_drew1) | exact HB.out)) hb); clear HB; have HO305 := n0_; have HB := n1_; clear n0_ n1_; (try clear hb); (try clear hb2); (try clear hk); (try clear hi); (try clear ho0); obtain ⟨Ao15, co15, eo15⟩ := Kd.R_slice HO305.out; subst eo15) | (go_at_call 10; (with_reducible refine (shape_Match.calls _ _ t303 t306 t307 _ ?side1 ?side2 A9.out).mono ?_); (case side1 => repeat (first | exact (Kd.R_reads' HO305.out).2.2 | (with_reducible refine Kd.C_alloc ?_ _) | (with_reducible refine Kd.C_drewN ?_ _) | (with_reducible refine Kd.C_drew ?_))); (case side2 => exact (Kd.R_reads' HO305.out).2.1); rintro e w16 ⟨v308, rfl, ho0, hb⟩; have n0_ := Aside0.mk (Kd.R_below (by (with_reducible repeat (first | apply Kd.R_alloc | apply Kd.R_drewN | apply Kd.R_drew)); exact HO305.out) hb); have n1_ := Aside0.mk (Kd.R_lower ho0 (below_size (by repeat (first | (with_reducible first | exact HB.out | apply below_alloc | apply pw_below_drewN | apply below_drew1) | exact HB.out)))); have n2_ := Aside0.mk (below_step (by repeat (first | (with_reducible first | exact HB.out | apply below_alloc | apply pw_below_drewN | apply below_drew1) | exact HB.out)) hb); clear HO305; clear HB; have HO305 := n0_; have HO309 := n1_; have HB := n2_; clear n0_ n1_ n2_; (try clear hb); (try clear hb2); (try clear hk); (try clear hi); (try clear ho0)) | (go_at_call 12; (with_reducible refine (weighhouselaw06_num.calls t307 t310 _ A10.out).mono ?_); rintro e w' ⟨rfl, ⟨nd, rfl⟩⟩; (try first | exact ⟨rfl, _, World.drewN_drewN _ _ _⟩ | exact ⟨rfl, _, Eq.trans (World.drewN_drewN _ _ _) (congrArg (World.drewN _) (Nat.add_assoc _ _ _))⟩); obtain ⟨Ao17, co17, eo17⟩ := Kd.R_slice HO309.out; subst eo17)))
              go_loopg [8] kj2 (fun kq v8 w' => ∃ (x8_2 : Int), v8 = .int .i64 x8_2 ∧ Aside0 (weighhouselaw06_ShapeNest.l0 kq l0 (Int.tmod (wrap64 ((Int.tmod a1 (l0.length : Int)) + (l0.length : Int))) (l0.length : Int)) t306 x8_2 = some r) ∧ Aside0 (kq ≤ kj2) ∧ Aside0 (Kd.R (Kd.int .i64) 3 w' w.heap.size (fun _ => True) (.slice Ao17 t306.length co17) t306) ∧ Aside0 (Below w.heap.size w w'))
              case atStart => exact ⟨(0), (by first | rfl | (simp; done) | (simp [*]; done)), H', ⟨Nat.le_refl _⟩, ⟨by (with_reducible repeat (first | apply Kd.R_alloc | apply Kd.R_drewN | apply Kd.R_drew)); exact HO309.out⟩, ⟨by repeat (first | (with_reducible first | exact HB.out | apply below_alloc | apply pw_below_drewN | apply below_drew1) | exact HB.out)⟩⟩
              case round =>
                clear H'
                try clear c1
                try clear p2
                try clear c4
                try clear c4b0
                try clear c4b1
                try clear c5
                try clear p6
                try clear c8
                try clear c11
                try clear c11b0
                try clear c11b1
                try clear c12
                try clear c12b0
                try clear c12b1
                try clear c12b2
                try clear c13
                try clear c13b0
                try clear c13b1
                try clear c13b2
                try clear p2
                obtain ⟨x8_2, rfl, HA, HK2, HO_5, HB⟩ := hrel
                cases gk with
                | zero => exact absurd HA.out (by simp [weighhouselaw06_ShapeNest.l0])
                | succ k2 =>
                  have H := HA.out
                  clear HA
                  simp only [weighhouselaw06_ShapeNest.l0] at H
                  by_cases c18 : x8_2 < (l0.length : Int)
                  · rw [if_pos c18] at H
                    have c18b0 : decide (x8_2 < (l0.length : Int)) = true := decide_eq_true c18
                    clear c18
                    by_cases c19 : 0 ≤ x8_2
                    · rw [if_pos c19] at H
                      have c19b0 : decide (0 ≤ x8_2) = true := decide_eq_true c19
                      clear c19
                      by_cases c20 : ((rd_T31 l0 x8_2).f0) = 50
                      · rw [if_pos c20] at H
                        have c20b0 : (((rd_T31 l0 x8_2).f0) == 50) = true := beq_iff_eq.mpr c20
                        have c20b1 : (((rd_T31 l0 x8_2).f0) != 50) = false := bne_eq_false_iff_eq.mpr c20
                        clear c20
                        have H' := Aside0.mk H
                        clear H
                        have p312 : 0 ≤ (x8_2 : Int) := of_decide_eq_true (by first | (with_reducible assumption) | assumption)
                        have q312 : x8_2 < (l0.length : Int) := of_decide_eq_true (by first | (with_reducible assumption) | assumption)
                        obtain ⟨ad312, e312, hx312_0, hx312_1⟩ := at_T31 HR0.out x8_2 p312 q312
                        cases e312
                        replace hx312_0 := (HB.out.cell (World.block_lt_of_cell? w _ hx312_0)).trans hx312_0
                        replace hx312_1 := (HB.out.cell (World.block_lt_of_cell? w _ hx312_1)).trans hx312_1
                        replace p312 := eq_true p312
                        replace q312 := eq_true q312
                        go_wp2
                        repeat (go_quiet (fail); try go_wp2)
                        go_loopg [9] k2 (fun kq v9 w' => ∃ (x9_3 : Int), v9 = .int .i64 x9_3 ∧ Aside0 (weighhouselaw06_ShapeNest.l1 kq l0 (Int.tmod (wrap64 ((Int.tmod a1 (l0.length : Int)) + (l0.length : Int))) (l0.length : Int)) t306 x8_2 x9_3 = some r) ∧ Aside0 (kq ≤ k2) ∧ Aside0 (Kd.R (Kd.int .i64) 3 w' w.heap.size (fun _ => True) (.slice Ao17 t306.length co17) t306) ∧ Aside0 (Below w.heap.size w w'))
                        case atStart => exact ⟨(0), (by first | rfl | (simp; done) | (simp [*]; done)), H', ⟨Nat.le_refl _⟩, ⟨by (with_reducible repeat (first | apply Kd.R_alloc | apply Kd.R_drewN | apply Kd.R_drew)); exact HO_5.out⟩, ⟨by repeat (first | (with_reducible first | exact HB.out | apply below_alloc | apply pw_below_drewN | apply below_drew1) | exact HB.out)⟩⟩
                        case round =>
                          clear H'
                          try clear c1
                          try clear c2
                          try clear p2
                          try clear p3
                          try clear q3
                          try clear hx3
                          try clear c4
                          try clear c4b0
                          try clear c4b1
                          try clear c5
                          try clear p6
                          try clear c8
                          try clear c11
                          try clear c11b0
                          try clear c11b1
                          try clear c12
                          try clear c12b0
                          try clear c12b1
                          try clear c12b2
                          try clear c13
                          try clear c13b0
                          try clear c13b1
                          try clear c13b2
                          try clear c18
                          try clear c18b0
                          try clear c19
                          try clear c19b0
                          try clear c20
                          try clear c20b0
                          try clear c20b1
                          try clear hx312_0
                          try clear hx312_1
                          try clear p2
                          try clear p312
                          try clear p6
                          try clear q312
                          obtain ⟨x9_3, rfl, HA, HK3, HO_5, HB⟩ := hrel
                          cases gk with
                          | zero => exact absurd HA.out (by simp [weighhouselaw06_ShapeNest.l1])
                          | succ k3 =>
                            have H := HA.out
                            clear HA
                            simp only [weighhouselaw06_ShapeNest.l1] at H
                            by_cases c21 : x9_3 < (l0.length : Int)
                            · rw [if_pos c21] at H
                              have c21b0 : decide (x9_3 < (l0.length : Int)) = true := decide_eq_true c21
                              clear c21
                              by_cases c22 : 0 ≤ x9_3
                              · rw [if_pos c22] at H
                                have c22b0 : decide (0 ≤ x9_3) = true := decide_eq_true c22
                                clear c22
                                by_cases c23 : ((rd_T31 l0 x9_3).f0) = 50
                                · rw [if_pos c23] at H
                                  have c23b0 : (((rd_T31 l0 x9_3).f0) == 50) = true := beq_iff_eq.mpr c23
                                  have c23b1 : (((rd_T31 l0 x9_3).f0) != 50) = false := bne_eq_false_iff_eq.mpr c23
                                  clear c23
                                  by_cases c24 : x9_3 < (t306.length : Int)
                                  · rw [if_pos c24] at H
                                    have c24b0 : decide (x9_3 < (t306.length : Int)) = true := decide_eq_true c24
                                    clear c24
                                    by_cases c25 : 0 ≤ x8_2
                                    · rw [if_pos c25] at H
                                      have c25b0 : decide (0 ≤ x8_2) = true := decide_eq_true c25
                                      clear c25
                                      by_cases c26 : x8_2 < (t306.length : Int)
                                      · rw [if_pos c26] at H
                                        have c26b0 : decide (x8_2 < (t306.length : Int)) = true := decide_eq_true c26
                                        clear c26
                                        by_cases c27 : (rd t306 x9_3) < (rd t306 x8_2)
                                        · rw [if_pos c27] at H
                                          have c27b0 : decide ((rd t306 x9_3) < (rd t306 x8_2)) = true := decide_eq_true c27
                                          clear c27
                                          by_cases c28 : x9_3 > (rd t306 x8_2)
                                          · rw [if_pos c28] at H
                                            have c28b0 : decide ((rd t306 x8_2) < x9_3) = true := decide_eq_true c28
                                            clear c28
                                            by_cases c29 : x9_3 < x8_2
                                            · rw [if_pos c29] at H
                                              have c29b0 : decide (x9_3 < x8_2) = true := decide_eq_true c29
                                              clear c29
                                              obtain rfl := Option.some.inj H
                                              have p313 : 0 ≤ (x9_3 : Int) := of_decide_eq_true (by first | (with_reducible assumption) | assumption)
                                              have q313 : x9_3 < (l0.length : Int) := of_decide_eq_true (by first | (with_reducible assumption) | assumption)
                                              obtain ⟨ad313, e313, hx313_0, hx313_1⟩ := at_T31 HR0.out x9_3 p313 q313
                                              obtain rfl : ad312 = ad313 := (by injection e313)
                                              replace hx313_0 := (HB.out.cell (World.block_lt_of_cell? w _ hx313_0)).trans hx313_0
                                              replace hx313_1 := (HB.out.cell (World.block_lt_of_cell? w _ hx313_1)).trans hx313_1
                                              replace p313 := eq_true p313
                                              replace q313 := eq_true q313
                                              have p314 : 0 ≤ (x9_3 : Int) := of_decide_eq_true (by first | (with_reducible assumption) | assumption)
                                              have q314 : x9_3 < (t306.length : Int) := of_decide_eq_true (by first | (with_reducible assumption) | assumption)
                                              obtain ⟨ad314, e314, hx314_0⟩ := Kd.at_int (Kd.R_reads' HO_5.out).2.2 x9_3 p314 q314
                                              cases e314
                                              replace p314 := eq_true p314
                                              replace q314 := eq_true q314
                                              have p315 : 0 ≤ (x8_2 : Int) := of_decide_eq_true (by first | (with_reducible assumption) | assumption)
                                              have q315 : x8_2 < (t306.length : Int) := of_decide_eq_true (by first | (with_reducible assumption) | assumption)
                                              obtain ⟨ad315, e315, hx315_0⟩ := Kd.at_int (Kd.R_reads' HO_5.out).2.2 x8_2 p315 q315
                                              obtain rfl : ad314 = ad315 := (by injection e315)
                                              replace p315 := eq_true p315
                                              replace q315 := eq_true q315
                                              have p316 : 0 ≤ (x8_2 : Int) := of_decide_eq_true (by first | (with_reducible assumption) | assumption)
                                              have q316 : x8_2 < (t306.length : Int) := of_decide_eq_true (by first | (with_reducible assumption) | assumption)
                                              obtain ⟨ad316, e316, hx316_0⟩ := Kd.at_int (Kd.R_reads' HO_5.out).2.2 x8_2 p316 q316
                                              obtain rfl : ad314 = ad316 := (by injection e316)
                                              replace p316 := eq_true p316
                                              replace q316 := eq_true q316
                                              go_wp2
                                              repeat (go_quiet (fail); try go_wp2)
                                              go_ret
                                              exact ⟨by first | rfl | (simp [errW_none, errW_some] <;> rfl) | (simp [*, errW_none, errW_some] <;> rfl), by repeat (first | (with_reducible first | exact HB.out | apply below_alloc | apply pw_below_drewN | apply below_drew1) | exact HB.out)⟩
                                            · rw [if_neg c29] at H
                                              have c29b0 : decide (x9_3 < x8_2) = false := decide_eq_false c29
                                              clear c29
                                              have H' := Aside0.mk H
                                              clear H
                                              have p313 : 0 ≤ (x9_3 : Int) := of_decide_eq_true (by first | (with_reducible assumption) | assumption)
                                              have q313 : x9_3 < (l0.length : Int) := of_decide_eq_true (by first | (with_reducible assumption) | assumption)
                                              obtain ⟨ad313, e313, hx313_0, hx313_1⟩ := at_T31 HR0.out x9_3 p313 q313
                                              obtain rfl : ad312 = ad313 := (by injection e313)
                                              replace hx313_0 := (HB.out.cell (World.block_lt_of_cell? w _ hx313_0)).trans hx313_0
                                              replace hx313_1 := (HB.out.cell (World.block_lt_of_cell? w _ hx313_1)).trans hx313_1
                                              replace p313 := eq_true p313
                                              replace q313 := eq_true q313
                                              have p314 : 0 ≤ (x9_3 : Int) := of_decide_eq_true (by first | (with_reducible assumption) | assumption)
                                              have q314 : x9_3 < (t306.length : Int) := of_decide_eq_true (by first | (with_reducible assumption) | assumption)
                                              obtain ⟨ad314, e314, hx314_0⟩ := Kd.at_int (Kd.R_reads' HO_5.out).2.2 x9_3 p314 q314
                                              cases e314
                                              replace p314 := eq_true p314
                                              replace q314 := eq_true q314
                                              have p315 : 0 ≤ (x8_2 : Int) := of_decide_eq_true (by first | (with_reducible assumption) | assumption)
                                              have q315 : x8_2 < (t306.length : Int) := of_decide_eq_true (by first | (with_reducible assumption) | assumption)
                                              obtain ⟨ad315, e315, hx315_0⟩ := Kd.at_int (Kd.R_reads' HO_5.out).2.2 x8_2 p315 q315
                                              obtain rfl : ad314 = ad315 := (by injection e315)
                                              replace p315 := eq_true p315
                                              replace q315 := eq_true q315
                                              have p316 : 0 ≤ (x8_2 : Int) := of_decide_eq_true (by first | (with_reducible assumption) | assumption)
                                              have q316 : x8_2 < (t306.length : Int) := of_decide_eq_true (by first | (with_reducible assumption) | assumption)
                                              obtain ⟨ad316, e316, hx316_0⟩ := Kd.at_int (Kd.R_reads' HO_5.out).2.2 x8_2 p316 q316
                                              obtain rfl : ad314 = ad316 := (by injection e316)
                                              replace p316 := eq_true p316
                                              replace q316 := eq_true q316
                                              go_wp2
                                              repeat (go_quiet (fail); try go_wp2)
                                              go_roundg k3
                                              case measure => have := HJ2.out; have := HK2.out; have := HK3.out; omega
                                              case rel => exact ⟨(wrap64 (x9_3 + 1)), (by first | rfl | (simp; done) | (simp [*]; done)), H', ⟨by have := HJ2.out; have := HK2.out; have := HK3.out; omega⟩, ⟨by (with_reducible repeat (first | apply Kd.R_alloc | apply Kd.R_drewN | apply Kd.R_drew)); exact HO_5.out⟩, ⟨by repeat (first | (with_reducible first | exact HB.out | apply below_alloc | apply pw_below_drewN | apply below_drew1) | exact HB.out)⟩⟩
                                          · rw [if_neg c28] at H
                                            have c28b0 : decide ((rd t306 x8_2) < x9_3) = false := decide_eq_false c28
                                            clear c28
                                            have H' := Aside0.mk H
                                            clear H
                                            have p313 : 0 ≤ (x9_3 : Int) := of_decide_eq_true (by first | (with_reducible assumption) | assumption)
                                            have q313 : x9_3 < (l0.length : Int) := of_decide_eq_true (by first | (with_reducible assumption) | assumption)
                                            obtain ⟨ad313, e313, hx313_0, hx313_1⟩ := at_T31 HR0.out x9_3 p313 q313
                                            obtain rfl : ad312 = ad313 := (by injection e313)
                                            replace hx313_0 := (HB.out.cell (World.block_lt_of_cell? w _ hx313_0)).trans hx313_0
                                            replace hx313_1 := (HB.out.cell (World.block_lt_of_cell? w _ hx313_1)).trans hx313_1
                                            replace p313 := eq_true p313
                                            replace q313 := eq_true q313
                                            have p314 : 0 ≤ (x9_3 : Int) := of_decide_eq_true (by first | (with_reducible assumption) | assumption)
                                            have q314 : x9_3 < (t306.length : Int) := of_decide_eq_true (by first | (with_reducible assumption) | assumption)
                                            obtain ⟨ad314, e314, hx314_0⟩ := Kd.at_int (Kd.R_reads' HO_5.out).2.2 x9_3 p314 q314
                                            cases e314
                                            replace p314 := eq_true p314
                                            replace q314 := eq_true q314
                                            have p315 : 0 ≤ (x8_2 : Int) := of_decide_eq_true (by first | (with_reducible assumption) | assumption)
                                            have q315 : x8_2 < (t306.length : Int) := of_decide_eq_true (by first | (with_reducible assumption) | assumption)
                                            obtain ⟨ad315, e315, hx315_0⟩ := Kd.at_int (Kd.R_reads' HO_5.out).2.2 x8_2 p315 q315
                                            obtain rfl : ad314 = ad315 := (by injection e315)
                                            replace p315 := eq_true p315
                                            replace q315 := eq_true q315
                                            have p316 : 0 ≤ (x8_2 : Int) := of_decide_eq_true (by first | (with_reducible assumption) | assumption)
                                            have q316 : x8_2 < (t306.length : Int) := of_decide_eq_true (by first | (with_reducible assumption) | assumption)
                                            obtain ⟨ad316, e316, hx316_0⟩ := Kd.at_int (Kd.R_reads' HO_5.out).2.2 x8_2 p316 q316
                                            obtain rfl : ad314 = ad316 := (by injection e316)
                                            replace p316 := eq_true p316
                                            replace q316 := eq_true q316
                                            go_wp2
                                            repeat (go_quiet (fail); try go_wp2)
                                            go_roundg k3
                                            case measure => have := HJ2.out; have := HK2.out; have := HK3.out; omega
                                            case rel => exact ⟨(wrap64 (x9_3 + 1)), (by first | rfl | (simp; done) | (simp [*]; done)), H', ⟨by have := HJ2.out; have := HK2.out; have := HK3.out; omega⟩, ⟨by (with_reducible repeat (first | apply Kd.R_alloc | apply Kd.R_drewN | apply Kd.R_drew)); exact HO_5.out⟩, ⟨by repeat (first | (with_reducible first | exact HB.out | apply below_alloc | apply pw_below_drewN | apply below_drew1) | exact HB.out)⟩⟩
                                        · rw [if_neg c27] at H
                                          have c27b0 : decide ((rd t306 x9_3) < (rd t306 x8_2)) = false := decide_eq_false c27
                                          clear c27
                                          have H' := Aside0.mk H
                                          clear H
                                          have p313 : 0 ≤ (x9_3 : Int) := of_decide_eq_true (by first | (with_reducible assumption) | assumption)
                                          have q313 : x9_3 < (l0.length : Int) := of_decide_eq_true (by first | (with_reducible assumption) | assumption)
                                          obtain ⟨ad313, e313, hx313_0, hx313_1⟩ := at_T31 HR0.out x9_3 p313 q313
                                          obtain rfl : ad312 = ad313 := (by injection e313)
                                          replace hx313_0 := (HB.out.cell (World.block_lt_of_cell? w _ hx313_0)).trans hx313_0
                                          replace hx313_1 := (HB.out.cell (World.block_lt_of_cell? w _ hx313_1)).trans hx313_1
                                          replace p313 := eq_true p313
                                          replace q313 := eq_true q313
                                          have p314 : 0 ≤ (x9_3 : Int) := of_decide_eq_true (by first | (with_reducible assumption) | assumption)
                                          have q314 : x9_3 < (t306.length : Int) := of_decide_eq_true (by first | (with_reducible assumption) | assumption)
                                          obtain ⟨ad314, e314, hx314_0⟩ := Kd.at_int (Kd.R_reads' HO_5.out).2.2 x9_3 p314 q314
                                          cases e314
                                          replace p314 := eq_true p314
                                          replace q314 := eq_true q314
                                          have p315 : 0 ≤ (x8_2 : Int) := of_decide_eq_true (by first | (with_reducible assumption) | assumption)
                                          have q315 : x8_2 < (t306.length : Int) := of_decide_eq_true (by first | (with_reducible assumption) | assumption)
                                          obtain ⟨ad315, e315, hx315_0⟩ := Kd.at_int (Kd.R_reads' HO_5.out).2.2 x8_2 p315 q315
                                          obtain rfl : ad314 = ad315 := (by injection e315)
                                          replace p315 := eq_true p315
                                          replace q315 := eq_true q315
                                          go_wp2
                                          repeat (go_quiet (fail); try go_wp2)
                                          go_roundg k3
                                          case measure => have := HJ2.out; have := HK2.out; have := HK3.out; omega
                                          case rel => exact ⟨(wrap64 (x9_3 + 1)), (by first | rfl | (simp; done) | (simp [*]; done)), H', ⟨by have := HJ2.out; have := HK2.out; have := HK3.out; omega⟩, ⟨by (with_reducible repeat (first | apply Kd.R_alloc | apply Kd.R_drewN | apply Kd.R_drew)); exact HO_5.out⟩, ⟨by repeat (first | (with_reducible first | exact HB.out | apply below_alloc | apply pw_below_drewN | apply below_drew1) | exact HB.out)⟩⟩
                                      · rw [if_neg c26] at H
                                        exact absurd H (by simp)
                                    · rw [if_neg c25] at H
                                      exact absurd H (by simp)
                                  · rw [if_neg c24] at H
                                    exact absurd H (by simp)
                                · rw [if_neg c23] at H
                                  have c23b0 : (((rd_T31 l0 x9_3).f0) == 50) = false := beq_eq_false_iff_ne.mpr c23
                                  have c23b1 : (((rd_T31 l0 x9_3).f0) != 50) = true := bne_iff_ne.mpr c23
                                  have H' := Aside0.mk H
                                  clear H
                                  have p313 : 0 ≤ (x9_3 : Int) := of_decide_eq_true (by first | (with_reducible assumption) | assumption)
                                  have q313 : x9_3 < (l0.length : Int) := of_decide_eq_true (by first | (with_reducible assumption) | assumption)
                                  obtain ⟨ad313, e313, hx313_0, hx313_1⟩ := at_T31 HR0.out x9_3 p313 q313
                                  obtain rfl : ad312 = ad313 := (by injection e313)
                                  replace hx313_0 := (HB.out.cell (World.block_lt_of_cell? w _ hx313_0)).trans hx313_0
                                  replace hx313_1 := (HB.out.cell (World.block_lt_of_cell? w _ hx313_1)).trans hx313_1
                                  replace p313 := eq_true p313
                                  replace q313 := eq_true q313
                                  go_wp2
                                  repeat (go_quiet (fail); try go_wp2)
                                  go_roundg k3
                                  case measure => have := HJ2.out; have := HK2.out; have := HK3.out; omega
                                  case rel => exact ⟨(wrap64 (x9_3 + 1)), (by first | rfl | (simp; done) | (simp [*]; done)), H', ⟨by have := HJ2.out; have := HK2.out; have := HK3.out; omega⟩, ⟨by (with_reducible repeat (first | apply Kd.R_alloc | apply Kd.R_drewN | apply Kd.R_drew)); exact HO_5.out⟩, ⟨by repeat (first | (with_reducible first | exact HB.out | apply below_alloc | apply pw_below_drewN | apply below_drew1) | exact HB.out)⟩⟩
                              · rw [if_neg c22] at H
                                exact absurd H (by simp)
                            · rw [if_neg c21] at H
                              have c21b0 : decide (x9_3 < (l0.length : Int)) = false := decide_eq_false c21
                              clear c21
                              have H' := Aside0.mk H
                              clear H
                              go_wp2
                              repeat (go_quiet (fail); try go_wp2)
                              go_roundg k3
                              case measure => have := HJ2.out; have := HK2.out; have := HK3.out; omega
                              case rel => exact ⟨(wrap64 (x8_2 + 1)), (by first | rfl | (simp; done) | (simp [*]; done)), H', ⟨by have := HJ2.out; have := HK2.out; have := HK3.out; omega⟩, ⟨by (with_reducible repeat (first | apply Kd.R_alloc | apply Kd.R_drewN | apply Kd.R_drew)); exact HO_5.out⟩, ⟨by repeat (first | (with_reducible first | exact HB.out | apply below_alloc | apply pw_below_drewN | apply below_drew1) | exact HB.out)⟩⟩
                      · rw [if_neg c20] at H
                        have c20b0 : (((rd_T31 l0 x8_2).f0) == 50) = false := beq_eq_false_iff_ne.mpr c20
                        have c20b1 : (((rd_T31 l0 x8_2).f0) != 50) = true := bne_iff_ne.mpr c20
                        have H' := Aside0.mk H
                        clear H
                        have p312 : 0 ≤ (x8_2 : Int) := of_decide_eq_true (by first | (with_reducible assumption) | assumption)
                        have q312 : x8_2 < (l0.length : Int) := of_decide_eq_true (by first | (with_reducible assumption) | assumption)
                        obtain ⟨ad312, e312, hx312_0, hx312_1⟩ := at_T31 HR0.out x8_2 p312 q312
                        cases e312
                        replace hx312_0 := (HB.out.cell (World.block_lt_of_cell? w _ hx312_0)).trans hx312_0
                        replace hx312_1 := (HB.out.cell (World.block_lt_of_cell? w _ hx312_1)).trans hx312_1
                        replace p312 := eq_true p312
                        replace q312 := eq_true q312
                        go_wp2
                        repeat (go_quiet (fail); try go_wp2)
                        go_roundg k2
                        case measure => have := HJ2.out; have := HK2.out; omega
                        case rel => exact ⟨(wrap64 (x8_2 + 1)), (by first | rfl | (simp; done) | (simp [*]; done)), H', ⟨by have := HJ2.out; have := HK2.out; omega⟩, ⟨by (with_reducible repeat (first | apply Kd.R_alloc | apply Kd.R_drewN | apply Kd.R_drew)); exact HO_5.out⟩, ⟨by repeat (first | (with_reducible first | exact HB.out | apply below_alloc | apply pw_below_drewN | apply below_drew1) | exact HB.out)⟩⟩
                    · rw [if_neg c19] at H
                      exact absurd H (by simp)
                  · rw [if_neg c18] at H
                    have c18b0 : decide (x8_2 < (l0.length : Int)) = false := decide_eq_false c18
                    clear c18
                    have H' := Aside0.mk H
                    clear H
                    go_wp2
                    repeat (go_quiet (fail); try go_wp2)
                    go_loopg [7, 10] k2 (fun kq v7 v10 w' => ∃ (x7_3 : List Int) (x10_3 : Int), v10 = .int .i64 x10_3 ∧ Aside0 (weighhouselaw06_ShapeNest.l2 kq l0 (Int.tmod (wrap64 ((Int.tmod a1 (l0.length : Int)) + (l0.length : Int))) (l0.length : Int)) t306 x7_3 x10_3 = some r) ∧ Aside0 (kq ≤ k2) ∧ Aside0 (Kd.R (Kd.int .i64) 3 w' w.heap.size (fun k_ => some k_ ≠ (v7 : Value).ownBlock) (.slice Ao17 t306.length co17) t306) ∧ Aside0 (Kd.R (Kd.int .i64) 3 w' w.heap.size (fun k_ => some k_ ≠ ((.slice Ao17 t306.length co17) : Value).ownBlock) v7 x7_3) ∧ Aside0 (Below w.heap.size w w'))
                    case atStart => exact ⟨(([] : List Int)), (0), (by first | rfl | (simp; done) | (simp [*]; done)), H', ⟨Nat.le_refl _⟩, ⟨by (with_reducible repeat (first | apply Kd.R_alloc | apply Kd.R_drewN | apply Kd.R_drew)); exact Kd.R_mono HO_5.out (fun _ hk => (by simp [Value.ownBlock]))⟩, ⟨by first | exact Kd.R_nil _ _ _ _ _ | exact Kd.N_nil _ _ _ _ _ | exact Kd.V_nil _ _ _ _ _ | exact Kd.Q_nil _ _ _ _ _ | exact Kd.S_nil _ _ _ _ _⟩, ⟨by repeat (first | (with_reducible first | exact HB.out | apply below_alloc | apply pw_below_drewN | apply below_drew1) | exact HB.out)⟩⟩
                    case round =>
                      clear H'
                      try clear c1
                      try clear c2
                      try clear p2
                      try clear p3
                      try clear q3
                      try clear hx3
                      try clear c4
                      try clear c4b0
                      try clear c4b1
                      try clear c5
                      try clear p6
                      try clear c8
                      try clear c11
                      try clear c11b0
                      try clear c11b1
                      try clear c12
                      try clear c12b0
                      try clear c12b1
                      try clear c12b2
                      try clear c13
                      try clear c13b0
                      try clear c13b1
                      try clear c13b2
                      try clear c18
                      try clear c18b0
                      try clear c19
                      try clear c19b0
                      try clear c20
                      try clear c20b0
                      try clear c20b1
                      try clear c21
                      try clear c21b0
                      try clear c22
                      try clear c22b0
                      try clear c23
                      try clear c23b0
                      try clear c23b1
                      try clear c24
                      try clear c24b0
                      try clear c25
                      try clear c25b0
                      try clear c26
                      try clear c26b0
                      try clear c27
                      try clear c27b0
                      try clear c28
                      try clear c28b0
                      try clear c29
                      try clear c29b0
                      try clear hx312_0
                      try clear hx312_1
                      try clear hx313_0
                      try clear hx313_1
                      try clear hx314_0
                      try clear hx315_0
                      try clear hx316_0
                      try clear p2
                      try clear p3
                      try clear p312
                      try clear p313
                      try clear p314
                      try clear p315
                      try clear p316
                      try clear p6
                      try clear q3
                      try clear q312
                      try clear q313
                      try clear q314
                      try clear q315
                      try clear q316
                      obtain ⟨x7_3, x10_3, rfl, HA, HK3, HO_5, HO_7, HB⟩ := hrel
                      cases gk with
                      | zero => exact absurd HA.out (by simp [weighhouselaw06_ShapeNest.l2])
                      | succ k3 =>
                        have H := HA.out
                        clear HA
                        simp only [weighhouselaw06_ShapeNest.l2] at H
                        by_cases c30 : x10_3 < (Int.tmod (wrap64 ((Int.tmod a1 (l0.length : Int)) + (l0.length : Int))) (l0.length : Int))
                        · rw [if_pos c30] at H
                          have c30b0 : decide (x10_3 < (Int.tmod (wrap64 ((Int.tmod a1 (l0.length : Int)) + (l0.length : Int))) (l0.length : Int))) = true := decide_eq_true c30
                          clear c30
                          have HC31 := Aside0.mk H
                          clear H
                          go_upto_region 22 with (fail)
                          repeat (go_quiet (fail); go_upto_region 22 with (fail))
                          go_cut [114] (fun v114 wc => ∃ (kq : Nat) (x114_30 : Bool), v114 = .bool x114_30 ∧ Aside0 (weighhouselaw06_ShapeNest.j4 kq l0 (Int.tmod (wrap64 ((Int.tmod a1 (l0.length : Int)) + (l0.length : Int))) (l0.length : Int)) t306 x7_3 x10_3 x114_30 = some r) ∧ Aside0 (kq ≤ k3) ∧ Aside0 (Kd.R (Kd.int .i64) 3 wc w.heap.size (fun k_ => some k_ ≠ (u7 : Value).ownBlock) (.slice Ao17 t306.length co17) t306) ∧ Aside0 (Kd.R (Kd.int .i64) 3 wc w.heap.size (fun k_ => some k_ ≠ ((.slice Ao17 t306.length co17) : Value).ownBlock) u7 x7_3) ∧ Aside0 (Below w.heap.size w wc))
                          case first =>
                            have H := HC31.out
                            clear HC31
                            by_cases c32 : 0 ≤ x10_3
                            · rw [if_pos c32] at H
                              have c32b0 : decide (0 ≤ x10_3) = true := decide_eq_true c32
                              clear c32
                              (first | rw [c32b0] | (simp only [i64_w, i32_w]; rw [c32b0]) | skip)
                              by_cases c33 : x10_3 < (l0.length : Int)
                              · rw [if_pos c33] at H
                                have c33b0 : decide (x10_3 < (l0.length : Int)) = true := decide_eq_true c33
                                clear c33
                                by_cases c34 : ((rd_T31 l0 x10_3).f0) = 48
                                · rw [if_pos c34] at H
                                  have c34b0 : (((rd_T31 l0 x10_3).f0) == 48) = true := beq_iff_eq.mpr c34
                                  have c34b1 : (((rd_T31 l0 x10_3).f0) != 48) = false := bne_eq_false_iff_eq.mpr c34
                                  clear c34
                                  have H' := Aside0.mk H
                                  clear H
                                  have p317 : 0 ≤ (x10_3 : Int) := of_decide_eq_true (by first | (with_reducible assumption) | assumption)
                                  have q317 : x10_3 < (l0.length : Int) := of_decide_eq_true (by first | (with_reducible assumption) | assumption)
                                  obtain ⟨ad317, e317, hx317_0, hx317_1⟩ := at_T31 HR0.out x10_3 p317 q317
                                  cases e317
                                  replace hx317_0 := (HB.out.cell (World.block_lt_of_cell? w _ hx317_0)).trans hx317_0
                                  replace hx317_1 := (HB.out.cell (World.block_lt_of_cell? w _ hx317_1)).trans hx317_1
                                  replace p317 := eq_true p317
                                  replace q317 := eq_true q317
                                  go_wp2
                                  repeat (go_quiet (fail); try go_wp2)
                                  go_meet
                                  case rel => exact ⟨_, (false), (by first | rfl | (simp; done) | (simp [*]; done)), H', ⟨by have := HJ2.out; have := HK2.out; have := HK3.out; first | omega | exact Nat.le_refl _⟩, ⟨by (with_reducible repeat (first | apply Kd.R_alloc | apply Kd.R_drewN | apply Kd.R_drew)); exact HO_5.out⟩, ⟨by (with_reducible repeat (first | apply Kd.R_alloc | apply Kd.R_drewN | apply Kd.R_drew)); exact HO_7.out⟩, ⟨by repeat (first | (with_reducible first | exact HB.out | apply below_alloc | apply pw_below_drewN | apply below_drew1) | exact HB.out)⟩⟩
                                · rw [if_neg c34] at H
                                  have c34b0 : (((rd_T31 l0 x10_3).f0) == 48) = false := beq_eq_false_iff_ne.mpr c34
                                  have c34b1 : (((rd_T31 l0 x10_3).f0) != 48) = true := bne_iff_ne.mpr c34
                                  have H' := Aside0.mk H
                                  clear H
                                  have p317 : 0 ≤ (x10_3 : Int) := of_decide_eq_true (by first | (with_reducible assumption) | assumption)
                                  have q317 : x10_3 < (l0.length : Int) := of_decide_eq_true (by first | (with_reducible assumption) | assumption)
                                  obtain ⟨ad317, e317, hx317_0, hx317_1⟩ := at_T31 HR0.out x10_3 p317 q317
                                  cases e317
                                  replace hx317_0 := (HB.out.cell (World.block_lt_of_cell? w _ hx317_0)).trans hx317_0
                                  replace hx317_1 := (HB.out.cell (World.block_lt_of_cell? w _ hx317_1)).trans hx317_1
                                  replace p317 := eq_true p317
                                  replace q317 := eq_true q317
                                  have p318 : 0 ≤ (x10_3 : Int) := of_decide_eq_true (by first | (with_reducible assumption) | assumption)
                                  have q318 : x10_3 < (l0.length : Int) := of_decide_eq_true (by first | (with_reducible assumption) | assumption)
                                  obtain ⟨ad318, e318, hx318_0, hx318_1⟩ := at_T31 HR0.out x10_3 p318 q318
                                  obtain rfl : ad317 = ad318 := (by injection e318)
                                  replace hx318_0 := (HB.out.cell (World.block_lt_of_cell? w _ hx318_0)).trans hx318_0
                                  replace hx318_1 := (HB.out.cell (World.block_lt_of_cell? w _ hx318_1)).trans hx318_1
                                  replace p318 := eq_true p318
                                  replace q318 := eq_true q318
                                  go_wp2
                                  repeat (go_quiet (fail); try go_wp2)
                                  go_meet
                                  case rel => exact ⟨_, ((((rd_T31 l0 x10_3).f0) != 51)), (by first | rfl | (simp; done) | (simp [*]; done)), H', ⟨by have := HJ2.out; have := HK2.out; have := HK3.out; first | omega | exact Nat.le_refl _⟩, ⟨by (with_reducible repeat (first | apply Kd.R_alloc | apply Kd.R_drewN | apply Kd.R_drew)); exact HO_5.out⟩, ⟨by (with_reducible repeat (first | apply Kd.R_alloc | apply Kd.R_drewN | apply Kd.R_drew)); exact HO_7.out⟩, ⟨by repeat (first | (with_reducible first | exact HB.out | apply below_alloc | apply pw_below_drewN | apply below_drew1) | exact HB.out)⟩⟩
                              · rw [if_neg c33] at H
                                exact absurd H (by simp)
                            · rw [if_neg c32] at H
                              exact absurd H (by simp)
                          case rest =>
                            clear HC31
                            try clear c1
                            try clear c2
                            try clear p2
                            try clear c3
                            try clear p3
                            try clear q3
                            try clear hx3
                            try clear c4
                            try clear c4b0
                            try clear c4b1
                            try clear c5
                            try clear p6
                            try clear c8
                            try clear c11
                            try clear c11b0
                            try clear c11b1
                            try clear c12
                            try clear c12b0
                            try clear c12b1
                            try clear c12b2
                            try clear c13
                            try clear c13b0
                            try clear c13b1
                            try clear c13b2
                            try clear c18
                            try clear c18b0
                            try clear c19
                            try clear c19b0
                            try clear c20
                            try clear c20b0
                            try clear c20b1
                            try clear c21
                            try clear c21b0
                            try clear c22
                            try clear c22b0
                            try clear c23
                            try clear c23b0
                            try clear c23b1
                            try clear c24
                            try clear c24b0
                            try clear c25
                            try clear c25b0
                            try clear c26
                            try clear c26b0
                            try clear c27
                            try clear c27b0
                            try clear c28
                            try clear c28b0
                            try clear c29
                            try clear c29b0
                            try clear c30
                            try clear c30b0
                            try clear p31
                            try clear q31
                            try clear hx31
                            try clear c32
                            try clear c32b0
                            try clear c33
                            try clear c33b0
                            try clear c34
                            try clear c34b0
                            try clear c34b1
                            try clear hx312_0
                            try clear hx312_1
                            try clear hx313_0
                            try clear hx313_1
                            try clear hx314_0
                            try clear hx315_0
                            try clear hx316_0
                            try clear hx317_0
                            try clear hx317_1
                            try clear hx318_0
                            try clear hx318_1
                            try clear p2
                            try clear p3
                            try clear p312
                            try clear p313
                            try clear p314
                            try clear p315
                            try clear p316
                            try clear p317
                            try clear p318
                            try clear p6
                            try clear q3
                            try clear q312
                            try clear q313
                            try clear q314
                            try clear q315
                            try clear q316
                            try clear q317
                            try clear q318
                            obtain ⟨kq, x114_30, rfl, HA, HJ30, HO_5, HO_7, HB⟩ := hcut
                            cases kq with
                            | zero => exact absurd HA.out (by simp [weighhouselaw06_ShapeNest.j4])
                            | succ kj30 =>
                              have H := HA.out
                              clear HA
                              simp only [weighhouselaw06_ShapeNest.j4] at H
                              by_cases c35 : x114_30 = true
                              · subst c35
                                have H1 : (weighhouselaw06_ShapeNest.l2 kj30 l0 (Int.tmod (wrap64 ((Int.tmod a1 (l0.length : Int)) + (l0.length : Int))) (l0.length : Int)) t306 x7_3 (wrap64 (x10_3 + 1))) = some r := by rw [if_pos rfl] at H; exact H
                                clear H
                                have H := H1
                                clear H1
                                have H' := Aside0.mk H
                                clear H
                                go_wp2
                                repeat (go_quiet (fail); try go_wp2)
                                go_roundg kj30
                                case measure => have := HJ2.out; have := HK2.out; have := HK3.out; have := HJ30.out; omega
                                case rel => exact ⟨(x7_3), (wrap64 (x10_3 + 1)), (by first | rfl | (simp; done) | (simp [*]; done)), H', ⟨by have := HJ2.out; have := HK2.out; have := HK3.out; have := HJ30.out; omega⟩, ⟨by (with_reducible repeat (first | apply Kd.R_alloc | apply Kd.R_drewN | apply Kd.R_drew)); exact HO_5.out⟩, ⟨by (with_reducible repeat (first | apply Kd.R_alloc | apply Kd.R_drewN | apply Kd.R_drew)); exact HO_7.out⟩, ⟨by repeat (first | (with_reducible first | exact HB.out | apply below_alloc | apply pw_below_drewN | apply below_drew1) | exact HB.out)⟩⟩
                              · replace c35 := Bool.eq_false_iff.mpr c35
                                subst c35
                                have H1 : (if 0 ≤ x10_3 then (if x10_3 < (t306.length : Int) then (if 0 ≤ (rd t306 x10_3) then (if (rd t306 x10_3) < (l0.length : Int) then (if ((rd_T31 l0 (rd t306 x10_3)).f0) = 49 then (if (rd t306 x10_3) < (t306.length : Int) then (if (rd t306 (rd t306 x10_3)) ≥ (Int.tmod (wrap64 ((Int.tmod a1 (l0.length : Int)) + (l0.length : Int))) (l0.length : Int)) then (if x7_3.length < 17592186044416 then (weighhouselaw06_ShapeNest.l2 kj30 l0 (Int.tmod (wrap64 ((Int.tmod a1 (l0.length : Int)) + (l0.length : Int))) (l0.length : Int)) t306 (x7_3 ++ [x10_3]) (wrap64 (x10_3 + 1))) else (none)) else (weighhouselaw06_ShapeNest.l2 kj30 l0 (Int.tmod (wrap64 ((Int.tmod a1 (l0.length : Int)) + (l0.length : Int))) (l0.length : Int)) t306 x7_3 (wrap64 (x10_3 + 1)))) else (none)) else (if (rd t306 x10_3) ≥ (Int.tmod (wrap64 ((Int.tmod a1 (l0.length : Int)) + (l0.length : Int))) (l0.length : Int)) then (if x7_3.length < 17592186044416 then (weighhouselaw06_ShapeNest.l2 kj30 l0 (Int.tmod (wrap64 ((Int.tmod a1 (l0.length : Int)) + (l0.length : Int))) (l0.length : Int)) t306 (x7_3 ++ [x10_3]) (wrap64 (x10_3 + 1))) else (none)) else (weighhouselaw06_ShapeNest.l2 kj30 l0 (Int.tmod (wrap64 ((Int.tmod a1 (l0.length : Int)) + (l0.length : Int))) (l0.length : Int)) t306 x7_3 (wrap64 (x10_3 + 1))))) else (none)) else (none)) else (none)) else (none)) = some r := by rw [if_neg (show ¬ (false = true) by decide)] at H; exact H
                                clear H
                                have H := H1
                                clear H1
                                by_cases c36 : 0 ≤ x10_3
                                · rw [if_pos c36] at H
                                  have c36b0 : decide (0 ≤ x10_3) = true := decide_eq_true c36
                                  clear c36
                                  by_cases c37 : x10_3 < (t306.length : Int)
                                  · rw [if_pos c37] at H
                                    have c37b0 : decide (x10_3 < (t306.length : Int)) = true := decide_eq_true c37
                                    clear c37
                                    by_cases c38 : 0 ≤ (rd t306 x10_3)
                                    · rw [if_pos c38] at H
                                      have c38b0 : decide (0 ≤ (rd t306 x10_3)) = true := decide_eq_true c38
                                      clear c38
                                      by_cases c39 : (rd t306 x10_3) < (l0.length : Int)
                                      · rw [if_pos c39] at H
                                        have c39b0 : decide ((rd t306 x10_3) < (l0.length : Int)) = true := decide_eq_true c39
                                        clear c39
                                        by_cases c40 : ((rd_T31 l0 (rd t306 x10_3)).f0) = 49
                                        · rw [if_pos c40] at H
                                          have c40b0 : (((rd_T31 l0 (rd t306 x10_3)).f0) == 49) = true := beq_iff_eq.mpr c40
                                          have c40b1 : (((rd_T31 l0 (rd t306 x10_3)).f0) != 49) = false := bne_eq_false_iff_eq.mpr c40
                                          clear c40
                                          by_cases c41 : (rd t306 x10_3) < (t306.length : Int)
                                          · rw [if_pos c41] at H
                                            have c41b0 : decide ((rd t306 x10_3) < (t306.length : Int)) = true := decide_eq_true c41
                                            clear c41
                                            by_cases c42 : (rd t306 (rd t306 x10_3)) ≥ (Int.tmod (wrap64 ((Int.tmod a1 (l0.length : Int)) + (l0.length : Int))) (l0.length : Int))
                                            · rw [if_pos c42] at H
                                              have c42b0 : decide ((Int.tmod (wrap64 ((Int.tmod a1 (l0.length : Int)) + (l0.length : Int))) (l0.length : Int)) ≤ (rd t306 (rd t306 x10_3))) = true := decide_eq_true c42
                                              clear c42
                                              by_cases c43 : x7_3.length < 17592186044416
                                              · rw [if_pos c43] at H
                                                have LMc43 := Aside0.mk c43
                                                clear c43
                                                obtain ⟨y322, hy322⟩ : ∃ y_ : List Int, y_ = (x7_3 ++ [x10_3]) := ⟨_, rfl⟩
                                                replace H : (weighhouselaw06_ShapeNest.l2 kj30 l0 (Int.tmod (wrap64 ((Int.tmod a1 (l0.length : Int)) + (l0.length : Int))) (l0.length : Int)) t306 y322 (wrap64 (x10_3 + 1))) = some r := by first | (rw [hy322]; with_reducible exact H) | (have H2_ := (Option.bind_some _ _).symm.trans H; rw [hy322]; with_reducible exact H2_) | (have H2_ := (Option.bind_some _ _).symm.trans H; with_reducible exact H2_) | with_reducible exact H | (rw [hy322]; exact H) | exact H
                                                have Ny322 := Aside0.mk hy322
                                                clear hy322
                                                have H' := Aside0.mk H
                                                clear H
                                                have p319 : 0 ≤ (x10_3 : Int) := of_decide_eq_true (by first | (with_reducible assumption) | assumption)
                                                have q319 : x10_3 < (t306.length : Int) := of_decide_eq_true (by first | (with_reducible assumption) | assumption)
                                                obtain ⟨ad319, e319, hx319_0⟩ := Kd.at_int (Kd.R_reads' HO_5.out).2.2 x10_3 p319 q319
                                                cases e319
                                                replace p319 := eq_true p319
                                                replace q319 := eq_true q319
                                                have p320 : 0 ≤ ((rd t306 x10_3) : Int) := of_decide_eq_true (by first | (with_reducible assumption) | assumption)
                                                have q320 : (rd t306 x10_3) < (l0.length : Int) := of_decide_eq_true (by first | (with_reducible assumption) | assumption)
                                                obtain ⟨ad320, e320, hx320_0, hx320_1⟩ := at_T31 HR0.out (rd t306 x10_3) p320 q320
                                                cases e320
                                                replace hx320_0 := (HB.out.cell (World.block_lt_of_cell? w _ hx320_0)).trans hx320_0
                                                replace hx320_1 := (HB.out.cell (World.block_lt_of_cell? w _ hx320_1)).trans hx320_1
                                                replace p320 := eq_true p320
                                                replace q320 := eq_true q320
                                                have p321 : 0 ≤ ((rd t306 x10_3) : Int) := of_decide_eq_true (by first | (with_reducible assumption) | assumption)
                                                have q321 : (rd t306 x10_3) < (t306.length : Int) := of_decide_eq_true (by first | (with_reducible assumption) | assumption)
                                                obtain ⟨ad321, e321, hx321_0⟩ := Kd.at_int (Kd.R_reads' HO_5.out).2.2 (rd t306 x10_3) p321 q321
                                                obtain rfl : ad319 = ad321 := (by injection e321)
                                                replace p321 := eq_true p321
                                                replace q321 := eq_true q321
                                                go_wp2_with (first | ((with_reducible refine gate_builtin (b := .append) (xs := #[.tmp 132, .tmp 134]) rfl ?_); (try (refine gate_guard (by rfl) ?_; dsimp only)); at_builtin; refine Kd.R_append (Kd.int .i64) (w0 := w) w.heap.size rfl (.tmp 132) (.tmp 134) 24 3 (.int .i64 0) 8 rfl Try.underlying24 info3 rfl (by decide) (by omega) u7 x7_3 x10_3 [.int .i64 x10_3] (fun k_ => some k_ ≠ (.slice (some ad319) t306.length co17 : Value).ownBlock) (fun _ => False) rfl rfl ?aP (fun _ hk => hk.elim) ?aF ?aO ?aB ?aS ?aL ?_; (case aP => exact rfl); (case aB => exact (by repeat (first | (with_reducible first | exact HB.out | apply below_alloc | apply pw_below_drewN | apply below_drew1) | exact HB.out))); (case aF => exact (fun k_ hk => Kd.fresh' (Kd.R_lt (by (with_reducible repeat (first | apply Kd.R_alloc | apply Kd.R_drewN | apply Kd.R_drew)); exact HO_5.out)) k_ hk)); (case aO => exact (by (with_reducible repeat (first | apply Kd.R_alloc | apply Kd.R_drewN | apply Kd.R_drew)); exact HO_7.out)); (case aS => exact (below_size (by repeat (first | (with_reducible first | exact HB.out | apply below_alloc | apply pw_below_drewN | apply below_drew1) | exact HB.out)))); (case aL => have := LMc43.out; omega); intro v323 w44 ho hb hg hat; rw [← Ny322.out] at ho; have n0_ := Aside0.mk (Kd.R_after (ok := (fun _ => True)) (by (with_reducible repeat (first | apply Kd.R_alloc | apply Kd.R_drewN | apply Kd.R_drew)); exact Kd.R_mono HO_5.out (fun _ hk => ⟨trivial, hk⟩)) hg hat); have n1_ := Aside0.mk (hb); have n2_ := Aside0.mk (ho); clear HO_5; clear HB; clear HO_7; have HO_5 := n0_; have HB := n1_; have HO324 := n2_; clear n0_ n1_ n2_; clear ho hb hg hat))
                                                repeat (go_quiet (first | ((with_reducible refine gate_builtin (b := .append) (xs := #[.tmp 132, .tmp 134]) rfl ?_); (try (refine gate_guard (by rfl) ?_; dsimp only)); at_builtin; refine Kd.R_append (Kd.int .i64) (w0 := w) w.heap.size rfl (.tmp 132) (.tmp 134) 24 3 (.int .i64 0) 8 rfl Try.underlying24 info3 rfl (by decide) (by omega) u7 x7_3 x10_3 [.int .i64 x10_3] (fun k_ => some k_ ≠ (.slice (some ad319) t306.length co17 : Value).ownBlock) (fun _ => False) rfl rfl ?aP (fun _ hk => hk.elim) ?aF ?aO ?aB ?aS ?aL ?_; (case aP => exact rfl); (case aB => exact (by repeat (first | (with_reducible first | exact HB.out | apply below_alloc | apply pw_below_drewN | apply below_drew1) | exact HB.out))); (case aF => exact (fun k_ hk => Kd.fresh' (Kd.R_lt (by (with_reducible repeat (first | apply Kd.R_alloc | apply Kd.R_drewN | apply Kd.R_drew)); exact HO_5.out)) k_ hk)); (case aO => exact (by (with_reducible repeat (first | apply Kd.R_alloc | apply Kd.R_drewN | apply Kd.R_drew)); exact HO_7.out)); (case aS => exact (below_size (by repeat (first | (with_reducible first | exact HB.out | apply below_alloc | apply pw_below_drewN | apply below_drew1) | exact HB.out)))); (case aL => have := LMc43.out; omega); intro v323 w44 ho hb hg hat; rw [← Ny322.out] at ho; have n0_ := Aside0.mk (Kd.R_after (ok := (fun _ => True)) (by (with_reducible repeat (first | apply Kd.R_alloc | apply Kd.R_drewN | apply Kd.R_drew)); exact Kd.R_mono HO_5.out (fun _ hk => ⟨trivial, hk⟩)) hg hat); have n1_ := Aside0.mk (hb); have n2_ := Aside0.mk (ho); clear HO_5; clear HB; clear HO_7; have HO_5 := n0_; have HB := n1_; have HO324 := n2_; clear n0_ n1_ n2_; clear ho hb hg hat)); try go_wp2_with (first | ((with_reducible refine gate_builtin (b := .append) (xs := #[.tmp 132, .tmp 134]) rfl ?_); (try (refine gate_guard (by rfl) ?_; dsimp only)); at_builtin; refine Kd.R_append (Kd.int .i64) (w0 := w) w.heap.size rfl (.tmp 132) (.tmp 134) 24 3 (.int .i64 0) 8 rfl Try.underlying24 info3 rfl (by decide) (by omega) u7 x7_3 x10_3 [.int .i64 x10_3] (fun k_ => some k_ ≠ (.slice (some ad319) t306.length co17 : Value).ownBlock) (fun _ => False) rfl rfl ?aP (fun _ hk => hk.elim) ?aF ?aO ?aB ?aS ?aL ?_; (case aP => exact rfl); (case aB => exact (by repeat (first | (with_reducible first | exact HB.out | apply below_alloc | apply pw_below_drewN | apply below_drew1) | exact HB.out))); (case aF => exact (fun k_ hk => Kd.fresh' (Kd.R_lt (by (with_reducible repeat (first | apply Kd.R_alloc | apply Kd.R_drewN | apply Kd.R_drew)); exact HO_5.out)) k_ hk)); (case aO => exact (by (with_reducible repeat (first | apply Kd.R_alloc | apply Kd.R_drewN | apply Kd.R_drew)); exact HO_7.out)); (case aS => exact (below_size (by repeat (first | (with_reducible first | exact HB.out | apply below_alloc | apply pw_below_drewN | apply below_drew1) | exact HB.out)))); (case aL => have := LMc43.out; omega); intro v323 w44 ho hb hg hat; rw [← Ny322.out] at ho; have n0_ := Aside0.mk (Kd.R_after (ok := (fun _ => True)) (by (with_reducible repeat (first | apply Kd.R_alloc | apply Kd.R_drewN | apply Kd.R_drew)); exact Kd.R_mono HO_5.out (fun _ hk => ⟨trivial, hk⟩)) hg hat); have n1_ := Aside0.mk (hb); have n2_ := Aside0.mk (ho); clear HO_5; clear HB; clear HO_7; have HO_5 := n0_; have HB := n1_; have HO324 := n2_; clear n0_ n1_ n2_; clear ho hb hg hat)))
                                                go_roundg kj30
                                                case measure => have := HJ2.out; have := HK2.out; have := HK3.out; have := HJ30.out; omega
                                                case rel => exact ⟨(y322), (wrap64 (x10_3 + 1)), (by first | rfl | (simp; done) | (simp [*]; done)), H', ⟨by have := HJ2.out; have := HK2.out; have := HK3.out; have := HJ30.out; omega⟩, ⟨by (with_reducible repeat (first | apply Kd.R_alloc | apply Kd.R_drewN | apply Kd.R_drew)); exact Kd.R_mono HO_5.out (fun _ hk => hk.2)⟩, ⟨by (with_reducible repeat (first | apply Kd.R_alloc | apply Kd.R_drewN | apply Kd.R_drew)); exact HO324.out⟩, ⟨by repeat (first | (with_reducible first | exact HB.out | apply below_alloc | apply pw_below_drewN | apply below_drew1) | exact HB.out)⟩⟩
                                              · rw [if_neg c43] at H
                                                exact absurd H (by simp)
                                            · rw [if_neg c42] at H
                                              have c42b0 : decide ((Int.tmod (wrap64 ((Int.tmod a1 (l0.length : Int)) + (l0.length : Int))) (l0.length : Int)) ≤ (rd t306 (rd t306 x10_3))) = false := decide_eq_false c42
                                              clear c42
                                              have H' := Aside0.mk H
                                              clear H
                                              have p319 : 0 ≤ (x10_3 : Int) := of_decide_eq_true (by first | (with_reducible assumption) | assumption)
                                              have q319 : x10_3 < (t306.length : Int) := of_decide_eq_true (by first | (with_reducible assumption) | assumption)
                                              obtain ⟨ad319, e319, hx319_0⟩ := Kd.at_int (Kd.R_reads' HO_5.out).2.2 x10_3 p319 q319
                                              cases e319
                                              replace p319 := eq_true p319
                                              replace q319 := eq_true q319
                                              have p320 : 0 ≤ ((rd t306 x10_3) : Int) := of_decide_eq_true (by first | (with_reducible assumption) | assumption)
                                              have q320 : (rd t306 x10_3) < (l0.length : Int) := of_decide_eq_true (by first | (with_reducible assumption) | assumption)
                                              obtain ⟨ad320, e320, hx320_0, hx320_1⟩ := at_T31 HR0.out (rd t306 x10_3) p320 q320
                                              cases e320
                                              replace hx320_0 := (HB.out.cell (World.block_lt_of_cell? w _ hx320_0)).trans hx320_0
                                              replace hx320_1 := (HB.out.cell (World.block_lt_of_cell? w _ hx320_1)).trans hx320_1
                                              replace p320 := eq_true p320
                                              replace q320 := eq_true q320
                                              have p321 : 0 ≤ ((rd t306 x10_3) : Int) := of_decide_eq_true (by first | (with_reducible assumption) | assumption)
                                              have q321 : (rd t306 x10_3) < (t306.length : Int) := of_decide_eq_true (by first | (with_reducible assumption) | assumption)
                                              obtain ⟨ad321, e321, hx321_0⟩ := Kd.at_int (Kd.R_reads' HO_5.out).2.2 (rd t306 x10_3) p321 q321
                                              obtain rfl : ad319 = ad321 := (by injection e321)
                                              replace p321 := eq_true p321
                                              replace q321 := eq_true q321
                                              go_wp2
                                              repeat (go_quiet (fail); try go_wp2)
                                              go_roundg kj30
                                              case measure => have := HJ2.out; have := HK2.out; have := HK3.out; have := HJ30.out; omega
                                              case rel => exact ⟨(x7_3), (wrap64 (x10_3 + 1)), (by first | rfl | (simp; done) | (simp [*]; done)), H', ⟨by have := HJ2.out; have := HK2.out; have := HK3.out; have := HJ30.out; omega⟩, ⟨by (with_reducible repeat (first | apply Kd.R_alloc | apply Kd.R_drewN | apply Kd.R_drew)); exact HO_5.out⟩, ⟨by (with_reducible repeat (first | apply Kd.R_alloc | apply Kd.R_drewN | apply Kd.R_drew)); exact HO_7.out⟩, ⟨by repeat (first | (with_reducible first | exact HB.out | apply below_alloc | apply pw_below_drewN | apply below_drew1) | exact HB.out)⟩⟩
                                          · rw [if_neg c41] at H
                                            exact absurd H (by simp)
                                        · rw [if_neg c40] at H
                                          have c40b0 : (((rd_T31 l0 (rd t306 x10_3)).f0) == 49) = false := beq_eq_false_iff_ne.mpr c40
                                          have c40b1 : (((rd_T31 l0 (rd t306 x10_3)).f0) != 49) = true := bne_iff_ne.mpr c40
                                          by_cases c45 : (rd t306 x10_3) ≥ (Int.tmod (wrap64 ((Int.tmod a1 (l0.length : Int)) + (l0.length : Int))) (l0.length : Int))
                                          · rw [if_pos c45] at H
                                            have c45b0 : decide ((Int.tmod (wrap64 ((Int.tmod a1 (l0.length : Int)) + (l0.length : Int))) (l0.length : Int)) ≤ (rd t306 x10_3)) = true := decide_eq_true c45
                                            clear c45
                                            by_cases c46 : x7_3.length < 17592186044416
                                            · rw [if_pos c46] at H
                                              have LMc46 := Aside0.mk c46
                                              clear c46
                                              obtain ⟨y325, hy325⟩ : ∃ y_ : List Int, y_ = (x7_3 ++ [x10_3]) := ⟨_, rfl⟩
                                              replace H : (weighhouselaw06_ShapeNest.l2 kj30 l0 (Int.tmod (wrap64 ((Int.tmod a1 (l0.length : Int)) + (l0.length : Int))) (l0.length : Int)) t306 y325 (wrap64 (x10_3 + 1))) = some r := by first | (rw [hy325]; with_reducible exact H) | (have H2_ := (Option.bind_some _ _).symm.trans H; rw [hy325]; with_reducible exact H2_) | (have H2_ := (Option.bind_some _ _).symm.trans H; with_reducible exact H2_) | with_reducible exact H | (rw [hy325]; exact H) | exact H
                                              have Ny325 := Aside0.mk hy325
                                              clear hy325
                                              have H' := Aside0.mk H
                                              clear H
                                              have p319 : 0 ≤ (x10_3 : Int) := of_decide_eq_true (by first | (with_reducible assumption) | assumption)
                                              have q319 : x10_3 < (t306.length : Int) := of_decide_eq_true (by first | (with_reducible assumption) | assumption)
                                              obtain ⟨ad319, e319, hx319_0⟩ := Kd.at_int (Kd.R_reads' HO_5.out).2.2 x10_3 p319 q319
                                              cases e319
                                              replace p319 := eq_true p319
                                              replace q319 := eq_true q319
                                              have p320 : 0 ≤ ((rd t306 x10_3) : Int) := of_decide_eq_true (by first | (with_reducible assumption) | assumption)
                                              have q320 : (rd t306 x10_3) < (l0.length : Int) := of_decide_eq_true (by first | (with_reducible assumption) | assumption)
                                              obtain ⟨ad320, e320, hx320_0, hx320_1⟩ := at_T31 HR0.out (rd t306 x10_3) p320 q320
                                              cases e320
                                              replace hx320_0 := (HB.out.cell (World.block_lt_of_cell? w _ hx320_0)).trans hx320_0
                                              replace hx320_1 := (HB.out.cell (World.block_lt_of_cell? w _ hx320_1)).trans hx320_1
                                              replace p320 := eq_true p320
                                              replace q320 := eq_true q320
                                              go_wp2_with (first | ((with_reducible refine gate_builtin (b := .append) (xs := #[.tmp 132, .tmp 134]) rfl ?_); (try (refine gate_guard (by rfl) ?_; dsimp only)); at_builtin; refine Kd.R_append (Kd.int .i64) (w0 := w) w.heap.size rfl (.tmp 132) (.tmp 134) 24 3 (.int .i64 0) 8 rfl Try.underlying24 info3 rfl (by decide) (by omega) u7 x7_3 x10_3 [.int .i64 x10_3] (fun k_ => some k_ ≠ (.slice (some ad319) t306.length co17 : Value).ownBlock) (fun _ => False) rfl rfl ?aP (fun _ hk => hk.elim) ?aF ?aO ?aB ?aS ?aL ?_; (case aP => exact rfl); (case aB => exact (by repeat (first | (with_reducible first | exact HB.out | apply below_alloc | apply pw_below_drewN | apply below_drew1) | exact HB.out))); (case aF => exact (fun k_ hk => Kd.fresh' (Kd.R_lt (by (with_reducible repeat (first | apply Kd.R_alloc | apply Kd.R_drewN | apply Kd.R_drew)); exact HO_5.out)) k_ hk)); (case aO => exact (by (with_reducible repeat (first | apply Kd.R_alloc | apply Kd.R_drewN | apply Kd.R_drew)); exact HO_7.out)); (case aS => exact (below_size (by repeat (first | (with_reducible first | exact HB.out | apply below_alloc | apply pw_below_drewN | apply below_drew1) | exact HB.out)))); (case aL => have := LMc46.out; omega); intro v326 w47 ho hb hg hat; rw [← Ny325.out] at ho; have n0_ := Aside0.mk (Kd.R_after (ok := (fun _ => True)) (by (with_reducible repeat (first | apply Kd.R_alloc | apply Kd.R_drewN | apply Kd.R_drew)); exact Kd.R_mono HO_5.out (fun _ hk => ⟨trivial, hk⟩)) hg hat); have n1_ := Aside0.mk (hb); have n2_ := Aside0.mk (ho); clear HO_5; clear HB; clear HO_7; have HO_5 := n0_; have HB := n1_; have HO327 := n2_; clear n0_ n1_ n2_; clear ho hb hg hat))
                                              repeat (go_quiet (first | ((with_reducible refine gate_builtin (b := .append) (xs := #[.tmp 132, .tmp 134]) rfl ?_); (try (refine gate_guard (by rfl) ?_; dsimp only)); at_builtin; refine Kd.R_append (Kd.int .i64) (w0 := w) w.heap.size rfl (.tmp 132) (.tmp 134) 24 3 (.int .i64 0) 8 rfl Try.underlying24 info3 rfl (by decide) (by omega) u7 x7_3 x10_3 [.int .i64 x10_3] (fun k_ => some k_ ≠ (.slice (some ad319) t306.length co17 : Value).ownBlock) (fun _ => False) rfl rfl ?aP (fun _ hk => hk.elim) ?aF ?aO ?aB ?aS ?aL ?_; (case aP => exact rfl); (case aB => exact (by repeat (first | (with_reducible first | exact HB.out | apply below_alloc | apply pw_below_drewN | apply below_drew1) | exact HB.out))); (case aF => exact (fun k_ hk => Kd.fresh' (Kd.R_lt (by (with_reducible repeat (first | apply Kd.R_alloc | apply Kd.R_drewN | apply Kd.R_drew)); exact HO_5.out)) k_ hk)); (case aO => exact (by (with_reducible repeat (first | apply Kd.R_alloc | apply Kd.R_drewN | apply Kd.R_drew)); exact HO_7.out)); (case aS => exact (below_size (by repeat (first | (with_reducible first | exact HB.out | apply below_alloc | apply pw_below_drewN | apply below_drew1) | exact HB.out)))); (case aL => have := LMc46.out; omega); intro v326 w47 ho hb hg hat; rw [← Ny325.out] at ho; have n0_ := Aside0.mk (Kd.R_after (ok := (fun _ => True)) (by (with_reducible repeat (first | apply Kd.R_alloc | apply Kd.R_drewN | apply Kd.R_drew)); exact Kd.R_mono HO_5.out (fun _ hk => ⟨trivial, hk⟩)) hg hat); have n1_ := Aside0.mk (hb); have n2_ := Aside0.mk (ho); clear HO_5; clear HB; clear HO_7; have HO_5 := n0_; have HB := n1_; have HO327 := n2_; clear n0_ n1_ n2_; clear ho hb hg hat)); try go_wp2_with (first | ((with_reducible refine gate_builtin (b := .append) (xs := #[.tmp 132, .tmp 134]) rfl ?_); (try (refine gate_guard (by rfl) ?_; dsimp only)); at_builtin; refine Kd.R_append (Kd.int .i64) (w0 := w) w.heap.size rfl (.tmp 132) (.tmp 134) 24 3 (.int .i64 0) 8 rfl Try.underlying24 info3 rfl (by decide) (by omega) u7 x7_3 x10_3 [.int .i64 x10_3] (fun k_ => some k_ ≠ (.slice (some ad319) t306.length co17 : Value).ownBlock) (fun _ => False) rfl rfl ?aP (fun _ hk => hk.elim) ?aF ?aO ?aB ?aS ?aL ?_; (case aP => exact rfl); (case aB => exact (by repeat (first | (with_reducible first | exact HB.out | apply below_alloc | apply pw_below_drewN | apply below_drew1) | exact HB.out))); (case aF => exact (fun k_ hk => Kd.fresh' (Kd.R_lt (by (with_reducible repeat (first | apply Kd.R_alloc | apply Kd.R_drewN | apply Kd.R_drew)); exact HO_5.out)) k_ hk)); (case aO => exact (by (with_reducible repeat (first | apply Kd.R_alloc | apply Kd.R_drewN | apply Kd.R_drew)); exact HO_7.out)); (case aS => exact (below_size (by repeat (first | (with_reducible first | exact HB.out | apply below_alloc | apply pw_below_drewN | apply below_drew1) | exact HB.out)))); (case aL => have := LMc46.out; omega); intro v326 w47 ho hb hg hat; rw [← Ny325.out] at ho; have n0_ := Aside0.mk (Kd.R_after (ok := (fun _ => True)) (by (with_reducible repeat (first | apply Kd.R_alloc | apply Kd.R_drewN | apply Kd.R_drew)); exact Kd.R_mono HO_5.out (fun _ hk => ⟨trivial, hk⟩)) hg hat); have n1_ := Aside0.mk (hb); have n2_ := Aside0.mk (ho); clear HO_5; clear HB; clear HO_7; have HO_5 := n0_; have HB := n1_; have HO327 := n2_; clear n0_ n1_ n2_; clear ho hb hg hat)))
                                              go_roundg kj30
                                              case measure => have := HJ2.out; have := HK2.out; have := HK3.out; have := HJ30.out; omega
                                              case rel => exact ⟨(y325), (wrap64 (x10_3 + 1)), (by first | rfl | (simp; done) | (simp [*]; done)), H', ⟨by have := HJ2.out; have := HK2.out; have := HK3.out; have := HJ30.out; omega⟩, ⟨by (with_reducible repeat (first | apply Kd.R_alloc | apply Kd.R_drewN | apply Kd.R_drew)); exact Kd.R_mono HO_5.out (fun _ hk => hk.2)⟩, ⟨by (with_reducible repeat (first | apply Kd.R_alloc | apply Kd.R_drewN | apply Kd.R_drew)); exact HO327.out⟩, ⟨by repeat (first | (with_reducible first | exact HB.out | apply below_alloc | apply pw_below_drewN | apply below_drew1) | exact HB.out)⟩⟩
                                            · rw [if_neg c46] at H
                                              exact absurd H (by simp)
                                          · rw [if_neg c45] at H
                                            have c45b0 : decide ((Int.tmod (wrap64 ((Int.tmod a1 (l0.length : Int)) + (l0.length : Int))) (l0.length : Int)) ≤ (rd t306 x10_3)) = false := decide_eq_false c45
                                            clear c45
                                            have H' := Aside0.mk H
                                            clear H
                                            have p319 : 0 ≤ (x10_3 : Int) := of_decide_eq_true (by first | (with_reducible assumption) | assumption)
                                            have q319 : x10_3 < (t306.length : Int) := of_decide_eq_true (by first | (with_reducible assumption) | assumption)
                                            obtain ⟨ad319, e319, hx319_0⟩ := Kd.at_int (Kd.R_reads' HO_5.out).2.2 x10_3 p319 q319
                                            cases e319
                                            replace p319 := eq_true p319
                                            replace q319 := eq_true q319
                                            have p320 : 0 ≤ ((rd t306 x10_3) : Int) := of_decide_eq_true (by first | (with_reducible assumption) | assumption)
                                            have q320 : (rd t306 x10_3) < (l0.length : Int) := of_decide_eq_true (by first | (with_reducible assumption) | assumption)
                                            obtain ⟨ad320, e320, hx320_0, hx320_1⟩ := at_T31 HR0.out (rd t306 x10_3) p320 q320
                                            cases e320
                                            replace hx320_0 := (HB.out.cell (World.block_lt_of_cell? w _ hx320_0)).trans hx320_0
                                            replace hx320_1 := (HB.out.cell (World.block_lt_of_cell? w _ hx320_1)).trans hx320_1
                                            replace p320 := eq_true p320
                                            replace q320 := eq_true q320
                                            go_wp2
                                            repeat (go_quiet (fail); try go_wp2)
                                            go_roundg kj30
                                            case measure => have := HJ2.out; have := HK2.out; have := HK3.out; have := HJ30.out; omega
                                            case rel => exact ⟨(x7_3), (wrap64 (x10_3 + 1)), (by first | rfl | (simp; done) | (simp [*]; done)), H', ⟨by have := HJ2.out; have := HK2.out; have := HK3.out; have := HJ30.out; omega⟩, ⟨by (with_reducible repeat (first | apply Kd.R_alloc | apply Kd.R_drewN | apply Kd.R_drew)); exact HO_5.out⟩, ⟨by (with_reducible repeat (first | apply Kd.R_alloc | apply Kd.R_drewN | apply Kd.R_drew)); exact HO_7.out⟩, ⟨by repeat (first | (with_reducible first | exact HB.out | apply below_alloc | apply pw_below_drewN | apply below_drew1) | exact HB.out)⟩⟩
                                      · rw [if_neg c39] at H
                                        exact absurd H (by simp)
                                    · rw [if_neg c38] at H
                                      exact absurd H (by simp)
                                  · rw [if_neg c37] at H
                                    exact absurd H (by simp)
                                · rw [if_neg c36] at H
                                  exact absurd H (by simp)
                        · rw [if_neg c30] at H
                          have c30b0 : decide (x10_3 < (Int.tmod (wrap64 ((Int.tmod a1 (l0.length : Int)) + (l0.length : Int))) (l0.length : Int))) = false := decide_eq_false c30
                          clear c30
                          replace H := Option.bind_eq_some_iff.mp H
                          obtain ⟨t328, A480, H⟩ := H
                          replace H : ((shape_Depth.f t328).bind fun bt331 => ((weighhouselaw06_Own.f l0).bind fun t333 => ((shape_Around.f t333 (Int.tmod (wrap64 ((Int.tmod a1 (l0.length : Int)) + (l0.length : Int))) (l0.length : Int))).bind fun t336 => ((weighhouselaw03_Ints.f k3 t336 x7_3).bind fun t339 => (if t339 = true then ((weighhouselaw06_num.f bt331.2).bind fun t340 => (if t340 = 0 then (if bt331.1 ≥ (x7_3.length : Int) then ((weighhouselaw06_knows.f k3).bind fun t341 => (some t341)) else (some false)) else (some false))) else (some false)))))) = some r := H
                          have A48 := Aside0.mk A480
                          clear A480
                          replace H := Option.bind_eq_some_iff.mp H
                          obtain ⟨⟨t331, t332⟩, A490, H⟩ := H
                          replace H : ((weighhouselaw06_Own.f l0).bind fun t333 => ((shape_Around.f t333 (Int.tmod (wrap64 ((Int.tmod a1 (l0.length : Int)) + (l0.length : Int))) (l0.length : Int))).bind fun t336 => ((weighhouselaw03_Ints.f k3 t336 x7_3).bind fun t339 => (if t339 = true then ((weighhouselaw06_num.f t332).bind fun t340 => (if t340 = 0 then (if t331 ≥ (x7_3.length : Int) then ((weighhouselaw06_knows.f k3).bind fun t341 => (some t341)) else (some false)) else (some false))) else (some false))))) = some r := H
                          have A49 := Aside0.mk A490
                          clear A490
                          replace H := Option.bind_eq_some_iff.mp H
                          obtain ⟨t333, A500, H⟩ := H
                          replace H : ((shape_Around.f t333 (Int.tmod (wrap64 ((Int.tmod a1 (l0.length : Int)) + (l0.length : Int))) (l0.length : Int))).bind fun t336 => ((weighhouselaw03_Ints.f k3 t336 x7_3).bind fun t339 => (if t339 = true then ((weighhouselaw06_num.f t332).bind fun t340 => (if t340 = 0 then (if t331 ≥ (x7_3.length : Int) then ((weighhouselaw06_knows.f k3).bind fun t341 => (some t341)) else (some false)) else (some false))) else (some false)))) = some r := H
                          have A50 := Aside0.mk A500
                          obtain rfl : t328 = t333 := Option.some.inj (A48.out.symm.trans A50.out)
                          clear A500
                          replace H := Option.bind_eq_some_iff.mp H
                          obtain ⟨t336, A510, H⟩ := H
                          replace H : ((weighhouselaw03_Ints.f k3 t336 x7_3).bind fun t339 => (if t339 = true then ((weighhouselaw06_num.f t332).bind fun t340 => (if t340 = 0 then (if t331 ≥ (x7_3.length : Int) then ((weighhouselaw06_knows.f k3).bind fun t341 => (some t341)) else (some false)) else (some false))) else (some false))) = some r := H
                          have A51 := Aside0.mk A510
                          clear A510
                          replace H := Option.bind_eq_some_iff.mp H
                          obtain ⟨t339, A520, H⟩ := H
                          replace H : (if t339 = true then ((weighhouselaw06_num.f t332).bind fun t340 => (if t340 = 0 then (if t331 ≥ (x7_3.length : Int) then ((weighhouselaw06_knows.f k3).bind fun t341 => (some t341)) else (some false)) else (some false))) else (some false)) = some r := H
                          have A52 := Aside0.mk A520
                          clear A520
                          by_cases c53 : t339 = true
                          · subst c53
                            have H1 : ((weighhouselaw06_num.f t332).bind fun t340 => (if t340 = 0 then (if t331 ≥ (x7_3.length : Int) then ((weighhouselaw06_knows.f k3).bind fun t341 => (some t341)) else (some false)) else (some false))) = some r := by rw [if_pos rfl] at H; exact H
                            clear H
                            have H := H1
                            clear H1
                            replace H := Option.bind_eq_some_iff.mp H
                            obtain ⟨t340, A540, H⟩ := H
                            replace H : (if t340 = 0 then (if t331 ≥ (x7_3.length : Int) then ((weighhouselaw06_knows.f k3).bind fun t341 => (some t341)) else (some false)) else (some false)) = some r := H
                            have A54 := Aside0.mk A540
                            clear A540
                            by_cases c55 : t340 = 0
                            · rw [if_pos c55] at H
                              have c55b0 : (t340 == 0) = true := beq_iff_eq.mpr c55
                              have c55b1 : (t340 != 0) = false := bne_eq_false_iff_eq.mpr c55
                              clear c55
                              by_cases c56 : t331 ≥ (x7_3.length : Int)
                              · rw [if_pos c56] at H
                                have c56b0 : decide ((x7_3.length : Int) ≤ t331) = true := decide_eq_true c56
                                clear c56
                                replace H := Option.bind_eq_some_iff.mp H
                                obtain ⟨t341, A570, H⟩ := H
                                replace H : (some t341) = some r := H
                                have A57 := Aside0.mk A570
                                clear A570
                                obtain rfl := Option.some.inj H
                                go_wp2_with (first | (go_at_call 11; (with_reducible refine (weighhouselaw06_Own.calls _ _ l0 t328 _ ?side1 ?side2 A48.out).mono ?_); (case side1 => repeat (first | exact (Kd.C_below HR0.out HB.out) | (with_reducible refine Kd.C_alloc ?_ _) | (with_reducible refine Kd.C_drewN ?_ _) | (with_reducible refine Kd.C_drew ?_))); (case side2 => exact HC0.out); rintro e w58 ⟨v329, rfl, ho0, hb⟩; have n0_ := Aside0.mk (Kd.R_below (by (with_reducible repeat (first | apply Kd.R_alloc | apply Kd.R_drewN | apply Kd.R_drew)); exact HO_5.out) hb); have n1_ := Aside0.mk (Kd.R_below (by (with_reducible repeat (first | apply Kd.R_alloc | apply Kd.R_drewN | apply Kd.R_drew)); exact HO_7.out) hb); have n2_ := Aside0.mk (Kd.R_lower ho0 (below_size (by repeat (first | (with_reducible first | exact HB.out | apply below_alloc | apply pw_below_drewN | apply below_drew1) | exact HB.out)))); have n3_ := Aside0.mk (below_step (by repeat (first | (with_reducible first | exact HB.out | apply below_alloc | apply pw_below_drewN | apply below_drew1) | exact HB.out)) hb); clear HO_5; clear HO_7; clear HB; have HO_5 := n0_; have HO_7 := n1_; have HO330 := n2_; have HB := n3_; clear n0_ n1_ n2_ n3_; (try clear hb); (try clear hb2); (try clear hk); (try clear hi); (try clear ho0); obtain ⟨Ao59, co59, eo59⟩ := Kd.R_slice HO330.out; subst eo59) | (go_at_call 16; (with_reducible refine (shape_Depth.calls _ _ t328 t331 t332 _ ?side1 ?side2 A49.out).mono ?_); (case side1 => repeat (first | exact (Kd.R_reads' HO330.out).2.2 | (with_reducible refine Kd.C_alloc ?_ _) | (with_reducible refine Kd.C_drewN ?_ _) | (with_reducible refine Kd.C_drew ?_))); (case side2 => exact (Kd.R_reads' HO330.out).2.1); rintro e w60 ⟨rfl, hb⟩; have n0_ := Aside0.mk (Kd.R_below (by (with_reducible repeat (first | apply Kd.R_alloc | apply Kd.R_drewN | apply Kd.R_drew)); exact HO_5.out) hb); have n1_ := Aside0.mk (Kd.R_below (by (with_reducible repeat (first | apply Kd.R_alloc | apply Kd.R_drewN | apply Kd.R_drew)); exact HO_7.out) hb); have n2_ := Aside0.mk (Kd.R_below (by (with_reducible repeat (first | apply Kd.R_alloc | apply Kd.R_drewN | apply Kd.R_drew)); exact HO330.out) hb); have n3_ := Aside0.mk (below_step (by repeat (first | (with_reducible first | exact HB.out | apply below_alloc | apply pw_below_drewN | apply below_drew1) | exact HB.out)) hb); clear HO_5; clear HO_7; clear HO330; clear HB; have HO_5 := n0_; have HO_7 := n1_; have HO330 := n2_; have HB := n3_; clear n0_ n1_ n2_ n3_; (try clear hb); (try clear hb2); (try clear hk); (try clear hi)) | (go_at_call 11; (with_reducible refine (weighhouselaw06_Own.calls _ _ l0 t328 _ ?side1 ?side2 A50.out).mono ?_); (case side1 => repeat (first | exact (Kd.C_below HR0.out HB.out) | (with_reducible refine Kd.C_alloc ?_ _) | (with_reducible refine Kd.C_drewN ?_ _) | (with_reducible refine Kd.C_drew ?_))); (case side2 => exact HC0.out); rintro e w61 ⟨v334, rfl, ho0, hb⟩; have n0_ := Aside0.mk (Kd.R_below (by (with_reducible repeat (first | apply Kd.R_alloc | apply Kd.R_drewN | apply Kd.R_drew)); exact HO_5.out) hb); have n1_ := Aside0.mk (Kd.R_below (by (with_reducible repeat (first | apply Kd.R_alloc | apply Kd.R_drewN | apply Kd.R_drew)); exact HO_7.out) hb); have n2_ := Aside0.mk (Kd.R_elder' (by (with_reducible repeat (first | apply Kd.R_alloc | apply Kd.R_drewN | apply Kd.R_drew)); exact HO330.out) (Kd.R_base ho0) hb); have n3_ := Aside0.mk (Kd.R_lower (Kd.R_new' ho0 (Kd.R_lt (by (with_reducible repeat (first | apply Kd.R_alloc | apply Kd.R_drewN | apply Kd.R_drew)); exact HO330.out))) (below_size (by repeat (first | (with_reducible first | exact HB.out | apply below_alloc | apply pw_below_drewN | apply below_drew1) | exact HB.out)))); have n4_ := Aside0.mk (below_step (by repeat (first | (with_reducible first | exact HB.out | apply below_alloc | apply pw_below_drewN | apply below_drew1) | exact HB.out)) hb); clear HO_5; clear HO_7; clear HO330; clear HB; have HO_5 := n0_; have HO_7 := n1_; have HO330 := n2_; have HO330 := n3_; have HB := n4_; clear n0_ n1_ n2_ n3_ n4_; (try clear hb); (try clear hb2); (try clear hk); (try clear hi); (try clear ho0); obtain ⟨Ao62, co62, eo62⟩ := Kd.R_slice HO330.out; subst eo62) | (go_at_call 19; (with_reducible refine (shape_Around.calls _ _ t328 (Int.tmod (wrap64 ((Int.tmod a1 (l0.length : Int)) + (l0.length : Int))) (l0.length : Int)) t336 _ ?side1 ?side2 A51.out).mono ?_); (case side1 => repeat (first | exact (Kd.R_reads' HO330.out).2.2 | (with_reducible refine Kd.C_alloc ?_ _) | (with_reducible refine Kd.C_drewN ?_ _) | (with_reducible refine Kd.C_drew ?_))); (case side2 => exact (Kd.R_reads' HO330.out).2.1); rintro e w63 ⟨v337, rfl, ho0, hb⟩; have n0_ := Aside0.mk (Kd.R_elder' (by (with_reducible repeat (first | apply Kd.R_alloc | apply Kd.R_drewN | apply Kd.R_drew)); exact HO_5.out) (Kd.R_base ho0) hb); have n1_ := Aside0.mk (Kd.R_elder' (by (with_reducible repeat (first | apply Kd.R_alloc | apply Kd.R_drewN | apply Kd.R_drew)); exact HO_7.out) (Kd.R_base ho0) hb); have n2_ := Aside0.mk (Kd.R_below (by (with_reducible repeat (first | apply Kd.R_alloc | apply Kd.R_drewN | apply Kd.R_drew)); exact HO330.out) hb); have n3_ := Aside0.mk (Kd.R_below (by (with_reducible repeat (first | apply Kd.R_alloc | apply Kd.R_drewN | apply Kd.R_drew)); exact HO330.out) hb); have n4_ := Aside0.mk (Kd.R_lower (Kd.R_new' (Kd.R_new' ho0 (Kd.R_lt (by (with_reducible repeat (first | apply Kd.R_alloc | apply Kd.R_drewN | apply Kd.R_drew)); exact HO_5.out))) (Kd.R_lt (by (with_reducible repeat (first | apply Kd.R_alloc | apply Kd.R_drewN | apply Kd.R_drew)); exact HO_7.out))) (below_size (by repeat (first | (with_reducible first | exact HB.out | apply below_alloc | apply pw_below_drewN | apply below_drew1) | exact HB.out)))); have n5_ := Aside0.mk (below_step (by repeat (first | (with_reducible first | exact HB.out | apply below_alloc | apply pw_below_drewN | apply below_drew1) | exact HB.out)) hb); clear HO_5; clear HO_7; clear HO330; clear HO330; clear HB; have HO_5 := n0_; have HO_7 := n1_; have HO330 := n2_; have HO330 := n3_; have HO338 := n4_; have HB := n5_; clear n0_ n1_ n2_ n3_ n4_ n5_; (try clear hb); (try clear hb2); (try clear hk); (try clear hi); (try clear ho0); obtain ⟨Ao64, co64, eo64⟩ := Kd.R_slice HO338.out; subst eo64; obtain ⟨Ao65, co65, eo65⟩ := Kd.R_slice HO_7.out; subst eo65) | (go_at_call 18; (with_reducible refine (weighhouselaw03_Ints.calls k3 _ _ t336 _ _ x7_3 true _ ?side1 ?side2 ?side3 ?side4 A52.out).mono ?_); (case side1 => repeat (first | exact (Kd.R_reads' HO338.out).2.2 | (with_reducible refine Kd.C_alloc ?_ _) | (with_reducible refine Kd.C_drewN ?_ _) | (with_reducible refine Kd.C_drew ?_))); (case side2 => exact (Kd.R_reads' HO338.out).2.1); (case side3 => repeat (first | exact (Kd.R_reads' HO_7.out).2.2 | (with_reducible refine Kd.C_alloc ?_ _) | (with_reducible refine Kd.C_drewN ?_ _) | (with_reducible refine Kd.C_drew ?_))); (case side4 => exact (Kd.R_reads' HO_7.out).2.1); rintro e w' ⟨rfl, ⟨nd, rfl⟩⟩; (try first | exact ⟨rfl, _, World.drewN_drewN _ _ _⟩ | exact ⟨rfl, _, Eq.trans (World.drewN_drewN _ _ _) (congrArg (World.drewN _) (Nat.add_assoc _ _ _))⟩)) | (go_at_call 12; (with_reducible refine (weighhouselaw06_num.calls t332 t340 _ A54.out).mono ?_); rintro e w' ⟨rfl, ⟨nd, rfl⟩⟩; (try first | exact ⟨rfl, _, World.drewN_drewN _ _ _⟩ | exact ⟨rfl, _, Eq.trans (World.drewN_drewN _ _ _) (congrArg (World.drewN _) (Nat.add_assoc _ _ _))⟩)) | (go_at_call 9; (with_reducible refine (weighhouselaw06_knows.calls k3  t341 _ A57.out).mono ?_); rintro e w66 ⟨rfl, hb⟩; have n0_ := Aside0.mk (Kd.R_below (by (with_reducible repeat (first | apply Kd.R_alloc | apply Kd.R_drewN | apply Kd.R_drew)); exact HO_5.out) hb); have n1_ := Aside0.mk (Kd.R_below (by (with_reducible repeat (first | apply Kd.R_alloc | apply Kd.R_drewN | apply Kd.R_drew)); exact HO_7.out) hb); have n2_ := Aside0.mk (Kd.R_below (by (with_reducible repeat (first | apply Kd.R_alloc | apply Kd.R_drewN | apply Kd.R_drew)); exact HO330.out) hb); have n3_ := Aside0.mk (Kd.R_below (by (with_reducible repeat (first | apply Kd.R_alloc | apply Kd.R_drewN | apply Kd.R_drew)); exact HO330.out) hb); have n4_ := Aside0.mk (Kd.R_below (by (with_reducible repeat (first | apply Kd.R_alloc | apply Kd.R_drewN | apply Kd.R_drew)); exact HO338.out) hb); have n5_ := Aside0.mk (below_step (by repeat (first | (with_reducible first | exact HB.out | apply below_alloc | apply pw_below_drewN | apply below_drew1) | exact HB.out)) hb); clear HO_5; clear HO_7; clear HO330; clear HO330; clear HO338; clear HB; have HO_5 := n0_; have HO_7 := n1_; have HO330 := n2_; have HO330 := n3_; have HO338 := n4_; have HB := n5_; clear n0_ n1_ n2_ n3_ n4_ n5_; (try clear hb); (try clear hb2); (try clear hk); (try clear hi)))
                                repeat (go_quiet (first | (go_at_call 11; (with_reducible refine (weighhouselaw06_Own.calls _ _ l0 t328 _ ?side1 ?side2 A48.out).mono ?_); (case side1 => repeat (first | exact (Kd.C_below HR0.out HB.out) | (with_reducible refine Kd.C_alloc ?_ _) | (with_reducible refine Kd.C_drewN ?_ _) | (with_reducible refine Kd.C_drew ?_))); (case side2 => exact HC0.out); rintro e w58 ⟨v329, rfl, ho0, hb⟩; have n0_ := Aside0.mk (Kd.R_below (by (with_reducible repeat (first | apply Kd.R_alloc | apply Kd.R_drewN | apply Kd.R_drew)); exact HO_5.out) hb); have n1_ := Aside0.mk (Kd.R_below (by (with_reducible repeat (first | apply Kd.R_alloc | apply Kd.R_drewN | apply Kd.R_drew)); exact HO_7.out) hb); have n2_ := Aside0.mk (Kd.R_lower ho0 (below_size (by repeat (first | (with_reducible first | exact HB.out | apply below_alloc | apply pw_below_drewN | apply below_drew1) | exact HB.out)))); have n3_ := Aside0.mk (below_step (by repeat (first | (with_reducible first | exact HB.out | apply below_alloc | apply pw_below_drewN | apply below_drew1) | exact HB.out)) hb); clear HO_5; clear HO_7; clear HB; have HO_5 := n0_; have HO_7 := n1_; have HO330 := n2_; have HB := n3_; clear n0_ n1_ n2_ n3_; (try clear hb); (try clear hb2); (try clear hk); (try clear hi); (try clear ho0); obtain ⟨Ao59, co59, eo59⟩ := Kd.R_slice HO330.out; subst eo59) | (go_at_call 16; (with_reducible refine (shape_Depth.calls _ _ t328 t331 t332 _ ?side1 ?side2 A49.out).mono ?_); (case side1 => repeat (first | exact (Kd.R_reads' HO330.out).2.2 | (with_reducible refine Kd.C_alloc ?_ _) | (with_reducible refine Kd.C_drewN ?_ _) | (with_reducible refine Kd.C_drew ?_))); (case side2 => exact (Kd.R_reads' HO330.out).2.1); rintro e w60 ⟨rfl, hb⟩; have n0_ := Aside0.mk (Kd.R_below (by (with_reducible repeat (first | apply Kd.R_alloc | apply Kd.R_drewN | apply Kd.R_drew)); exact HO_5.out) hb); have n1_ := Aside0.mk (Kd.R_below (by (with_reducible repeat (first | apply Kd.R_alloc | apply Kd.R_drewN | apply Kd.R_drew)); exact HO_7.out) hb); have n2_ := Aside0.mk (Kd.R_below (by (with_reducible repeat (first | apply Kd.R_alloc | apply Kd.R_drewN | apply Kd.R_drew)); exact HO330.out) hb); have n3_ := Aside0.mk (below_step (by repeat (first | (with_reducible first | exact HB.out | apply below_alloc | apply pw_below_drewN | apply below_drew1) | exact HB.out)) hb); clear HO_5; clear HO_7; clear HO330; clear HB; have HO_5 := n0_; have HO_7 := n1_; have HO330 := n2_; have HB := n3_; clear n0_ n1_ n2_ n3_; (try clear hb); (try clear hb2); (try clear hk); (try clear hi)) | (go_at_call 11; (with_reducible refine (weighhouselaw06_Own.calls _ _ l0 t328 _ ?side1 ?side2 A50.out).mono ?_); (case side1 => repeat (first | exact (Kd.C_below HR0.out HB.out) | (with_reducible refine Kd.C_alloc ?_ _) | (with_reducible refine Kd.C_drewN ?_ _) | (with_reducible refine Kd.C_drew ?_))); (case side2 => exact HC0.out); rintro e w61 ⟨v334, rfl, ho0, hb⟩; have n0_ := Aside0.mk (Kd.R_below (by (with_reducible repeat (first | apply Kd.R_alloc | apply Kd.R_drewN | apply Kd.R_drew)); exact HO_5.out) hb); have n1_ := Aside0.mk (Kd.R_below (by (with_reducible repeat (first | apply Kd.R_alloc | apply Kd.R_drewN | apply Kd.R_drew)); exact HO_7.out) hb); have n2_ := Aside0.mk (Kd.R_elder' (by (with_reducible repeat (first | apply Kd.R_alloc | apply Kd.R_drewN | apply Kd.R_drew)); exact HO330.out) (Kd.R_base ho0) hb); have n3_ := Aside0.mk (Kd.R_lower (Kd.R_new' ho0 (Kd.R_lt (by (with_reducible repeat (first | apply Kd.R_alloc | apply Kd.R_drewN | apply Kd.R_drew)); exact HO330.out))) (below_size (by repeat (first | (with_reducible first | exact HB.out | apply below_alloc | apply pw_below_drewN | apply below_drew1) | exact HB.out)))); have n4_ := Aside0.mk (below_step (by repeat (first | (with_reducible first | exact HB.out | apply below_alloc | apply pw_below_drewN | apply below_drew1) | exact HB.out)) hb); clear HO_5; clear HO_7; clear HO330; clear HB; have HO_5 := n0_; have HO_7 := n1_; have HO330 := n2_; have HO330 := n3_; have HB := n4_; clear n0_ n1_ n2_ n3_ n4_; (try clear hb); (try clear hb2); (try clear hk); (try clear hi); (try clear ho0); obtain ⟨Ao62, co62, eo62⟩ := Kd.R_slice HO330.out; subst eo62) | (go_at_call 19; (with_reducible refine (shape_Around.calls _ _ t328 (Int.tmod (wrap64 ((Int.tmod a1 (l0.length : Int)) + (l0.length : Int))) (l0.length : Int)) t336 _ ?side1 ?side2 A51.out).mono ?_); (case side1 => repeat (first | exact (Kd.R_reads' HO330.out).2.2 | (with_reducible refine Kd.C_alloc ?_ _) | (with_reducible refine Kd.C_drewN ?_ _) | (with_reducible refine Kd.C_drew ?_))); (case side2 => exact (Kd.R_reads' HO330.out).2.1); rintro e w63 ⟨v337, rfl, ho0, hb⟩; have n0_ := Aside0.mk (Kd.R_elder' (by (with_reducible repeat (first | apply Kd.R_alloc | apply Kd.R_drewN | apply Kd.R_drew)); exact HO_5.out) (Kd.R_base ho0) hb); have n1_ := Aside0.mk (Kd.R_elder' (by (with_reducible repeat (first | apply Kd.R_alloc | apply Kd.R_drewN | apply Kd.R_drew)); exact HO_7.out) (Kd.R_base ho0) hb); have n2_ := Aside0.mk (Kd.R_below (by (with_reducible repeat (first | apply Kd.R_alloc | apply Kd.R_drewN | apply Kd.R_drew)); exact HO330.out) hb); have n3_ := Aside0.mk (Kd.R_below (by (with_reducible repeat (first | apply Kd.R_alloc | apply Kd.R_drewN | apply Kd.R_drew)); exact HO330.out) hb); have n4_ := Aside0.mk (Kd.R_lower (Kd.R_new' (Kd.R_new' ho0 (Kd.R_lt (by (with_reducible repeat (first | apply Kd.R_alloc | apply Kd.R_drewN | apply Kd.R_drew)); exact HO_5.out))) (Kd.R_lt (by (with_reducible repeat (first | apply Kd.R_alloc | apply Kd.R_drewN | apply Kd.R_drew)); exact HO_7.out))) (below_size (by repeat (first | (with_reducible first | exact HB.out | apply below_alloc | apply pw_below_drewN | apply below_drew1) | exact HB.out)))); have n5_ := Aside0.mk (below_step (by repeat (first | (with_reducible first | exact HB.out | apply below_alloc | apply pw_below_drewN | apply below_drew1) | exact HB.out)) hb); clear HO_5; clear HO_7; clear HO330; clear HO330; clear HB; have HO_5 := n0_; have HO_7 := n1_; have HO330 := n2_; have HO330 := n3_; have HO338 := n4_; have HB := n5_; clear n0_ n1_ n2_ n3_ n4_ n5_; (try clear hb); (try clear hb2); (try clear hk); (try clear hi); (try clear ho0); obtain ⟨Ao64, co64, eo64⟩ := Kd.R_slice HO338.out; subst eo64; obtain ⟨Ao65, co65, eo65⟩ := Kd.R_slice HO_7.out; subst eo65) | (go_at_call 18; (with_reducible refine (weighhouselaw03_Ints.calls k3 _ _ t336 _ _ x7_3 true _ ?side1 ?side2 ?side3 ?side4 A52.out).mono ?_); (case side1 => repeat (first | exact (Kd.R_reads' HO338.out).2.2 | (with_reducible refine Kd.C_alloc ?_ _) | (with_reducible refine Kd.C_drewN ?_ _) | (with_reducible refine Kd.C_drew ?_))); (case side2 => exact (Kd.R_reads' HO338.out).2.1); (case side3 => repeat (first | exact (Kd.R_reads' HO_7.out).2.2 | (with_reducible refine Kd.C_alloc ?_ _) | (with_reducible refine Kd.C_drewN ?_ _) | (with_reducible refine Kd.C_drew ?_))); (case side4 => exact (Kd.R_reads' HO_7.out).2.1); rintro e w' ⟨rfl, ⟨nd, rfl⟩⟩; (try first | exact ⟨rfl, _, World.drewN_drewN _ _ _⟩ | exact ⟨rfl, _, Eq.trans (World.drewN_drewN _ _ _) (congrArg (World.drewN _) (Nat.add_assoc _ _ _))⟩)) | (go_at_call 12; (with_reducible refine (weighhouselaw06_num.calls t332 t340 _ A54.out).mono ?_); rintro e w' ⟨rfl, ⟨nd, rfl⟩⟩; (try first | exact ⟨rfl, _, World.drewN_drewN _ _ _⟩ | exact ⟨rfl, _, Eq.trans (World.drewN_drewN _ _ _) (congrArg (World.drewN _) (Nat.add_assoc _ _ _))⟩)) | (go_at_call 9; (with_reducible refine (weighhouselaw06_knows.calls k3  t341 _ A57.out).mono ?_); rintro e w66 ⟨rfl, hb⟩; have n0_ := Aside0.mk (Kd.R_below (by (with_reducible repeat (first | apply Kd.R_alloc | apply Kd.R_drewN | apply Kd.R_drew)); exact HO_5.out) hb); have n1_ := Aside0.mk (Kd.R_below (by (with_reducible repeat (first | apply Kd.R_alloc | apply Kd.R_drewN | apply Kd.R_drew)); exact HO_7.out) hb); have n2_ := Aside0.mk (Kd.R_below (by (with_reducible repeat (first | apply Kd.R_alloc | apply Kd.R_drewN | apply Kd.R_drew)); exact HO330.out) hb); have n3_ := Aside0.mk (Kd.R_below (by (with_reducible repeat (first | apply Kd.R_alloc | apply Kd.R_drewN | apply Kd.R_drew)); exact HO330.out) hb); have n4_ := Aside0.mk (Kd.R_below (by (with_reducible repeat (first | apply Kd.R_alloc | apply Kd.R_drewN | apply Kd.R_drew)); exact HO338.out) hb); have n5_ := Aside0.mk (below_step (by repeat (first | (with_reducible first | exact HB.out | apply below_alloc | apply pw_below_drewN | apply below_drew1) | exact HB.out)) hb); clear HO_5; clear HO_7; clear HO330; clear HO330; clear HO338; clear HB; have HO_5 := n0_; have HO_7 := n1_; have HO330 := n2_; have HO330 := n3_; have HO338 := n4_; have HB := n5_; clear n0_ n1_ n2_ n3_ n4_ n5_; (try clear hb); (try clear hb2); (try clear hk); (try clear hi))); try go_wp2_with (first | (go_at_call 11; (with_reducible refine (weighhouselaw06_Own.calls _ _ l0 t328 _ ?side1 ?side2 A48.out).mono ?_); (case side1 => repeat (first | exact (Kd.C_below HR0.out HB.out) | (with_reducible refine Kd.C_alloc ?_ _) | (with_reducible refine Kd.C_drewN ?_ _) | (with_reducible refine Kd.C_drew ?_))); (case side2 => exact HC0.out); rintro e w58 ⟨v329, rfl, ho0, hb⟩; have n0_ := Aside0.mk (Kd.R_below (by (with_reducible repeat (first | apply Kd.R_alloc | apply Kd.R_drewN | apply Kd.R_drew)); exact HO_5.out) hb); have n1_ := Aside0.mk (Kd.R_below (by (with_reducible repeat (first | apply Kd.R_alloc | apply Kd.R_drewN | apply Kd.R_drew)); exact HO_7.out) hb); have n2_ := Aside0.mk (Kd.R_lower ho0 (below_size (by repeat (first | (with_reducible first | exact HB.out | apply below_alloc | apply pw_below_drewN | apply below_drew1) | exact HB.out)))); have n3_ := Aside0.mk (below_step (by repeat (first | (with_reducible first | exact HB.out | apply below_alloc | apply pw_below_drewN | apply below_drew1) | exact HB.out)) hb); clear HO_5; clear HO_7; clear HB; have HO_5 := n0_; have HO_7 := n1_; have HO330 := n2_; have HB := n3_; clear n0_ n1_ n2_ n3_; (try clear hb); (try clear hb2); (try clear hk); (try clear hi); (try clear ho0); obtain ⟨Ao59, co59, eo59⟩ := Kd.R_slice HO330.out; subst eo59) | (go_at_call 16; (with_reducible refine (shape_Depth.calls _ _ t328 t331 t332 _ ?side1 ?side2 A49.out).mono ?_); (case side1 => repeat (first | exact (Kd.R_reads' HO330.out).2.2 | (with_reducible refine Kd.C_alloc ?_ _) | (with_reducible refine Kd.C_drewN ?_ _) | (with_reducible refine Kd.C_drew ?_))); (case side2 => exact (Kd.R_reads' HO330.out).2.1); rintro e w60 ⟨rfl, hb⟩; have n0_ := Aside0.mk (Kd.R_below (by (with_reducible repeat (first | apply Kd.R_alloc | apply Kd.R_drewN | apply Kd.R_drew)); exact HO_5.out) hb); have n1_ := Aside0.mk (Kd.R_below (by (with_reducible repeat (first | apply Kd.R_alloc | apply Kd.R_drewN | apply Kd.R_drew)); exact HO_7.out) hb); have n2_ := Aside0.mk (Kd.R_below (by (with_reducible repeat (first | apply Kd.R_alloc | apply Kd.R_drewN | apply Kd.R_drew)); exact HO330.out) hb); have n3_ := Aside0.mk (below_step (by repeat (first | (with_reducible first | exact HB.out | apply below_alloc | apply pw_below_drewN | apply below_drew1) | exact HB.out)) hb); clear HO_5; clear HO_7; clear HO330; clear HB; have HO_5 := n0_; have HO_7 := n1_; have HO330 := n2_; have HB := n3_; clear n0_ n1_ n2_ n3_; (try clear hb); (try clear hb2); (try clear hk); (try clear hi)) | (go_at_call 11; (with_reducible refine (weighhouselaw06_Own.calls _ _ l0 t328 _ ?side1 ?side2 A50.out).mono ?_); (case side1 => repeat (first | exact (Kd.C_below HR0.out HB.out) | (with_reducible refine Kd.C_alloc ?_ _) | (with_reducible refine Kd.C_drewN ?_ _) | (with_reducible refine Kd.C_drew ?_))); (case side2 => exact HC0.out); rintro e w61 ⟨v334, rfl, ho0, hb⟩; have n0_ := Aside0.mk (Kd.R_below (by (with_reducible repeat (first | apply Kd.R_alloc | apply Kd.R_drewN | apply Kd.R_drew)); exact HO_5.out) hb); have n1_ := Aside0.mk (Kd.R_below (by (with_reducible repeat (first | apply Kd.R_alloc | apply Kd.R_drewN | apply Kd.R_drew)); exact HO_7.out) hb); have n2_ := Aside0.mk (Kd.R_elder' (by (with_reducible repeat (first | apply Kd.R_alloc | apply Kd.R_drewN | apply Kd.R_drew)); exact HO330.out) (Kd.R_base ho0) hb); have n3_ := Aside0.mk (Kd.R_lower (Kd.R_new' ho0 (Kd.R_lt (by (with_reducible repeat (first | apply Kd.R_alloc | apply Kd.R_drewN | apply Kd.R_drew)); exact HO330.out))) (below_size (by repeat (first | (with_reducible first | exact HB.out | apply below_alloc | apply pw_below_drewN | apply below_drew1) | exact HB.out)))); have n4_ := Aside0.mk (below_step (by repeat (first | (with_reducible first | exact HB.out | apply below_alloc | apply pw_below_drewN | apply below_drew1) | exact HB.out)) hb); clear HO_5; clear HO_7; clear HO330; clear HB; have HO_5 := n0_; have HO_7 := n1_; have HO330 := n2_; have HO330 := n3_; have HB := n4_; clear n0_ n1_ n2_ n3_ n4_; (try clear hb); (try clear hb2); (try clear hk); (try clear hi); (try clear ho0); obtain ⟨Ao62, co62, eo62⟩ := Kd.R_slice HO330.out; subst eo62) | (go_at_call 19; (with_reducible refine (shape_Around.calls _ _ t328 (Int.tmod (wrap64 ((Int.tmod a1 (l0.length : Int)) + (l0.length : Int))) (l0.length : Int)) t336 _ ?side1 ?side2 A51.out).mono ?_); (case side1 => repeat (first | exact (Kd.R_reads' HO330.out).2.2 | (with_reducible refine Kd.C_alloc ?_ _) | (with_reducible refine Kd.C_drewN ?_ _) | (with_reducible refine Kd.C_drew ?_))); (case side2 => exact (Kd.R_reads' HO330.out).2.1); rintro e w63 ⟨v337, rfl, ho0, hb⟩; have n0_ := Aside0.mk (Kd.R_elder' (by (with_reducible repeat (first | apply Kd.R_alloc | apply Kd.R_drewN | apply Kd.R_drew)); exact HO_5.out) (Kd.R_base ho0) hb); have n1_ := Aside0.mk (Kd.R_elder' (by (with_reducible repeat (first | apply Kd.R_alloc | apply Kd.R_drewN | apply Kd.R_drew)); exact HO_7.out) (Kd.R_base ho0) hb); have n2_ := Aside0.mk (Kd.R_below (by (with_reducible repeat (first | apply Kd.R_alloc | apply Kd.R_drewN | apply Kd.R_drew)); exact HO330.out) hb); have n3_ := Aside0.mk (Kd.R_below (by (with_reducible repeat (first | apply Kd.R_alloc | apply Kd.R_drewN | apply Kd.R_drew)); exact HO330.out) hb); have n4_ := Aside0.mk (Kd.R_lower (Kd.R_new' (Kd.R_new' ho0 (Kd.R_lt (by (with_reducible repeat (first | apply Kd.R_alloc | apply Kd.R_drewN | apply Kd.R_drew)); exact HO_5.out))) (Kd.R_lt (by (with_reducible repeat (first | apply Kd.R_alloc | apply Kd.R_drewN | apply Kd.R_drew)); exact HO_7.out))) (below_size (by repeat (first | (with_reducible first | exact HB.out | apply below_alloc | apply pw_below_drewN | apply below_drew1) | exact HB.out)))); have n5_ := Aside0.mk (below_step (by repeat (first | (with_reducible first | exact HB.out | apply below_alloc | apply pw_below_drewN | apply below_drew1) | exact HB.out)) hb); clear HO_5; clear HO_7; clear HO330; clear HO330; clear HB; have HO_5 := n0_; have HO_7 := n1_; have HO330 := n2_; have HO330 := n3_; have HO338 := n4_; have HB := n5_; clear n0_ n1_ n2_ n3_ n4_ n5_; (try clear hb); (try clear hb2); (try clear hk); (try clear hi); (try clear ho0); obtain ⟨Ao64, co64, eo64⟩ := Kd.R_slice HO338.out; subst eo64; obtain ⟨Ao65, co65, eo65⟩ := Kd.R_slice HO_7.out; subst eo65) | (go_at_call 18; (with_reducible refine (weighhouselaw03_Ints.calls k3 _ _ t336 _ _ x7_3 true _ ?side1 ?side2 ?side3 ?side4 A52.out).mono ?_); (case side1 => repeat (first | exact (Kd.R_reads' HO338.out).2.2 | (with_reducible refine Kd.C_alloc ?_ _) | (with_reducible refine Kd.C_drewN ?_ _) | (with_reducible refine Kd.C_drew ?_))); (case side2 => exact (Kd.R_reads' HO338.out).2.1); (case side3 => repeat (first | exact (Kd.R_reads' HO_7.out).2.2 | (with_reducible refine Kd.C_alloc ?_ _) | (with_reducible refine Kd.C_drewN ?_ _) | (with_reducible refine Kd.C_drew ?_))); (case side4 => exact (Kd.R_reads' HO_7.out).2.1); rintro e w' ⟨rfl, ⟨nd, rfl⟩⟩; (try first | exact ⟨rfl, _, World.drewN_drewN _ _ _⟩ | exact ⟨rfl, _, Eq.trans (World.drewN_drewN _ _ _) (congrArg (World.drewN _) (Nat.add_assoc _ _ _))⟩)) | (go_at_call 12; (with_reducible refine (weighhouselaw06_num.calls t332 t340 _ A54.out).mono ?_); rintro e w' ⟨rfl, ⟨nd, rfl⟩⟩; (try first | exact ⟨rfl, _, World.drewN_drewN _ _ _⟩ | exact ⟨rfl, _, Eq.trans (World.drewN_drewN _ _ _) (congrArg (World.drewN _) (Nat.add_assoc _ _ _))⟩)) | (go_at_call 9; (with_reducible refine (weighhouselaw06_knows.calls k3  t341 _ A57.out).mono ?_); rintro e w66 ⟨rfl, hb⟩; have n0_ := Aside0.mk (Kd.R_below (by (with_reducible repeat (first | apply Kd.R_alloc | apply Kd.R_drewN | apply Kd.R_drew)); exact HO_5.out) hb); have n1_ := Aside0.mk (Kd.R_below (by (with_reducible repeat (first | apply Kd.R_alloc | apply Kd.R_drewN | apply Kd.R_drew)); exact HO_7.out) hb); have n2_ := Aside0.mk (Kd.R_below (by (with_reducible repeat (first | apply Kd.R_alloc | apply Kd.R_drewN | apply Kd.R_drew)); exact HO330.out) hb); have n3_ := Aside0.mk (Kd.R_below (by (with_reducible repeat (first | apply Kd.R_alloc | apply Kd.R_drewN | apply Kd.R_drew)); exact HO330.out) hb); have n4_ := Aside0.mk (Kd.R_below (by (with_reducible repeat (first | apply Kd.R_alloc | apply Kd.R_drewN | apply Kd.R_drew)); exact HO338.out) hb); have n5_ := Aside0.mk (below_step (by repeat (first | (with_reducible first | exact HB.out | apply below_alloc | apply pw_below_drewN | apply below_drew1) | exact HB.out)) hb); clear HO_5; clear HO_7; clear HO330; clear HO330; clear HO338; clear HB; have HO_5 := n0_; have HO_7 := n1_; have HO330 := n2_; have HO330 := n3_; have HO338 := n4_; have HB := n5_; clear n0_ n1_ n2_ n3_ n4_ n5_; (try clear hb); (try clear hb2); (try clear hk); (try clear hi))))
                                go_ret
                                exact ⟨by first | rfl | (simp [errW_none, errW_some] <;> rfl) | (simp [*, errW_none, errW_some] <;> rfl), by repeat (first | (with_reducible first | exact HB.out | apply below_alloc | apply pw_below_drewN | apply below_drew1) | exact HB.out)⟩
                              · rw [if_neg c56] at H
                                have c56b0 : decide ((x7_3.length : Int) ≤ t331) = false := decide_eq_false c56
                                clear c56
                                obtain rfl := Option.some.inj H
                                go_wp2_with (first | (go_at_call 11; (with_reducible refine (weighhouselaw06_Own.calls _ _ l0 t328 _ ?side1 ?side2 A48.out).mono ?_); (case side1 => repeat (first | exact (Kd.C_below HR0.out HB.out) | (with_reducible refine Kd.C_alloc ?_ _) | (with_reducible refine Kd.C_drewN ?_ _) | (with_reducible refine Kd.C_drew ?_))); (case side2 => exact HC0.out); rintro e w67 ⟨v329, rfl, ho0, hb⟩; have n0_ := Aside0.mk (Kd.R_below (by (with_reducible repeat (first | apply Kd.R_alloc | apply Kd.R_drewN | apply Kd.R_drew)); exact HO_5.out) hb); have n1_ := Aside0.mk (Kd.R_below (by (with_reducible repeat (first | apply Kd.R_alloc | apply Kd.R_drewN | apply Kd.R_drew)); exact HO_7.out) hb); have n2_ := Aside0.mk (Kd.R_lower ho0 (below_size (by repeat (first | (with_reducible first | exact HB.out | apply below_alloc | apply pw_below_drewN | apply below_drew1) | exact HB.out)))); have n3_ := Aside0.mk (below_step (by repeat (first | (with_reducible first | exact HB.out | apply below_alloc | apply pw_below_drewN | apply below_drew1) | exact HB.out)) hb); clear HO_5; clear HO_7; clear HB; have HO_5 := n0_; have HO_7 := n1_; have HO330 := n2_; have HB := n3_; clear n0_ n1_ n2_ n3_; (try clear hb); (try clear hb2); (try clear hk); (try clear hi); (try clear ho0); obtain ⟨Ao68, co68, eo68⟩ := Kd.R_slice HO330.out; subst eo68) | (go_at_call 16; (with_reducible refine (shape_Depth.calls _ _ t328 t331 t332 _ ?side1 ?side2 A49.out).mono ?_); (case side1 => repeat (first | exact (Kd.R_reads' HO330.out).2.2 | (with_reducible refine Kd.C_alloc ?_ _) | (with_reducible refine Kd.C_drewN ?_ _) | (with_reducible refine Kd.C_drew ?_))); (case side2 => exact (Kd.R_reads' HO330.out).2.1); rintro e w69 ⟨rfl, hb⟩; have n0_ := Aside0.mk (Kd.R_below (by (with_reducible repeat (first | apply Kd.R_alloc | apply Kd.R_drewN | apply Kd.R_drew)); exact HO_5.out) hb); have n1_ := Aside0.mk (Kd.R_below (by (with_reducible repeat (first | apply Kd.R_alloc | apply Kd.R_drewN | apply Kd.R_drew)); exact HO_7.out) hb); have n2_ := Aside0.mk (Kd.R_below (by (with_reducible repeat (first | apply Kd.R_alloc | apply Kd.R_drewN | apply Kd.R_drew)); exact HO330.out) hb); have n3_ := Aside0.mk (below_step (by repeat (first | (with_reducible first | exact HB.out | apply below_alloc | apply pw_below_drewN | apply below_drew1) | exact HB.out)) hb); clear HO_5; clear HO_7; clear HO330; clear HB; have HO_5 := n0_; have HO_7 := n1_; have HO330 := n2_; have HB := n3_; clear n0_ n1_ n2_ n3_; (try clear hb); (try clear hb2); (try clear hk); (try clear hi)) | (go_at_call 11; (with_reducible refine (weighhouselaw06_Own.calls _ _ l0 t328 _ ?side1 ?side2 A50.out).mono ?_); (case side1 => repeat (first | exact (Kd.C_below HR0.out HB.out) | (with_reducible refine Kd.C_alloc ?_ _) | (with_reducible refine Kd.C_drewN ?_ _) | (with_reducible refine Kd.C_drew ?_))); (case side2 => exact HC0.out); rintro e w70 ⟨v334, rfl, ho0, hb⟩; have n0_ := Aside0.mk (Kd.R_below (by (with_reducible repeat (first | apply Kd.R_alloc | apply Kd.R_drewN | apply Kd.R_drew)); exact HO_5.out) hb); have n1_ := Aside0.mk (Kd.R_below (by (with_reducible repeat (first | apply Kd.R_alloc | apply Kd.R_drewN | apply Kd.R_drew)); exact HO_7.out) hb); have n2_ := Aside0.mk (Kd.R_elder' (by (with_reducible repeat (first | apply Kd.R_alloc | apply Kd.R_drewN | apply Kd.R_drew)); exact HO330.out) (Kd.R_base ho0) hb); have n3_ := Aside0.mk (Kd.R_lower (Kd.R_new' ho0 (Kd.R_lt (by (with_reducible repeat (first | apply Kd.R_alloc | apply Kd.R_drewN | apply Kd.R_drew)); exact HO330.out))) (below_size (by repeat (first | (with_reducible first | exact HB.out | apply below_alloc | apply pw_below_drewN | apply below_drew1) | exact HB.out)))); have n4_ := Aside0.mk (below_step (by repeat (first | (with_reducible first | exact HB.out | apply below_alloc | apply pw_below_drewN | apply below_drew1) | exact HB.out)) hb); clear HO_5; clear HO_7; clear HO330; clear HB; have HO_5 := n0_; have HO_7 := n1_; have HO330 := n2_; have HO330 := n3_; have HB := n4_; clear n0_ n1_ n2_ n3_ n4_; (try clear hb); (try clear hb2); (try clear hk); (try clear hi); (try clear ho0); obtain ⟨Ao71, co71, eo71⟩ := Kd.R_slice HO330.out; subst eo71) | (go_at_call 19; (with_reducible refine (shape_Around.calls _ _ t328 (Int.tmod (wrap64 ((Int.tmod a1 (l0.length : Int)) + (l0.length : Int))) (l0.length : Int)) t336 _ ?side1 ?side2 A51.out).mono ?_); (case side1 => repeat (first | exact (Kd.R_reads' HO330.out).2.2 | (with_reducible refine Kd.C_alloc ?_ _) | (with_reducible refine Kd.C_drewN ?_ _) | (with_reducible refine Kd.C_drew ?_))); (case side2 => exact (Kd.R_reads' HO330.out).2.1); rintro e w72 ⟨v337, rfl, ho0, hb⟩; have n0_ := Aside0.mk (Kd.R_elder' (by (with_reducible repeat (first | apply Kd.R_alloc | apply Kd.R_drewN | apply Kd.R_drew)); exact HO_5.out) (Kd.R_base ho0) hb); have n1_ := Aside0.mk (Kd.R_elder' (by (with_reducible repeat (first | apply Kd.R_alloc | apply Kd.R_drewN | apply Kd.R_drew)); exact HO_7.out) (Kd.R_base ho0) hb); have n2_ := Aside0.mk (Kd.R_below (by (with_reducible repeat (first | apply Kd.R_alloc | apply Kd.R_drewN | apply Kd.R_drew)); exact HO330.out) hb); have n3_ := Aside0.mk (Kd.R_below (by (with_reducible repeat (first | apply Kd.R_alloc | apply Kd.R_drewN | apply Kd.R_drew)); exact HO330.out) hb); have n4_ := Aside0.mk (Kd.R_lower (Kd.R_new' (Kd.R_new' ho0 (Kd.R_lt (by (with_reducible repeat (first | apply Kd.R_alloc | apply Kd.R_drewN | apply Kd.R_drew)); exact HO_5.out))) (Kd.R_lt (by (with_reducible repeat (first | apply Kd.R_alloc | apply Kd.R_drewN | apply Kd.R_drew)); exact HO_7.out))) (below_size (by repeat (first | (with_reducible first | exact HB.out | apply below_alloc | apply pw_below_drewN | apply below_drew1) | exact HB.out)))); have n5_ := Aside0.mk (below_step (by repeat (first | (with_reducible first | exact HB.out | apply below_alloc | apply pw_below_drewN | apply below_drew1) | exact HB.out)) hb); clear HO_5; clear HO_7; clear HO330; clear HO330; clear HB; have HO_5 := n0_; have HO_7 := n1_; have HO330 := n2_; have HO330 := n3_; have HO338 := n4_; have HB := n5_; clear n0_ n1_ n2_ n3_ n4_ n5_; (try clear hb); (try clear hb2); (try clear hk); (try clear hi); (try clear ho0); obtain ⟨Ao73, co73, eo73⟩ := Kd.R_slice HO338.out; subst eo73; obtain ⟨Ao74, co74, eo74⟩ := Kd.R_slice HO_7.out; subst eo74) | (go_at_call 18; (with_reducible refine (weighhouselaw03_Ints.calls k3 _ _ t336 _ _ x7_3 true _ ?side1 ?side2 ?side3 ?side4 A52.out).mono ?_); (case side1 => repeat (first | exact (Kd.R_reads' HO338.out).2.2 | (with_reducible refine Kd.C_alloc ?_ _) | (with_reducible refine Kd.C_drewN ?_ _) | (with_reducible refine Kd.C_drew ?_))); (case side2 => exact (Kd.R_reads' HO338.out).2.1); (case side3 => repeat (first | exact (Kd.R_reads' HO_7.out).2.2 | (with_reducible refine Kd.C_alloc ?_ _) | (with_reducible refine Kd.C_drewN ?_ _) | (with_reducible refine Kd.C_drew ?_))); (case side4 => exact (Kd.R_reads' HO_7.out).2.1); rintro e w' ⟨rfl, ⟨nd, rfl⟩⟩; (try first | exact ⟨rfl, _, World.drewN_drewN _ _ _⟩ | exact ⟨rfl, _, Eq.trans (World.drewN_drewN _ _ _) (congrArg (World.drewN _) (Nat.add_assoc _ _ _))⟩)) | (go_at_call 12; (with_reducible refine (weighhouselaw06_num.calls t332 t340 _ A54.out).mono ?_); rintro e w' ⟨rfl, ⟨nd, rfl⟩⟩; (try first | exact ⟨rfl, _, World.drewN_drewN _ _ _⟩ | exact ⟨rfl, _, Eq.trans (World.drewN_drewN _ _ _) (congrArg (World.drewN _) (Nat.add_assoc _ _ _))⟩)))
                                repeat (go_quiet (first | (go_at_call 11; (with_reducible refine (weighhouselaw06_Own.calls _ _ l0 t328 _ ?side1 ?side2 A48.out).mono ?_); (case side1 => repeat (first | exact (Kd.C_below HR0.out HB.out) | (with_reducible refine Kd.C_alloc ?_ _) | (with_reducible refine Kd.C_drewN ?_ _) | (with_reducible refine Kd.C_drew ?_))); (case side2 => exact HC0.out); rintro e w67 ⟨v329, rfl, ho0, hb⟩; have n0_ := Aside0.mk (Kd.R_below (by (with_reducible repeat (first | apply Kd.R_alloc | apply Kd.R_drewN | apply Kd.R_drew)); exact HO_5.out) hb); have n1_ := Aside0.mk (Kd.R_below (by (with_reducible repeat (first | apply Kd.R_alloc | apply Kd.R_drewN | apply Kd.R_drew)); exact HO_7.out) hb); have n2_ := Aside0.mk (Kd.R_lower ho0 (below_size (by repeat (first | (with_reducible first | exact HB.out | apply below_alloc | apply pw_below_drewN | apply below_drew1) | exact HB.out)))); have n3_ := Aside0.mk (below_step (by repeat (first | (with_reducible first | exact HB.out | apply below_alloc | apply pw_below_drewN | apply below_drew1) | exact HB.out)) hb); clear HO_5; clear HO_7; clear HB; have HO_5 := n0_; have HO_7 := n1_; have HO330 := n2_; have HB := n3_; clear n0_ n1_ n2_ n3_; (try clear hb); (try clear hb2); (try clear hk); (try clear hi); (try clear ho0); obtain ⟨Ao68, co68, eo68⟩ := Kd.R_slice HO330.out; subst eo68) | (go_at_call 16; (with_reducible refine (shape_Depth.calls _ _ t328 t331 t332 _ ?side1 ?side2 A49.out).mono ?_); (case side1 => repeat (first | exact (Kd.R_reads' HO330.out).2.2 | (with_reducible refine Kd.C_alloc ?_ _) | (with_reducible refine Kd.C_drewN ?_ _) | (with_reducible refine Kd.C_drew ?_))); (case side2 => exact (Kd.R_reads' HO330.out).2.1); rintro e w69 ⟨rfl, hb⟩; have n0_ := Aside0.mk (Kd.R_below (by (with_reducible repeat (first | apply Kd.R_alloc | apply Kd.R_drewN | apply Kd.R_drew)); exact HO_5.out) hb); have n1_ := Aside0.mk (Kd.R_below (by (with_reducible repeat (first | apply Kd.R_alloc | apply Kd.R_drewN | apply Kd.R_drew)); exact HO_7.out) hb); have n2_ := Aside0.mk (Kd.R_below (by (with_reducible repeat (first | apply Kd.R_alloc | apply Kd.R_drewN | apply Kd.R_drew)); exact HO330.out) hb); have n3_ := Aside0.mk (below_step (by repeat (first | (with_reducible first | exact HB.out | apply below_alloc | apply pw_below_drewN | apply below_drew1) | exact HB.out)) hb); clear HO_5; clear HO_7; clear HO330; clear HB; have HO_5 := n0_; have HO_7 := n1_; have HO330 := n2_; have HB := n3_; clear n0_ n1_ n2_ n3_; (try clear hb); (try clear hb2); (try clear hk); (try clear hi)) | (go_at_call 11; (with_reducible refine (weighhouselaw06_Own.calls _ _ l0 t328 _ ?side1 ?side2 A50.out).mono ?_); (case side1 => repeat (first | exact (Kd.C_below HR0.out HB.out) | (with_reducible refine Kd.C_alloc ?_ _) | (with_reducible refine Kd.C_drewN ?_ _) | (with_reducible refine Kd.C_drew ?_))); (case side2 => exact HC0.out); rintro e w70 ⟨v334, rfl, ho0, hb⟩; have n0_ := Aside0.mk (Kd.R_below (by (with_reducible repeat (first | apply Kd.R_alloc | apply Kd.R_drewN | apply Kd.R_drew)); exact HO_5.out) hb); have n1_ := Aside0.mk (Kd.R_below (by (with_reducible repeat (first | apply Kd.R_alloc | apply Kd.R_drewN | apply Kd.R_drew)); exact HO_7.out) hb); have n2_ := Aside0.mk (Kd.R_elder' (by (with_reducible repeat (first | apply Kd.R_alloc | apply Kd.R_drewN | apply Kd.R_drew)); exact HO330.out) (Kd.R_base ho0) hb); have n3_ := Aside0.mk (Kd.R_lower (Kd.R_new' ho0 (Kd.R_lt (by (with_reducible repeat (first | apply Kd.R_alloc | apply Kd.R_drewN | apply Kd.R_drew)); exact HO330.out))) (below_size (by repeat (first | (with_reducible first | exact HB.out | apply below_alloc | apply pw_below_drewN | apply below_drew1) | exact HB.out)))); have n4_ := Aside0.mk (below_step (by repeat (first | (with_reducible first | exact HB.out | apply below_alloc | apply pw_below_drewN | apply below_drew1) | exact HB.out)) hb); clear HO_5; clear HO_7; clear HO330; clear HB; have HO_5 := n0_; have HO_7 := n1_; have HO330 := n2_; have HO330 := n3_; have HB := n4_; clear n0_ n1_ n2_ n3_ n4_; (try clear hb); (try clear hb2); (try clear hk); (try clear hi); (try clear ho0); obtain ⟨Ao71, co71, eo71⟩ := Kd.R_slice HO330.out; subst eo71) | (go_at_call 19; (with_reducible refine (shape_Around.calls _ _ t328 (Int.tmod (wrap64 ((Int.tmod a1 (l0.length : Int)) + (l0.length : Int))) (l0.length : Int)) t336 _ ?side1 ?side2 A51.out).mono ?_); (case side1 => repeat (first | exact (Kd.R_reads' HO330.out).2.2 | (with_reducible refine Kd.C_alloc ?_ _) | (with_reducible refine Kd.C_drewN ?_ _) | (with_reducible refine Kd.C_drew ?_))); (case side2 => exact (Kd.R_reads' HO330.out).2.1); rintro e w72 ⟨v337, rfl, ho0, hb⟩; have n0_ := Aside0.mk (Kd.R_elder' (by (with_reducible repeat (first | apply Kd.R_alloc | apply Kd.R_drewN | apply Kd.R_drew)); exact HO_5.out) (Kd.R_base ho0) hb); have n1_ := Aside0.mk (Kd.R_elder' (by (with_reducible repeat (first | apply Kd.R_alloc | apply Kd.R_drewN | apply Kd.R_drew)); exact HO_7.out) (Kd.R_base ho0) hb); have n2_ := Aside0.mk (Kd.R_below (by (with_reducible repeat (first | apply Kd.R_alloc | apply Kd.R_drewN | apply Kd.R_drew)); exact HO330.out) hb); have n3_ := Aside0.mk (Kd.R_below (by (with_reducible repeat (first | apply Kd.R_alloc | apply Kd.R_drewN | apply Kd.R_drew)); exact HO330.out) hb); have n4_ := Aside0.mk (Kd.R_lower (Kd.R_new' (Kd.R_new' ho0 (Kd.R_lt (by (with_reducible repeat (first | apply Kd.R_alloc | apply Kd.R_drewN | apply Kd.R_drew)); exact HO_5.out))) (Kd.R_lt (by (with_reducible repeat (first | apply Kd.R_alloc | apply Kd.R_drewN | apply Kd.R_drew)); exact HO_7.out))) (below_size (by repeat (first | (with_reducible first | exact HB.out | apply below_alloc | apply pw_below_drewN | apply below_drew1) | exact HB.out)))); have n5_ := Aside0.mk (below_step (by repeat (first | (with_reducible first | exact HB.out | apply below_alloc | apply pw_below_drewN | apply below_drew1) | exact HB.out)) hb); clear HO_5; clear HO_7; clear HO330; clear HO330; clear HB; have HO_5 := n0_; have HO_7 := n1_; have HO330 := n2_; have HO330 := n3_; have HO338 := n4_; have HB := n5_; clear n0_ n1_ n2_ n3_ n4_ n5_; (try clear hb); (try clear hb2); (try clear hk); (try clear hi); (try clear ho0); obtain ⟨Ao73, co73, eo73⟩ := Kd.R_slice HO338.out; subst eo73; obtain ⟨Ao74, co74, eo74⟩ := Kd.R_slice HO_7.out; subst eo74) | (go_at_call 18; (with_reducible refine (weighhouselaw03_Ints.calls k3 _ _ t336 _ _ x7_3 true _ ?side1 ?side2 ?side3 ?side4 A52.out).mono ?_); (case side1 => repeat (first | exact (Kd.R_reads' HO338.out).2.2 | (with_reducible refine Kd.C_alloc ?_ _) | (with_reducible refine Kd.C_drewN ?_ _) | (with_reducible refine Kd.C_drew ?_))); (case side2 => exact (Kd.R_reads' HO338.out).2.1); (case side3 => repeat (first | exact (Kd.R_reads' HO_7.out).2.2 | (with_reducible refine Kd.C_alloc ?_ _) | (with_reducible refine Kd.C_drewN ?_ _) | (with_reducible refine Kd.C_drew ?_))); (case side4 => exact (Kd.R_reads' HO_7.out).2.1); rintro e w' ⟨rfl, ⟨nd, rfl⟩⟩; (try first | exact ⟨rfl, _, World.drewN_drewN _ _ _⟩ | exact ⟨rfl, _, Eq.trans (World.drewN_drewN _ _ _) (congrArg (World.drewN _) (Nat.add_assoc _ _ _))⟩)) | (go_at_call 12; (with_reducible refine (weighhouselaw06_num.calls t332 t340 _ A54.out).mono ?_); rintro e w' ⟨rfl, ⟨nd, rfl⟩⟩; (try first | exact ⟨rfl, _, World.drewN_drewN _ _ _⟩ | exact ⟨rfl, _, Eq.trans (World.drewN_drewN _ _ _) (congrArg (World.drewN _) (Nat.add_assoc _ _ _))⟩))); try go_wp2_with (first | (go_at_call 11; (with_reducible refine (weighhouselaw06_Own.calls _ _ l0 t328 _ ?side1 ?side2 A48.out).mono ?_); (case side1 => repeat (first | exact (Kd.C_below HR0.out HB.out) | (with_reducible refine Kd.C_alloc ?_ _) | (with_reducible refine Kd.C_drewN ?_ _) | (with_reducible refine Kd.C_drew ?_))); (case side2 => exact HC0.out); rintro e w67 ⟨v329, rfl, ho0, hb⟩; have n0_ := Aside0.mk (Kd.R_below (by (with_reducible repeat (first | apply Kd.R_alloc | apply Kd.R_drewN | apply Kd.R_drew)); exact HO_5.out) hb); have n1_ := Aside0.mk (Kd.R_below (by (with_reducible repeat (first | apply Kd.R_alloc | apply Kd.R_drewN | apply Kd.R_drew)); exact HO_7.out) hb); have n2_ := Aside0.mk (Kd.R_lower ho0 (below_size (by repeat (first | (with_reducible first | exact HB.out | apply below_alloc | apply pw_below_drewN | apply below_drew1) | exact HB.out)))); have n3_ := Aside0.mk (below_step (by repeat (first | (with_reducible first | exact HB.out | apply below_alloc | apply pw_below_drewN | apply below_drew1) | exact HB.out)) hb); clear HO_5; clear HO_7; clear HB; have HO_5 := n0_; have HO_7 := n1_; have HO330 := n2_; have HB := n3_; clear n0_ n1_ n2_ n3_; (try clear hb); (try clear hb2); (try clear hk); (try clear hi); (try clear ho0); obtain ⟨Ao68, co68, eo68⟩ := Kd.R_slice HO330.out; subst eo68) | (go_at_call 16; (with_reducible refine (shape_Depth.calls _ _ t328 t331 t332 _ ?side1 ?side2 A49.out).mono ?_); (case side1 => repeat (first | exact (Kd.R_reads' HO330.out).2.2 | (with_reducible refine Kd.C_alloc ?_ _) | (with_reducible refine Kd.C_drewN ?_ _) | (with_reducible refine Kd.C_drew ?_))); (case side2 => exact (Kd.R_reads' HO330.out).2.1); rintro e w69 ⟨rfl, hb⟩; have n0_ := Aside0.mk (Kd.R_below (by (with_reducible repeat (first | apply Kd.R_alloc | apply Kd.R_drewN | apply Kd.R_drew)); exact HO_5.out) hb); have n1_ := Aside0.mk (Kd.R_below (by (with_reducible repeat (first | apply Kd.R_alloc | apply Kd.R_drewN | apply Kd.R_drew)); exact HO_7.out) hb); have n2_ := Aside0.mk (Kd.R_below (by (with_reducible repeat (first | apply Kd.R_alloc | apply Kd.R_drewN | apply Kd.R_drew)); exact HO330.out) hb); have n3_ := Aside0.mk (below_step (by repeat (first | (with_reducible first | exact HB.out | apply below_alloc | apply pw_below_drewN | apply below_drew1) | exact HB.out)) hb); clear HO_5; clear HO_7; clear HO330; clear HB; have HO_5 := n0_; have HO_7 := n1_; have HO330 := n2_; have HB := n3_; clear n0_ n1_ n2_ n3_; (try clear hb); (try clear hb2); (try clear hk); (try clear hi)) | (go_at_call 11; (with_reducible refine (weighhouselaw06_Own.calls _ _ l0 t328 _ ?side1 ?side2 A50.out).mono ?_); (case side1 => repeat (first | exact (Kd.C_below HR0.out HB.out) | (with_reducible refine Kd.C_alloc ?_ _) | (with_reducible refine Kd.C_drewN ?_ _) | (with_reducible refine Kd.C_drew ?_))); (case side2 => exact HC0.out); rintro e w70 ⟨v334, rfl, ho0, hb⟩; have n0_ := Aside0.mk (Kd.R_below (by (with_reducible repeat (first | apply Kd.R_alloc | apply Kd.R_drewN | apply Kd.R_drew)); exact HO_5.out) hb); have n1_ := Aside0.mk (Kd.R_below (by (with_reducible repeat (first | apply Kd.R_alloc | apply Kd.R_drewN | apply Kd.R_drew)); exact HO_7.out) hb); have n2_ := Aside0.mk (Kd.R_elder' (by (with_reducible repeat (first | apply Kd.R_alloc | apply Kd.R_drewN | apply Kd.R_drew)); exact HO330.out) (Kd.R_base ho0) hb); have n3_ := Aside0.mk (Kd.R_lower (Kd.R_new' ho0 (Kd.R_lt (by (with_reducible repeat (first | apply Kd.R_alloc | apply Kd.R_drewN | apply Kd.R_drew)); exact HO330.out))) (below_size (by repeat (first | (with_reducible first | exact HB.out | apply below_alloc | apply pw_below_drewN | apply below_drew1) | exact HB.out)))); have n4_ := Aside0.mk (below_step (by repeat (first | (with_reducible first | exact HB.out | apply below_alloc | apply pw_below_drewN | apply below_drew1) | exact HB.out)) hb); clear HO_5; clear HO_7; clear HO330; clear HB; have HO_5 := n0_; have HO_7 := n1_; have HO330 := n2_; have HO330 := n3_; have HB := n4_; clear n0_ n1_ n2_ n3_ n4_; (try clear hb); (try clear hb2); (try clear hk); (try clear hi); (try clear ho0); obtain ⟨Ao71, co71, eo71⟩ := Kd.R_slice HO330.out; subst eo71) | (go_at_call 19; (with_reducible refine (shape_Around.calls _ _ t328 (Int.tmod (wrap64 ((Int.tmod a1 (l0.length : Int)) + (l0.length : Int))) (l0.length : Int)) t336 _ ?side1 ?side2 A51.out).mono ?_); (case side1 => repeat (first | exact (Kd.R_reads' HO330.out).2.2 | (with_reducible refine Kd.C_alloc ?_ _) | (with_reducible refine Kd.C_drewN ?_ _) | (with_reducible refine Kd.C_drew ?_))); (case side2 => exact (Kd.R_reads' HO330.out).2.1); rintro e w72 ⟨v337, rfl, ho0, hb⟩; have n0_ := Aside0.mk (Kd.R_elder' (by (with_reducible repeat (first | apply Kd.R_alloc | apply Kd.R_drewN | apply Kd.R_drew)); exact HO_5.out) (Kd.R_base ho0) hb); have n1_ := Aside0.mk (Kd.R_elder' (by (with_reducible repeat (first | apply Kd.R_alloc | apply Kd.R_drewN | apply Kd.R_drew)); exact HO_7.out) (Kd.R_base ho0) hb); have n2_ := Aside0.mk (Kd.R_below (by (with_reducible repeat (first | apply Kd.R_alloc | apply Kd.R_drewN | apply Kd.R_drew)); exact HO330.out) hb); have n3_ := Aside0.mk (Kd.R_below (by (with_reducible repeat (first | apply Kd.R_alloc | apply Kd.R_drewN | apply Kd.R_drew)); exact HO330.out) hb); have n4_ := Aside0.mk (Kd.R_lower (Kd.R_new' (Kd.R_new' ho0 (Kd.R_lt (by (with_reducible repeat (first | apply Kd.R_alloc | apply Kd.R_drewN | apply Kd.R_drew)); exact HO_5.out))) (Kd.R_lt (by (with_reducible repeat (first | apply Kd.R_alloc | apply Kd.R_drewN | apply Kd.R_drew)); exact HO_7.out))) (below_size (by repeat (first | (with_reducible first | exact HB.out | apply below_alloc | apply pw_below_drewN | apply below_drew1) | exact HB.out)))); have n5_ := Aside0.mk (below_step (by repeat (first | (with_reducible first | exact HB.out | apply below_alloc | apply pw_below_drewN | apply below_drew1) | exact HB.out)) hb); clear HO_5; clear HO_7; clear HO330; clear HO330; clear HB; have HO_5 := n0_; have HO_7 := n1_; have HO330 := n2_; have HO330 := n3_; have HO338 := n4_; have HB := n5_; clear n0_ n1_ n2_ n3_ n4_ n5_; (try clear hb); (try clear hb2); (try clear hk); (try clear hi); (try clear ho0); obtain ⟨Ao73, co73, eo73⟩ := Kd.R_slice HO338.out; subst eo73; obtain ⟨Ao74, co74, eo74⟩ := Kd.R_slice HO_7.out; subst eo74) | (go_at_call 18; (with_reducible refine (weighhouselaw03_Ints.calls k3 _ _ t336 _ _ x7_3 true _ ?side1 ?side2 ?side3 ?side4 A52.out).mono ?_); (case side1 => repeat (first | exact (Kd.R_reads' HO338.out).2.2 | (with_reducible refine Kd.C_alloc ?_ _) | (with_reducible refine Kd.C_drewN ?_ _) | (with_reducible refine Kd.C_drew ?_))); (case side2 => exact (Kd.R_reads' HO338.out).2.1); (case side3 => repeat (first | exact (Kd.R_reads' HO_7.out).2.2 | (with_reducible refine Kd.C_alloc ?_ _) | (with_reducible refine Kd.C_drewN ?_ _) | (with_reducible refine Kd.C_drew ?_))); (case side4 => exact (Kd.R_reads' HO_7.out).2.1); rintro e w' ⟨rfl, ⟨nd, rfl⟩⟩; (try first | exact ⟨rfl, _, World.drewN_drewN _ _ _⟩ | exact ⟨rfl, _, Eq.trans (World.drewN_drewN _ _ _) (congrArg (World.drewN _) (Nat.add_assoc _ _ _))⟩)) | (go_at_call 12; (with_reducible refine (weighhouselaw06_num.calls t332 t340 _ A54.out).mono ?_); rintro e w' ⟨rfl, ⟨nd, rfl⟩⟩; (try first | exact ⟨rfl, _, World.drewN_drewN _ _ _⟩ | exact ⟨rfl, _, Eq.trans (World.drewN_drewN _ _ _) (congrArg (World.drewN _) (Nat.add_assoc _ _ _))⟩))))
                                go_ret
                                exact ⟨by first | rfl | (simp [errW_none, errW_some] <;> rfl) | (simp [*, errW_none, errW_some] <;> rfl), by repeat (first | (with_reducible first | exact HB.out | apply below_alloc | apply pw_below_drewN | apply below_drew1) | exact HB.out)⟩
                            · rw [if_neg c55] at H
                              have c55b0 : (t340 == 0) = false := beq_eq_false_iff_ne.mpr c55
                              have c55b1 : (t340 != 0) = true := bne_iff_ne.mpr c55
                              obtain rfl := Option.some.inj H
                              go_wp2_with (first | (go_at_call 11; (with_reducible refine (weighhouselaw06_Own.calls _ _ l0 t328 _ ?side1 ?side2 A48.out).mono ?_); (case side1 => repeat (first | exact (Kd.C_below HR0.out HB.out) | (with_reducible refine Kd.C_alloc ?_ _) | (with_reducible refine Kd.C_drewN ?_ _) | (with_reducible refine Kd.C_drew ?_))); (case side2 => exact HC0.out); rintro e w75 ⟨v329, rfl, ho0, hb⟩; have n0_ := Aside0.mk (Kd.R_below (by (with_reducible repeat (first | apply Kd.R_alloc | apply Kd.R_drewN | apply Kd.R_drew)); exact HO_5.out) hb); have n1_ := Aside0.mk (Kd.R_below (by (with_reducible repeat (first | apply Kd.R_alloc | apply Kd.R_drewN | apply Kd.R_drew)); exact HO_7.out) hb); have n2_ := Aside0.mk (Kd.R_lower ho0 (below_size (by repeat (first | (with_reducible first | exact HB.out | apply below_alloc | apply pw_below_drewN | apply below_drew1) | exact HB.out)))); have n3_ := Aside0.mk (below_step (by repeat (first | (with_reducible first | exact HB.out | apply below_alloc | apply pw_below_drewN | apply below_drew1) | exact HB.out)) hb); clear HO_5; clear HO_7; clear HB; have HO_5 := n0_; have HO_7 := n1_; have HO330 := n2_; have HB := n3_; clear n0_ n1_ n2_ n3_; (try clear hb); (try clear hb2); (try clear hk); (try clear hi); (try clear ho0); obtain ⟨Ao76, co76, eo76⟩ := Kd.R_slice HO330.out; subst eo76) | (go_at_call 16; (with_reducible refine (shape_Depth.calls _ _ t328 t331 t332 _ ?side1 ?side2 A49.out).mono ?_); (case side1 => repeat (first | exact (Kd.R_reads' HO330.out).2.2 | (with_reducible refine Kd.C_alloc ?_ _) | (with_reducible refine Kd.C_drewN ?_ _) | (with_reducible refine Kd.C_drew ?_))); (case side2 => exact (Kd.R_reads' HO330.out).2.1); rintro e w77 ⟨rfl, hb⟩; have n0_ := Aside0.mk (Kd.R_below (by (with_reducible repeat (first | apply Kd.R_alloc | apply Kd.R_drewN | apply Kd.R_drew)); exact HO_5.out) hb); have n1_ := Aside0.mk (Kd.R_below (by (with_reducible repeat (first | apply Kd.R_alloc | apply Kd.R_drewN | apply Kd.R_drew)); exact HO_7.out) hb); have n2_ := Aside0.mk (Kd.R_below (by (with_reducible repeat (first | apply Kd.R_alloc | apply Kd.R_drewN | apply Kd.R_drew)); exact HO330.out) hb); have n3_ := Aside0.mk (below_step (by repeat (first | (with_reducible first | exact HB.out | apply below_alloc | apply pw_below_drewN | apply below_drew1) | exact HB.out)) hb); clear HO_5; clear HO_7; clear HO330; clear HB; have HO_5 := n0_; have HO_7 := n1_; have HO330 := n2_; have HB := n3_; clear n0_ n1_ n2_ n3_; (try clear hb); (try clear hb2); (try clear hk); (try clear hi)) | (go_at_call 11; (with_reducible refine (weighhouselaw06_Own.calls _ _ l0 t328 _ ?side1 ?side2 A50.out).mono ?_); (case side1 => repeat (first | exact (Kd.C_below HR0.out HB.out) | (with_reducible refine Kd.C_alloc ?_ _) | (with_reducible refine Kd.C_drewN ?_ _) | (with_reducible refine Kd.C_drew ?_))); (case side2 => exact HC0.out); rintro e w78 ⟨v334, rfl, ho0, hb⟩; have n0_ := Aside0.mk (Kd.R_below (by (with_reducible repeat (first | apply Kd.R_alloc | apply Kd.R_drewN | apply Kd.R_drew)); exact HO_5.out) hb); have n1_ := Aside0.mk (Kd.R_below (by (with_reducible repeat (first | apply Kd.R_alloc | apply Kd.R_drewN | apply Kd.R_drew)); exact HO_7.out) hb); have n2_ := Aside0.mk (Kd.R_elder' (by (with_reducible repeat (first | apply Kd.R_alloc | apply Kd.R_drewN | apply Kd.R_drew)); exact HO330.out) (Kd.R_base ho0) hb); have n3_ := Aside0.mk (Kd.R_lower (Kd.R_new' ho0 (Kd.R_lt (by (with_reducible repeat (first | apply Kd.R_alloc | apply Kd.R_drewN | apply Kd.R_drew)); exact HO330.out))) (below_size (by repeat (first | (with_reducible first | exact HB.out | apply below_alloc | apply pw_below_drewN | apply below_drew1) | exact HB.out)))); have n4_ := Aside0.mk (below_step (by repeat (first | (with_reducible first | exact HB.out | apply below_alloc | apply pw_below_drewN | apply below_drew1) | exact HB.out)) hb); clear HO_5; clear HO_7; clear HO330; clear HB; have HO_5 := n0_; have HO_7 := n1_; have HO330 := n2_; have HO330 := n3_; have HB := n4_; clear n0_ n1_ n2_ n3_ n4_; (try clear hb); (try clear hb2); (try clear hk); (try clear hi); (try clear ho0); obtain ⟨Ao79, co79, eo79⟩ := Kd.R_slice HO330.out; subst eo79) | (go_at_call 19; (with_reducible refine (shape_Around.calls _ _ t328 (Int.tmod (wrap64 ((Int.tmod a1 (l0.length : Int)) + (l0.length : Int))) (l0.length : Int)) t336 _ ?side1 ?side2 A51.out).mono ?_); (case side1 => repeat (first | exact (Kd.R_reads' HO330.out).2.2 | (with_reducible refine Kd.C_alloc ?_ _) | (with_reducible refine Kd.C_drewN ?_ _) | (with_reducible refine Kd.C_drew ?_))); (case side2 => exact (Kd.R_reads' HO330.out).2.1); rintro e w80 ⟨v337, rfl, ho0, hb⟩; have n0_ := Aside0.mk (Kd.R_elder' (by (with_reducible repeat (first | apply Kd.R_alloc | apply Kd.R_drewN | apply Kd.R_drew)); exact HO_5.out) (Kd.R_base ho0) hb); have n1_ := Aside0.mk (Kd.R_elder' (by (with_reducible repeat (first | apply Kd.R_alloc | apply Kd.R_drewN | apply Kd.R_drew)); exact HO_7.out) (Kd.R_base ho0) hb); have n2_ := Aside0.mk (Kd.R_below (by (with_reducible repeat (first | apply Kd.R_alloc | apply Kd.R_drewN | apply Kd.R_drew)); exact HO330.out) hb); have n3_ := Aside0.mk (Kd.R_below (by (with_reducible repeat (first | apply Kd.R_alloc | apply Kd.R_drewN | apply Kd.R_drew)); exact HO330.out) hb); have n4_ := Aside0.mk (Kd.R_lower (Kd.R_new' (Kd.R_new' ho0 (Kd.R_lt (by (with_reducible repeat (first | apply Kd.R_alloc | apply Kd.R_drewN | apply Kd.R_drew)); exact HO_5.out))) (Kd.R_lt (by (with_reducible repeat (first | apply Kd.R_alloc | apply Kd.R_drewN | apply Kd.R_drew)); exact HO_7.out))) (below_size (by repeat (first | (with_reducible first | exact HB.out | apply below_alloc | apply pw_below_drewN | apply below_drew1) | exact HB.out)))); have n5_ := Aside0.mk (below_step (by repeat (first | (with_reducible first | exact HB.out | apply below_alloc | apply pw_below_drewN | apply below_drew1) | exact HB.out)) hb); clear HO_5; clear HO_7; clear HO330; clear HO330; clear HB; have HO_5 := n0_; have HO_7 := n1_; have HO330 := n2_; have HO330 := n3_; have HO338 := n4_; have HB := n5_; clear n0_ n1_ n2_ n3_ n4_ n5_; (try clear hb); (try clear hb2); (try clear hk); (try clear hi); (try clear ho0); obtain ⟨Ao81, co81, eo81⟩ := Kd.R_slice HO338.out; subst eo81; obtain ⟨Ao82, co82, eo82⟩ := Kd.R_slice HO_7.out; subst eo82) | (go_at_call 18; (with_reducible refine (weighhouselaw03_Ints.calls k3 _ _ t336 _ _ x7_3 true _ ?side1 ?side2 ?side3 ?side4 A52.out).mono ?_); (case side1 => repeat (first | exact (Kd.R_reads' HO338.out).2.2 | (with_reducible refine Kd.C_alloc ?_ _) | (with_reducible refine Kd.C_drewN ?_ _) | (with_reducible refine Kd.C_drew ?_))); (case side2 => exact (Kd.R_reads' HO338.out).2.1); (case side3 => repeat (first | exact (Kd.R_reads' HO_7.out).2.2 | (with_reducible refine Kd.C_alloc ?_ _) | (with_reducible refine Kd.C_drewN ?_ _) | (with_reducible refine Kd.C_drew ?_))); (case side4 => exact (Kd.R_reads' HO_7.out).2.1); rintro e w' ⟨rfl, ⟨nd, rfl⟩⟩; (try first | exact ⟨rfl, _, World.drewN_drewN _ _ _⟩ | exact ⟨rfl, _, Eq.trans (World.drewN_drewN _ _ _) (congrArg (World.drewN _) (Nat.add_assoc _ _ _))⟩)) | (go_at_call 12; (with_reducible refine (weighhouselaw06_num.calls t332 t340 _ A54.out).mono ?_); rintro e w' ⟨rfl, ⟨nd, rfl⟩⟩; (try first | exact ⟨rfl, _, World.drewN_drewN _ _ _⟩ | exact ⟨rfl, _, Eq.trans (World.drewN_drewN _ _ _) (congrArg (World.drewN _) (Nat.add_assoc _ _ _))⟩)))
                              repeat (go_quiet (first | (go_at_call 11; (with_reducible refine (weighhouselaw06_Own.calls _ _ l0 t328 _ ?side1 ?side2 A48.out).mono ?_); (case side1 => repeat (first | exact (Kd.C_below HR0.out HB.out) | (with_reducible refine Kd.C_alloc ?_ _) | (with_reducible refine Kd.C_drewN ?_ _) | (with_reducible refine Kd.C_drew ?_))); (case side2 => exact HC0.out); rintro e w75 ⟨v329, rfl, ho0, hb⟩; have n0_ := Aside0.mk (Kd.R_below (by (with_reducible repeat (first | apply Kd.R_alloc | apply Kd.R_drewN | apply Kd.R_drew)); exact HO_5.out) hb); have n1_ := Aside0.mk (Kd.R_below (by (with_reducible repeat (first | apply Kd.R_alloc | apply Kd.R_drewN | apply Kd.R_drew)); exact HO_7.out) hb); have n2_ := Aside0.mk (Kd.R_lower ho0 (below_size (by repeat (first | (with_reducible first | exact HB.out | apply below_alloc | apply pw_below_drewN | apply below_drew1) | exact HB.out)))); have n3_ := Aside0.mk (below_step (by repeat (first | (with_reducible first | exact HB.out | apply below_alloc | apply pw_below_drewN | apply below_drew1) | exact HB.out)) hb); clear HO_5; clear HO_7; clear HB; have HO_5 := n0_; have HO_7 := n1_; have HO330 := n2_; have HB := n3_; clear n0_ n1_ n2_ n3_; (try clear hb); (try clear hb2); (try clear hk); (try clear hi); (try clear ho0); obtain ⟨Ao76, co76, eo76⟩ := Kd.R_slice HO330.out; subst eo76) | (go_at_call 16; (with_reducible refine (shape_Depth.calls _ _ t328 t331 t332 _ ?side1 ?side2 A49.out).mono ?_); (case side1 => repeat (first | exact (Kd.R_reads' HO330.out).2.2 | (with_reducible refine Kd.C_alloc ?_ _) | (with_reducible refine Kd.C_drewN ?_ _) | (with_reducible refine Kd.C_drew ?_))); (case side2 => exact (Kd.R_reads' HO330.out).2.1); rintro e w77 ⟨rfl, hb⟩; have n0_ := Aside0.mk (Kd.R_below (by (with_reducible repeat (first | apply Kd.R_alloc | apply Kd.R_drewN | apply Kd.R_drew)); exact HO_5.out) hb); have n1_ := Aside0.mk (Kd.R_below (by (with_reducible repeat (first | apply Kd.R_alloc | apply Kd.R_drewN | apply Kd.R_drew)); exact HO_7.out) hb); have n2_ := Aside0.mk (Kd.R_below (by (with_reducible repeat (first | apply Kd.R_alloc | apply Kd.R_drewN | apply Kd.R_drew)); exact HO330.out) hb); have n3_ := Aside0.mk (below_step (by repeat (first | (with_reducible first | exact HB.out | apply below_alloc | apply pw_below_drewN | apply below_drew1) | exact HB.out)) hb); clear HO_5; clear HO_7; clear HO330; clear HB; have HO_5 := n0_; have HO_7 := n1_; have HO330 := n2_; have HB := n3_; clear n0_ n1_ n2_ n3_; (try clear hb); (try clear hb2); (try clear hk); (try clear hi)) | (go_at_call 11; (with_reducible refine (weighhouselaw06_Own.calls _ _ l0 t328 _ ?side1 ?side2 A50.out).mono ?_); (case side1 => repeat (first | exact (Kd.C_below HR0.out HB.out) | (with_reducible refine Kd.C_alloc ?_ _) | (with_reducible refine Kd.C_drewN ?_ _) | (with_reducible refine Kd.C_drew ?_))); (case side2 => exact HC0.out); rintro e w78 ⟨v334, rfl, ho0, hb⟩; have n0_ := Aside0.mk (Kd.R_below (by (with_reducible repeat (first | apply Kd.R_alloc | apply Kd.R_drewN | apply Kd.R_drew)); exact HO_5.out) hb); have n1_ := Aside0.mk (Kd.R_below (by (with_reducible repeat (first | apply Kd.R_alloc | apply Kd.R_drewN | apply Kd.R_drew)); exact HO_7.out) hb); have n2_ := Aside0.mk (Kd.R_elder' (by (with_reducible repeat (first | apply Kd.R_alloc | apply Kd.R_drewN | apply Kd.R_drew)); exact HO330.out) (Kd.R_base ho0) hb); have n3_ := Aside0.mk (Kd.R_lower (Kd.R_new' ho0 (Kd.R_lt (by (with_reducible repeat (first | apply Kd.R_alloc | apply Kd.R_drewN | apply Kd.R_drew)); exact HO330.out))) (below_size (by repeat (first | (with_reducible first | exact HB.out | apply below_alloc | apply pw_below_drewN | apply below_drew1) | exact HB.out)))); have n4_ := Aside0.mk (below_step (by repeat (first | (with_reducible first | exact HB.out | apply below_alloc | apply pw_below_drewN | apply below_drew1) | exact HB.out)) hb); clear HO_5; clear HO_7; clear HO330; clear HB; have HO_5 := n0_; have HO_7 := n1_; have HO330 := n2_; have HO330 := n3_; have HB := n4_; clear n0_ n1_ n2_ n3_ n4_; (try clear hb); (try clear hb2); (try clear hk); (try clear hi); (try clear ho0); obtain ⟨Ao79, co79, eo79⟩ := Kd.R_slice HO330.out; subst eo79) | (go_at_call 19; (with_reducible refine (shape_Around.calls _ _ t328 (Int.tmod (wrap64 ((Int.tmod a1 (l0.length : Int)) + (l0.length : Int))) (l0.length : Int)) t336 _ ?side1 ?side2 A51.out).mono ?_); (case side1 => repeat (first | exact (Kd.R_reads' HO330.out).2.2 | (with_reducible refine Kd.C_alloc ?_ _) | (with_reducible refine Kd.C_drewN ?_ _) | (with_reducible refine Kd.C_drew ?_))); (case side2 => exact (Kd.R_reads' HO330.out).2.1); rintro e w80 ⟨v337, rfl, ho0, hb⟩; have n0_ := Aside0.mk (Kd.R_elder' (by (with_reducible repeat (first | apply Kd.R_alloc | apply Kd.R_drewN | apply Kd.R_drew)); exact HO_5.out) (Kd.R_base ho0) hb); have n1_ := Aside0.mk (Kd.R_elder' (by (with_reducible repeat (first | apply Kd.R_alloc | apply Kd.R_drewN | apply Kd.R_drew)); exact HO_7.out) (Kd.R_base ho0) hb); have n2_ := Aside0.mk (Kd.R_below (by (with_reducible repeat (first | apply Kd.R_alloc | apply Kd.R_drewN | apply Kd.R_drew)); exact HO330.out) hb); have n3_ := Aside0.mk (Kd.R_below (by (with_reducible repeat (first | apply Kd.R_alloc | apply Kd.R_drewN | apply Kd.R_drew)); exact HO330.out) hb); have n4_ := Aside0.mk (Kd.R_lower (Kd.R_new' (Kd.R_new' ho0 (Kd.R_lt (by (with_reducible repeat (first | apply Kd.R_alloc | apply Kd.R_drewN | apply Kd.R_drew)); exact HO_5.out))) (Kd.R_lt (by (with_reducible repeat (first | apply Kd.R_alloc | apply Kd.R_drewN | apply Kd.R_drew)); exact HO_7.out))) (below_size (by repeat (first | (with_reducible first | exact HB.out | apply below_alloc | apply pw_below_drewN | apply below_drew1) | exact HB.out)))); have n5_ := Aside0.mk (below_step (by repeat (first | (with_reducible first | exact HB.out | apply below_alloc | apply pw_below_drewN | apply below_drew1) | exact HB.out)) hb); clear HO_5; clear HO_7; clear HO330; clear HO330; clear HB; have HO_5 := n0_; have HO_7 := n1_; have HO330 := n2_; have HO330 := n3_; have HO338 := n4_; have HB := n5_; clear n0_ n1_ n2_ n3_ n4_ n5_; (try clear hb); (try clear hb2); (try clear hk); (try clear hi); (try clear ho0); obtain ⟨Ao81, co81, eo81⟩ := Kd.R_slice HO338.out; subst eo81; obtain ⟨Ao82, co82, eo82⟩ := Kd.R_slice HO_7.out; subst eo82) | (go_at_call 18; (with_reducible refine (weighhouselaw03_Ints.calls k3 _ _ t336 _ _ x7_3 true _ ?side1 ?side2 ?side3 ?side4 A52.out).mono ?_); (case side1 => repeat (first | exact (Kd.R_reads' HO338.out).2.2 | (with_reducible refine Kd.C_alloc ?_ _) | (with_reducible refine Kd.C_drewN ?_ _) | (with_reducible refine Kd.C_drew ?_))); (case side2 => exact (Kd.R_reads' HO338.out).2.1); (case side3 => repeat (first | exact (Kd.R_reads' HO_7.out).2.2 | (with_reducible refine Kd.C_alloc ?_ _) | (with_reducible refine Kd.C_drewN ?_ _) | (with_reducible refine Kd.C_drew ?_))); (case side4 => exact (Kd.R_reads' HO_7.out).2.1); rintro e w' ⟨rfl, ⟨nd, rfl⟩⟩; (try first | exact ⟨rfl, _, World.drewN_drewN _ _ _⟩ | exact ⟨rfl, _, Eq.trans (World.drewN_drewN _ _ _) (congrArg (World.drewN _) (Nat.add_assoc _ _ _))⟩)) | (go_at_call 12; (with_reducible refine (weighhouselaw06_num.calls t332 t340 _ A54.out).mono ?_); rintro e w' ⟨rfl, ⟨nd, rfl⟩⟩; (try first | exact ⟨rfl, _, World.drewN_drewN _ _ _⟩ | exact ⟨rfl, _, Eq.trans (World.drewN_drewN _ _ _) (congrArg (World.drewN _) (Nat.add_assoc _ _ _))⟩))); try go_wp2_with (first | (go_at_call 11; (with_reducible refine (weighhouselaw06_Own.calls _ _ l0 t328 _ ?side1 ?side2 A48.out).mono ?_); (case side1 => repeat (first | exact (Kd.C_below HR0.out HB.out) | (with_reducible refine Kd.C_alloc ?_ _) | (with_reducible refine Kd.C_drewN ?_ _) | (with_reducible refine Kd.C_drew ?_))); (case side2 => exact HC0.out); rintro e w75 ⟨v329, rfl, ho0, hb⟩; have n0_ := Aside0.mk (Kd.R_below (by (with_reducible repeat (first | apply Kd.R_alloc | apply Kd.R_drewN | apply Kd.R_drew)); exact HO_5.out) hb); have n1_ := Aside0.mk (Kd.R_below (by (with_reducible repeat (first | apply Kd.R_alloc | apply Kd.R_drewN | apply Kd.R_drew)); exact HO_7.out) hb); have n2_ := Aside0.mk (Kd.R_lower ho0 (below_size (by repeat (first | (with_reducible first | exact HB.out | apply below_alloc | apply pw_below_drewN | apply below_drew1) | exact HB.out)))); have n3_ := Aside0.mk (below_step (by repeat (first | (with_reducible first | exact HB.out | apply below_alloc | apply pw_below_drewN | apply below_drew1) | exact HB.out)) hb); clear HO_5; clear HO_7; clear HB; have HO_5 := n0_; have HO_7 := n1_; have HO330 := n2_; have HB := n3_; clear n0_ n1_ n2_ n3_; (try clear hb); (try clear hb2); (try clear hk); (try clear hi); (try clear ho0); obtain ⟨Ao76, co76, eo76⟩ := Kd.R_slice HO330.out; subst eo76) | (go_at_call 16; (with_reducible refine (shape_Depth.calls _ _ t328 t331 t332 _ ?side1 ?side2 A49.out).mono ?_); (case side1 => repeat (first | exact (Kd.R_reads' HO330.out).2.2 | (with_reducible refine Kd.C_alloc ?_ _) | (with_reducible refine Kd.C_drewN ?_ _) | (with_reducible refine Kd.C_drew ?_))); (case side2 => exact (Kd.R_reads' HO330.out).2.1); rintro e w77 ⟨rfl, hb⟩; have n0_ := Aside0.mk (Kd.R_below (by (with_reducible repeat (first | apply Kd.R_alloc | apply Kd.R_drewN | apply Kd.R_drew)); exact HO_5.out) hb); have n1_ := Aside0.mk (Kd.R_below (by (with_reducible repeat (first | apply Kd.R_alloc | apply Kd.R_drewN | apply Kd.R_drew)); exact HO_7.out) hb); have n2_ := Aside0.mk (Kd.R_below (by (with_reducible repeat (first | apply Kd.R_alloc | apply Kd.R_drewN | apply Kd.R_drew)); exact HO330.out) hb); have n3_ := Aside0.mk (below_step (by repeat (first | (with_reducible first | exact HB.out | apply below_alloc | apply pw_below_drewN | apply below_drew1) | exact HB.out)) hb); clear HO_5; clear HO_7; clear HO330; clear HB; have HO_5 := n0_; have HO_7 := n1_; have HO330 := n2_; have HB := n3_; clear n0_ n1_ n2_ n3_; (try clear hb); (try clear hb2); (try clear hk); (try clear hi)) | (go_at_call 11; (with_reducible refine (weighhouselaw06_Own.calls _ _ l0 t328 _ ?side1 ?side2 A50.out).mono ?_); (case side1 => repeat (first | exact (Kd.C_below HR0.out HB.out) | (with_reducible refine Kd.C_alloc ?_ _) | (with_reducible refine Kd.C_drewN ?_ _) | (with_reducible refine Kd.C_drew ?_))); (case side2 => exact HC0.out); rintro e w78 ⟨v334, rfl, ho0, hb⟩; have n0_ := Aside0.mk (Kd.R_below (by (with_reducible repeat (first | apply Kd.R_alloc | apply Kd.R_drewN | apply Kd.R_drew)); exact HO_5.out) hb); have n1_ := Aside0.mk (Kd.R_below (by (with_reducible repeat (first | apply Kd.R_alloc | apply Kd.R_drewN | apply Kd.R_drew)); exact HO_7.out) hb); have n2_ := Aside0.mk (Kd.R_elder' (by (with_reducible repeat (first | apply Kd.R_alloc | apply Kd.R_drewN | apply Kd.R_drew)); exact HO330.out) (Kd.R_base ho0) hb); have n3_ := Aside0.mk (Kd.R_lower (Kd.R_new' ho0 (Kd.R_lt (by (with_reducible repeat (first | apply Kd.R_alloc | apply Kd.R_drewN | apply Kd.R_drew)); exact HO330.out))) (below_size (by repeat (first | (with_reducible first | exact HB.out | apply below_alloc | apply pw_below_drewN | apply below_drew1) | exact HB.out)))); have n4_ := Aside0.mk (below_step (by repeat (first | (with_reducible first | exact HB.out | apply below_alloc | apply pw_below_drewN | apply below_drew1) | exact HB.out)) hb); clear HO_5; clear HO_7; clear HO330; clear HB; have HO_5 := n0_; have HO_7 := n1_; have HO330 := n2_; have HO330 := n3_; have HB := n4_; clear n0_ n1_ n2_ n3_ n4_; (try clear hb); (try clear hb2); (try clear hk); (try clear hi); (try clear ho0); obtain ⟨Ao79, co79, eo79⟩ := Kd.R_slice HO330.out; subst eo79) | (go_at_call 19; (with_reducible refine (shape_Around.calls _ _ t328 (Int.tmod (wrap64 ((Int.tmod a1 (l0.length : Int)) + (l0.length : Int))) (l0.length : Int)) t336 _ ?side1 ?side2 A51.out).mono ?_); (case side1 => repeat (first | exact (Kd.R_reads' HO330.out).2.2 | (with_reducible refine Kd.C_alloc ?_ _) | (with_reducible refine Kd.C_drewN ?_ _) | (with_reducible refine Kd.C_drew ?_))); (case side2 => exact (Kd.R_reads' HO330.out).2.1); rintro e w80 ⟨v337, rfl, ho0, hb⟩; have n0_ := Aside0.mk (Kd.R_elder' (by (with_reducible repeat (first | apply Kd.R_alloc | apply Kd.R_drewN | apply Kd.R_drew)); exact HO_5.out) (Kd.R_base ho0) hb); have n1_ := Aside0.mk (Kd.R_elder' (by (with_reducible repeat (first | apply Kd.R_alloc | apply Kd.R_drewN | apply Kd.R_drew)); exact HO_7.out) (Kd.R_base ho0) hb); have n2_ := Aside0.mk (Kd.R_below (by (with_reducible repeat (first | apply Kd.R_alloc | apply Kd.R_drewN | apply Kd.R_drew)); exact HO330.out) hb); have n3_ := Aside0.mk (Kd.R_below (by (with_reducible repeat (first | apply Kd.R_alloc | apply Kd.R_drewN | apply Kd.R_drew)); exact HO330.out) hb); have n4_ := Aside0.mk (Kd.R_lower (Kd.R_new' (Kd.R_new' ho0 (Kd.R_lt (by (with_reducible repeat (first | apply Kd.R_alloc | apply Kd.R_drewN | apply Kd.R_drew)); exact HO_5.out))) (Kd.R_lt (by (with_reducible repeat (first | apply Kd.R_alloc | apply Kd.R_drewN | apply Kd.R_drew)); exact HO_7.out))) (below_size (by repeat (first | (with_reducible first | exact HB.out | apply below_alloc | apply pw_below_drewN | apply below_drew1) | exact HB.out)))); have n5_ := Aside0.mk (below_step (by repeat (first | (with_reducible first | exact HB.out | apply below_alloc | apply pw_below_drewN | apply below_drew1) | exact HB.out)) hb); clear HO_5; clear HO_7; clear HO330; clear HO330; clear HB; have HO_5 := n0_; have HO_7 := n1_; have HO330 := n2_; have HO330 := n3_; have HO338 := n4_; have HB := n5_; clear n0_ n1_ n2_ n3_ n4_ n5_; (try clear hb); (try clear hb2); (try clear hk); (try clear hi); (try clear ho0); obtain ⟨Ao81, co81, eo81⟩ := Kd.R_slice HO338.out; subst eo81; obtain ⟨Ao82, co82, eo82⟩ := Kd.R_slice HO_7.out; subst eo82) | (go_at_call 18; (with_reducible refine (weighhouselaw03_Ints.calls k3 _ _ t336 _ _ x7_3 true _ ?side1 ?side2 ?side3 ?side4 A52.out).mono ?_); (case side1 => repeat (first | exact (Kd.R_reads' HO338.out).2.2 | (with_reducible refine Kd.C_alloc ?_ _) | (with_reducible refine Kd.C_drewN ?_ _) | (with_reducible refine Kd.C_drew ?_))); (case side2 => exact (Kd.R_reads' HO338.out).2.1); (case side3 => repeat (first | exact (Kd.R_reads' HO_7.out).2.2 | (with_reducible refine Kd.C_alloc ?_ _) | (with_reducible refine Kd.C_drewN ?_ _) | (with_reducible refine Kd.C_drew ?_))); (case side4 => exact (Kd.R_reads' HO_7.out).2.1); rintro e w' ⟨rfl, ⟨nd, rfl⟩⟩; (try first | exact ⟨rfl, _, World.drewN_drewN _ _ _⟩ | exact ⟨rfl, _, Eq.trans (World.drewN_drewN _ _ _) (congrArg (World.drewN _) (Nat.add_assoc _ _ _))⟩)) | (go_at_call 12; (with_reducible refine (weighhouselaw06_num.calls t332 t340 _ A54.out).mono ?_); rintro e w' ⟨rfl, ⟨nd, rfl⟩⟩; (try first | exact ⟨rfl, _, World.drewN_drewN _ _ _⟩ | exact ⟨rfl, _, Eq.trans (World.drewN_drewN _ _ _) (congrArg (World.drewN _) (Nat.add_assoc _ _ _))⟩))))
                              go_ret
                              exact ⟨by first | rfl | (simp [errW_none, errW_some] <;> rfl) | (simp [*, errW_none, errW_some] <;> rfl), by repeat (first | (with_reducible first | exact HB.out | apply below_alloc | apply pw_below_drewN | apply below_drew1) | exact HB.out)⟩
                          · replace c53 := Bool.eq_false_iff.mpr c53
                            subst c53
                            have H1 : (some false) = some r := by rw [if_neg (show ¬ (false = true) by decide)] at H; exact H
                            clear H
                            have H := H1
                            clear H1
                            obtain rfl := Option.some.inj H
                            go_wp2_with (first | (go_at_call 11; (with_reducible refine (weighhouselaw06_Own.calls _ _ l0 t328 _ ?side1 ?side2 A48.out).mono ?_); (case side1 => repeat (first | exact (Kd.C_below HR0.out HB.out) | (with_reducible refine Kd.C_alloc ?_ _) | (with_reducible refine Kd.C_drewN ?_ _) | (with_reducible refine Kd.C_drew ?_))); (case side2 => exact HC0.out); rintro e w83 ⟨v329, rfl, ho0, hb⟩; have n0_ := Aside0.mk (Kd.R_below (by (with_reducible repeat (first | apply Kd.R_alloc | apply Kd.R_drewN | apply Kd.R_drew)); exact HO_5.out) hb); have n1_ := Aside0.mk (Kd.R_below (by (with_reducible repeat (first | apply Kd.R_alloc | apply Kd.R_drewN | apply Kd.R_drew)); exact HO_7.out) hb); have n2_ := Aside0.mk (Kd.R_lower ho0 (below_size (by repeat (first | (with_reducible first | exact HB.out | apply below_alloc | apply pw_below_drewN | apply below_drew1) | exact HB.out)))); have n3_ := Aside0.mk (below_step (by repeat (first | (with_reducible first | exact HB.out | apply below_alloc | apply pw_below_drewN | apply below_drew1) | exact HB.out)) hb); clear HO_5; clear HO_7; clear HB; have HO_5 := n0_; have HO_7 := n1_; have HO330 := n2_; have HB := n3_; clear n0_ n1_ n2_ n3_; (try clear hb); (try clear hb2); (try clear hk); (try clear hi); (try clear ho0); obtain ⟨Ao84, co84, eo84⟩ := Kd.R_slice HO330.out; subst eo84) | (go_at_call 16; (with_reducible refine (shape_Depth.calls _ _ t328 t331 t332 _ ?side1 ?side2 A49.out).mono ?_); (case side1 => repeat (first | exact (Kd.R_reads' HO330.out).2.2 | (with_reducible refine Kd.C_alloc ?_ _) | (with_reducible refine Kd.C_drewN ?_ _) | (with_reducible refine Kd.C_drew ?_))); (case side2 => exact (Kd.R_reads' HO330.out).2.1); rintro e w85 ⟨rfl, hb⟩; have n0_ := Aside0.mk (Kd.R_below (by (with_reducible repeat (first | apply Kd.R_alloc | apply Kd.R_drewN | apply Kd.R_drew)); exact HO_5.out) hb); have n1_ := Aside0.mk (Kd.R_below (by (with_reducible repeat (first | apply Kd.R_alloc | apply Kd.R_drewN | apply Kd.R_drew)); exact HO_7.out) hb); have n2_ := Aside0.mk (Kd.R_below (by (with_reducible repeat (first | apply Kd.R_alloc | apply Kd.R_drewN | apply Kd.R_drew)); exact HO330.out) hb); have n3_ := Aside0.mk (below_step (by repeat (first | (with_reducible first | exact HB.out | apply below_alloc | apply pw_below_drewN | apply below_drew1) | exact HB.out)) hb); clear HO_5; clear HO_7; clear HO330; clear HB; have HO_5 := n0_; have HO_7 := n1_; have HO330 := n2_; have HB := n3_; clear n0_ n1_ n2_ n3_; (try clear hb); (try clear hb2); (try clear hk); (try clear hi)) | (go_at_call 11; (with_reducible refine (weighhouselaw06_Own.calls _ _ l0 t328 _ ?side1 ?side2 A50.out).mono ?_); (case side1 => repeat (first | exact (Kd.C_below HR0.out HB.out) | (with_reducible refine Kd.C_alloc ?_ _) | (with_reducible refine Kd.C_drewN ?_ _) | (with_reducible refine Kd.C_drew ?_))); (case side2 => exact HC0.out); rintro e w86 ⟨v334, rfl, ho0, hb⟩; have n0_ := Aside0.mk (Kd.R_below (by (with_reducible repeat (first | apply Kd.R_alloc | apply Kd.R_drewN | apply Kd.R_drew)); exact HO_5.out) hb); have n1_ := Aside0.mk (Kd.R_below (by (with_reducible repeat (first | apply Kd.R_alloc | apply Kd.R_drewN | apply Kd.R_drew)); exact HO_7.out) hb); have n2_ := Aside0.mk (Kd.R_elder' (by (with_reducible repeat (first | apply Kd.R_alloc | apply Kd.R_drewN | apply Kd.R_drew)); exact HO330.out) (Kd.R_base ho0) hb); have n3_ := Aside0.mk (Kd.R_lower (Kd.R_new' ho0 (Kd.R_lt (by (with_reducible repeat (first | apply Kd.R_alloc | apply Kd.R_drewN | apply Kd.R_drew)); exact HO330.out))) (below_size (by repeat (first | (with_reducible first | exact HB.out | apply below_alloc | apply pw_below_drewN | apply below_drew1) | exact HB.out)))); have n4_ := Aside0.mk (below_step (by repeat (first | (with_reducible first | exact HB.out | apply below_alloc | apply pw_below_drewN | apply below_drew1) | exact HB.out)) hb); clear HO_5; clear HO_7; clear HO330; clear HB; have HO_5 := n0_; have HO_7 := n1_; have HO330 := n2_; have HO330 := n3_; have HB := n4_; clear n0_ n1_ n2_ n3_ n4_; (try clear hb); (try clear hb2); (try clear hk); (try clear hi); (try clear ho0); obtain ⟨Ao87, co87, eo87⟩ := Kd.R_slice HO330.out; subst eo87) | (go_at_call 19; (with_reducible refine (shape_Around.calls _ _ t328 (Int.tmod (wrap64 ((Int.tmod a1 (l0.length : Int)) + (l0.length : Int))) (l0.length : Int)) t336 _ ?side1 ?side2 A51.out).mono ?_); (case side1 => repeat (first | exact (Kd.R_reads' HO330.out).2.2 | (with_reducible refine Kd.C_alloc ?_ _) | (with_reducible refine Kd.C_drewN ?_ _) | (with_reducible refine Kd.C_drew ?_))); (case side2 => exact (Kd.R_reads' HO330.out).2.1); rintro e w88 ⟨v337, rfl, ho0, hb⟩; have n0_ := Aside0.mk (Kd.R_elder' (by (with_reducible repeat (first | apply Kd.R_alloc | apply Kd.R_drewN | apply Kd.R_drew)); exact HO_5.out) (Kd.R_base ho0) hb); have n1_ := Aside0.mk (Kd.R_elder' (by (with_reducible repeat (first | apply Kd.R_alloc | apply Kd.R_drewN | apply Kd.R_drew)); exact HO_7.out) (Kd.R_base ho0) hb); have n2_ := Aside0.mk (Kd.R_below (by (with_reducible repeat (first | apply Kd.R_alloc | apply Kd.R_drewN | apply Kd.R_drew)); exact HO330.out) hb); have n3_ := Aside0.mk (Kd.R_below (by (with_reducible repeat (first | apply Kd.R_alloc | apply Kd.R_drewN | apply Kd.R_drew)); exact HO330.out) hb); have n4_ := Aside0.mk (Kd.R_lower (Kd.R_new' (Kd.R_new' ho0 (Kd.R_lt (by (with_reducible repeat (first | apply Kd.R_alloc | apply Kd.R_drewN | apply Kd.R_drew)); exact HO_5.out))) (Kd.R_lt (by (with_reducible repeat (first | apply Kd.R_alloc | apply Kd.R_drewN | apply Kd.R_drew)); exact HO_7.out))) (below_size (by repeat (first | (with_reducible first | exact HB.out | apply below_alloc | apply pw_below_drewN | apply below_drew1) | exact HB.out)))); have n5_ := Aside0.mk (below_step (by repeat (first | (with_reducible first | exact HB.out | apply below_alloc | apply pw_below_drewN | apply below_drew1) | exact HB.out)) hb); clear HO_5; clear HO_7; clear HO330; clear HO330; clear HB; have HO_5 := n0_; have HO_7 := n1_; have HO330 := n2_; have HO330 := n3_; have HO338 := n4_; have HB := n5_; clear n0_ n1_ n2_ n3_ n4_ n5_; (try clear hb); (try clear hb2); (try clear hk); (try clear hi); (try clear ho0); obtain ⟨Ao89, co89, eo89⟩ := Kd.R_slice HO338.out; subst eo89; obtain ⟨Ao90, co90, eo90⟩ := Kd.R_slice HO_7.out; subst eo90) | (go_at_call 18; (with_reducible refine (weighhouselaw03_Ints.calls k3 _ _ t336 _ _ x7_3 false _ ?side1 ?side2 ?side3 ?side4 A52.out).mono ?_); (case side1 => repeat (first | exact (Kd.R_reads' HO338.out).2.2 | (with_reducible refine Kd.C_alloc ?_ _) | (with_reducible refine Kd.C_drewN ?_ _) | (with_reducible refine Kd.C_drew ?_))); (case side2 => exact (Kd.R_reads' HO338.out).2.1); (case side3 => repeat (first | exact (Kd.R_reads' HO_7.out).2.2 | (with_reducible refine Kd.C_alloc ?_ _) | (with_reducible refine Kd.C_drewN ?_ _) | (with_reducible refine Kd.C_drew ?_))); (case side4 => exact (Kd.R_reads' HO_7.out).2.1); rintro e w' ⟨rfl, ⟨nd, rfl⟩⟩; (try first | exact ⟨rfl, _, World.drewN_drewN _ _ _⟩ | exact ⟨rfl, _, Eq.trans (World.drewN_drewN _ _ _) (congrArg (World.drewN _) (Nat.add_assoc _ _ _))⟩)))
                            repeat (go_quiet (first | (go_at_call 11; (with_reducible refine (weighhouselaw06_Own.calls _ _ l0 t328 _ ?side1 ?side2 A48.out).mono ?_); (case side1 => repeat (first | exact (Kd.C_below HR0.out HB.out) | (with_reducible refine Kd.C_alloc ?_ _) | (with_reducible refine Kd.C_drewN ?_ _) | (with_reducible refine Kd.C_drew ?_))); (case side2 => exact HC0.out); rintro e w83 ⟨v329, rfl, ho0, hb⟩; have n0_ := Aside0.mk (Kd.R_below (by (with_reducible repeat (first | apply Kd.R_alloc | apply Kd.R_drewN | apply Kd.R_drew)); exact HO_5.out) hb); have n1_ := Aside0.mk (Kd.R_below (by (with_reducible repeat (first | apply Kd.R_alloc | apply Kd.R_drewN | apply Kd.R_drew)); exact HO_7.out) hb); have n2_ := Aside0.mk (Kd.R_lower ho0 (below_size (by repeat (first | (with_reducible first | exact HB.out | apply below_alloc | apply pw_below_drewN | apply below_drew1) | exact HB.out)))); have n3_ := Aside0.mk (below_step (by repeat (first | (with_reducible first | exact HB.out | apply below_alloc | apply pw_below_drewN | apply below_drew1) | exact HB.out)) hb); clear HO_5; clear HO_7; clear HB; have HO_5 := n0_; have HO_7 := n1_; have HO330 := n2_; have HB := n3_; clear n0_ n1_ n2_ n3_; (try clear hb); (try clear hb2); (try clear hk); (try clear hi); (try clear ho0); obtain ⟨Ao84, co84, eo84⟩ := Kd.R_slice HO330.out; subst eo84) | (go_at_call 16; (with_reducible refine (shape_Depth.calls _ _ t328 t331 t332 _ ?side1 ?side2 A49.out).mono ?_); (case side1 => repeat (first | exact (Kd.R_reads' HO330.out).2.2 | (with_reducible refine Kd.C_alloc ?_ _) | (with_reducible refine Kd.C_drewN ?_ _) | (with_reducible refine Kd.C_drew ?_))); (case side2 => exact (Kd.R_reads' HO330.out).2.1); rintro e w85 ⟨rfl, hb⟩; have n0_ := Aside0.mk (Kd.R_below (by (with_reducible repeat (first | apply Kd.R_alloc | apply Kd.R_drewN | apply Kd.R_drew)); exact HO_5.out) hb); have n1_ := Aside0.mk (Kd.R_below (by (with_reducible repeat (first | apply Kd.R_alloc | apply Kd.R_drewN | apply Kd.R_drew)); exact HO_7.out) hb); have n2_ := Aside0.mk (Kd.R_below (by (with_reducible repeat (first | apply Kd.R_alloc | apply Kd.R_drewN | apply Kd.R_drew)); exact HO330.out) hb); have n3_ := Aside0.mk (below_step (by repeat (first | (with_reducible first | exact HB.out | apply below_alloc | apply pw_below_drewN | apply below_drew1) | exact HB.out)) hb); clear HO_5; clear HO_7; clear HO330; clear HB; have HO_5 := n0_; have HO_7 := n1_; have HO330 := n2_; have HB := n3_; clear n0_ n1_ n2_ n3_; (try clear hb); (try clear hb2); (try clear hk); (try clear hi)) | (go_at_call 11; (with_reducible refine (weighhouselaw06_Own.calls _ _ l0 t328 _ ?side1 ?side2 A50.out).mono ?_); (case side1 => repeat (first | exact (Kd.C_below HR0.out HB.out) | (with_reducible refine Kd.C_alloc ?_ _) | (with_reducible refine Kd.C_drewN ?_ _) | (with_reducible refine Kd.C_drew ?_))); (case side2 => exact HC0.out); rintro e w86 ⟨v334, rfl, ho0, hb⟩; have n0_ := Aside0.mk (Kd.R_below (by (with_reducible repeat (first | apply Kd.R_alloc | apply Kd.R_drewN | apply Kd.R_drew)); exact HO_5.out) hb); have n1_ := Aside0.mk (Kd.R_below (by (with_reducible repeat (first | apply Kd.R_alloc | apply Kd.R_drewN | apply Kd.R_drew)); exact HO_7.out) hb); have n2_ := Aside0.mk (Kd.R_elder' (by (with_reducible repeat (first | apply Kd.R_alloc | apply Kd.R_drewN | apply Kd.R_drew)); exact HO330.out) (Kd.R_base ho0) hb); have n3_ := Aside0.mk (Kd.R_lower (Kd.R_new' ho0 (Kd.R_lt (by (with_reducible repeat (first | apply Kd.R_alloc | apply Kd.R_drewN | apply Kd.R_drew)); exact HO330.out))) (below_size (by repeat (first | (with_reducible first | exact HB.out | apply below_alloc | apply pw_below_drewN | apply below_drew1) | exact HB.out)))); have n4_ := Aside0.mk (below_step (by repeat (first | (with_reducible first | exact HB.out | apply below_alloc | apply pw_below_drewN | apply below_drew1) | exact HB.out)) hb); clear HO_5; clear HO_7; clear HO330; clear HB; have HO_5 := n0_; have HO_7 := n1_; have HO330 := n2_; have HO330 := n3_; have HB := n4_; clear n0_ n1_ n2_ n3_ n4_; (try clear hb); (try clear hb2); (try clear hk); (try clear hi); (try clear ho0); obtain ⟨Ao87, co87, eo87⟩ := Kd.R_slice HO330.out; subst eo87) | (go_at_call 19; (with_reducible refine (shape_Around.calls _ _ t328 (Int.tmod (wrap64 ((Int.tmod a1 (l0.length : Int)) + (l0.length : Int))) (l0.length : Int)) t336 _ ?side1 ?side2 A51.out).mono ?_); (case side1 => repeat (first | exact (Kd.R_reads' HO330.out).2.2 | (with_reducible refine Kd.C_alloc ?_ _) | (with_reducible refine Kd.C_drewN ?_ _) | (with_reducible refine Kd.C_drew ?_))); (case side2 => exact (Kd.R_reads' HO330.out).2.1); rintro e w88 ⟨v337, rfl, ho0, hb⟩; have n0_ := Aside0.mk (Kd.R_elder' (by (with_reducible repeat (first | apply Kd.R_alloc | apply Kd.R_drewN | apply Kd.R_drew)); exact HO_5.out) (Kd.R_base ho0) hb); have n1_ := Aside0.mk (Kd.R_elder' (by (with_reducible repeat (first | apply Kd.R_alloc | apply Kd.R_drewN | apply Kd.R_drew)); exact HO_7.out) (Kd.R_base ho0) hb); have n2_ := Aside0.mk (Kd.R_below (by (with_reducible repeat (first | apply Kd.R_alloc | apply Kd.R_drewN | apply Kd.R_drew)); exact HO330.out) hb); have n3_ := Aside0.mk (Kd.R_below (by (with_reducible repeat (first | apply Kd.R_alloc | apply Kd.R_drewN | apply Kd.R_drew)); exact HO330.out) hb); have n4_ := Aside0.mk (Kd.R_lower (Kd.R_new' (Kd.R_new' ho0 (Kd.R_lt (by (with_reducible repeat (first | apply Kd.R_alloc | apply Kd.R_drewN | apply Kd.R_drew)); exact HO_5.out))) (Kd.R_lt (by (with_reducible repeat (first | apply Kd.R_alloc | apply Kd.R_drewN | apply Kd.R_drew)); exact HO_7.out))) (below_size (by repeat (first | (with_reducible first | exact HB.out | apply below_alloc | apply pw_below_drewN | apply below_drew1) | exact HB.out)))); have n5_ := Aside0.mk (below_step (by repeat (first | (with_reducible first | exact HB.out | apply below_alloc | apply pw_below_drewN | apply below_drew1) | exact HB.out)) hb); clear HO_5; clear HO_7; clear HO330; clear HO330; clear HB; have HO_5 := n0_; have HO_7 := n1_; have HO330 := n2_; have HO330 := n3_; have HO338 := n4_; have HB := n5_; clear n0_ n1_ n2_ n3_ n4_ n5_; (try clear hb); (try clear hb2); (try clear hk); (try clear hi); (try clear ho0); obtain ⟨Ao89, co89, eo89⟩ := Kd.R_slice HO338.out; subst eo89; obtain ⟨Ao90, co90, eo90⟩ := Kd.R_slice HO_7.out; subst eo90) | (go_at_call 18; (with_reducible refine (weighhouselaw03_Ints.calls k3 _ _ t336 _ _ x7_3 false _ ?side1 ?side2 ?side3 ?side4 A52.out).mono ?_); (case side1 => repeat (first | exact (Kd.R_reads' HO338.out).2.2 | (with_reducible refine Kd.C_alloc ?_ _) | (with_reducible refine Kd.C_drewN ?_ _) | (with_reducible refine Kd.C_drew ?_))); (case side2 => exact (Kd.R_reads' HO338.out).2.1); (case side3 => repeat (first | exact (Kd.R_reads' HO_7.out).2.2 | (with_reducible refine Kd.C_alloc ?_ _) | (with_reducible refine Kd.C_drewN ?_ _) | (with_reducible refine Kd.C_drew ?_))); (case side4 => exact (Kd.R_reads' HO_7.out).2.1); rintro e w' ⟨rfl, ⟨nd, rfl⟩⟩; (try first | exact ⟨rfl, _, World.drewN_drewN _ _ _⟩ | exact ⟨rfl, _, Eq.trans (World.drewN_drewN _ _ _) (congrArg (World.drewN _) (Nat.add_assoc _ _ _))⟩))); try go_wp2_with (first | (go_at_call 11; (with_reducible refine (weighhouselaw06_Own.calls _ _ l0 t328 _ ?side1 ?side2 A48.out).mono ?_); (case side1 => repeat (first | exact (Kd.C_below HR0.out HB.out) | (with_reducible refine Kd.C_alloc ?_ _) | (with_reducible refine Kd.C_drewN ?_ _) | (with_reducible refine Kd.C_drew ?_))); (case side2 => exact HC0.out); rintro e w83 ⟨v329, rfl, ho0, hb⟩; have n0_ := Aside0.mk (Kd.R_below (by (with_reducible repeat (first | apply Kd.R_alloc | apply Kd.R_drewN | apply Kd.R_drew)); exact HO_5.out) hb); have n1_ := Aside0.mk (Kd.R_below (by (with_reducible repeat (first | apply Kd.R_alloc | apply Kd.R_drewN | apply Kd.R_drew)); exact HO_7.out) hb); have n2_ := Aside0.mk (Kd.R_lower ho0 (below_size (by repeat (first | (with_reducible first | exact HB.out | apply below_alloc | apply pw_below_drewN | apply below_drew1) | exact HB.out)))); have n3_ := Aside0.mk (below_step (by repeat (first | (with_reducible first | exact HB.out | apply below_alloc | apply pw_below_drewN | apply below_drew1) | exact HB.out)) hb); clear HO_5; clear HO_7; clear HB; have HO_5 := n0_; have HO_7 := n1_; have HO330 := n2_; have HB := n3_; clear n0_ n1_ n2_ n3_; (try clear hb); (try clear hb2); (try clear hk); (try clear hi); (try clear ho0); obtain ⟨Ao84, co84, eo84⟩ := Kd.R_slice HO330.out; subst eo84) | (go_at_call 16; (with_reducible refine (shape_Depth.calls _ _ t328 t331 t332 _ ?side1 ?side2 A49.out).mono ?_); (case side1 => repeat (first | exact (Kd.R_reads' HO330.out).2.2 | (with_reducible refine Kd.C_alloc ?_ _) | (with_reducible refine Kd.C_drewN ?_ _) | (with_reducible refine Kd.C_drew ?_))); (case side2 => exact (Kd.R_reads' HO330.out).2.1); rintro e w85 ⟨rfl, hb⟩; have n0_ := Aside0.mk (Kd.R_below (by (with_reducible repeat (first | apply Kd.R_alloc | apply Kd.R_drewN | apply Kd.R_drew)); exact HO_5.out) hb); have n1_ := Aside0.mk (Kd.R_below (by (with_reducible repeat (first | apply Kd.R_alloc | apply Kd.R_drewN | apply Kd.R_drew)); exact HO_7.out) hb); have n2_ := Aside0.mk (Kd.R_below (by (with_reducible repeat (first | apply Kd.R_alloc | apply Kd.R_drewN | apply Kd.R_drew)); exact HO330.out) hb); have n3_ := Aside0.mk (below_step (by repeat (first | (with_reducible first | exact HB.out | apply below_alloc | apply pw_below_drewN | apply below_drew1) | exact HB.out)) hb); clear HO_5; clear HO_7; clear HO330; clear HB; have HO_5 := n0_; have HO_7 := n1_; have HO330 := n2_; have HB := n3_; clear n0_ n1_ n2_ n3_; (try clear hb); (try clear hb2); (try clear hk); (try clear hi)) | (go_at_call 11; (with_reducible refine (weighhouselaw06_Own.calls _ _ l0 t328 _ ?side1 ?side2 A50.out).mono ?_); (case side1 => repeat (first | exact (Kd.C_below HR0.out HB.out) | (with_reducible refine Kd.C_alloc ?_ _) | (with_reducible refine Kd.C_drewN ?_ _) | (with_reducible refine Kd.C_drew ?_))); (case side2 => exact HC0.out); rintro e w86 ⟨v334, rfl, ho0, hb⟩; have n0_ := Aside0.mk (Kd.R_below (by (with_reducible repeat (first | apply Kd.R_alloc | apply Kd.R_drewN | apply Kd.R_drew)); exact HO_5.out) hb); have n1_ := Aside0.mk (Kd.R_below (by (with_reducible repeat (first | apply Kd.R_alloc | apply Kd.R_drewN | apply Kd.R_drew)); exact HO_7.out) hb); have n2_ := Aside0.mk (Kd.R_elder' (by (with_reducible repeat (first | apply Kd.R_alloc | apply Kd.R_drewN | apply Kd.R_drew)); exact HO330.out) (Kd.R_base ho0) hb); have n3_ := Aside0.mk (Kd.R_lower (Kd.R_new' ho0 (Kd.R_lt (by (with_reducible repeat (first | apply Kd.R_alloc | apply Kd.R_drewN | apply Kd.R_drew)); exact HO330.out))) (below_size (by repeat (first | (with_reducible first | exact HB.out | apply below_alloc | apply pw_below_drewN | apply below_drew1) | exact HB.out)))); have n4_ := Aside0.mk (below_step (by repeat (first | (with_reducible first | exact HB.out | apply below_alloc | apply pw_below_drewN | apply below_drew1) | exact HB.out)) hb); clear HO_5; clear HO_7; clear HO330; clear HB; have HO_5 := n0_; have HO_7 := n1_; have HO330 := n2_; have HO330 := n3_; have HB := n4_; clear n0_ n1_ n2_ n3_ n4_; (try clear hb); (try clear hb2); (try clear hk); (try clear hi); (try clear ho0); obtain ⟨Ao87, co87, eo87⟩ := Kd.R_slice HO330.out; subst eo87) | (go_at_call 19; (with_reducible refine (shape_Around.calls _ _ t328 (Int.tmod (wrap64 ((Int.tmod a1 (l0.length : Int)) + (l0.length : Int))) (l0.length : Int)) t336 _ ?side1 ?side2 A51.out).mono ?_); (case side1 => repeat (first | exact (Kd.R_reads' HO330.out).2.2 | (with_reducible refine Kd.C_alloc ?_ _) | (with_reducible refine Kd.C_drewN ?_ _) | (with_reducible refine Kd.C_drew ?_))); (case side2 => exact (Kd.R_reads' HO330.out).2.1); rintro e w88 ⟨v337, rfl, ho0, hb⟩; have n0_ := Aside0.mk (Kd.R_elder' (by (with_reducible repeat (first | apply Kd.R_alloc | apply Kd.R_drewN | apply Kd.R_drew)); exact HO_5.out) (Kd.R_base ho0) hb); have n1_ := Aside0.mk (Kd.R_elder' (by (with_reducible repeat (first | apply Kd.R_alloc | apply Kd.R_drewN | apply Kd.R_drew)); exact HO_7.out) (Kd.R_base ho0) hb); have n2_ := Aside0.mk (Kd.R_below (by (with_reducible repeat (first | apply Kd.R_alloc | apply Kd.R_drewN | apply Kd.R_drew)); exact HO330.out) hb); have n3_ := Aside0.mk (Kd.R_below (by (with_reducible repeat (first | apply Kd.R_alloc | apply Kd.R_drewN | apply Kd.R_drew)); exact HO330.out) hb); have n4_ := Aside0.mk (Kd.R_lower (Kd.R_new' (Kd.R_new' ho0 (Kd.R_lt (by (with_reducible repeat (first | apply Kd.R_alloc | apply Kd.R_drewN | apply Kd.R_drew)); exact HO_5.out))) (Kd.R_lt (by (with_reducible repeat (first | apply Kd.R_alloc | apply Kd.R_drewN | apply Kd.R_drew)); exact HO_7.out))) (below_size (by repeat (first | (with_reducible first | exact HB.out | apply below_alloc | apply pw_below_drewN | apply below_drew1) | exact HB.out)))); have n5_ := Aside0.mk (below_step (by repeat (first | (with_reducible first | exact HB.out | apply below_alloc | apply pw_below_drewN | apply below_drew1) | exact HB.out)) hb); clear HO_5; clear HO_7; clear HO330; clear HO330; clear HB; have HO_5 := n0_; have HO_7 := n1_; have HO330 := n2_; have HO330 := n3_; have HO338 := n4_; have HB := n5_; clear n0_ n1_ n2_ n3_ n4_ n5_; (try clear hb); (try clear hb2); (try clear hk); (try clear hi); (try clear ho0); obtain ⟨Ao89, co89, eo89⟩ := Kd.R_slice HO338.out; subst eo89; obtain ⟨Ao90, co90, eo90⟩ := Kd.R_slice HO_7.out; subst eo90) | (go_at_call 18; (with_reducible refine (weighhouselaw03_Ints.calls k3 _ _ t336 _ _ x7_3 false _ ?side1 ?side2 ?side3 ?side4 A52.out).mono ?_); (case side1 => repeat (first | exact (Kd.R_reads' HO338.out).2.2 | (with_reducible refine Kd.C_alloc ?_ _) | (with_reducible refine Kd.C_drewN ?_ _) | (with_reducible refine Kd.C_drew ?_))); (case side2 => exact (Kd.R_reads' HO338.out).2.1); (case side3 => repeat (first | exact (Kd.R_reads' HO_7.out).2.2 | (with_reducible refine Kd.C_alloc ?_ _) | (with_reducible refine Kd.C_drewN ?_ _) | (with_reducible refine Kd.C_drew ?_))); (case side4 => exact (Kd.R_reads' HO_7.out).2.1); rintro e w' ⟨rfl, ⟨nd, rfl⟩⟩; (try first | exact ⟨rfl, _, World.drewN_drewN _ _ _⟩ | exact ⟨rfl, _, Eq.trans (World.drewN_drewN _ _ _) (congrArg (World.drewN _) (Nat.add_assoc _ _ _))⟩))))
                            go_ret
                            exact ⟨by first | rfl | (simp [errW_none, errW_some] <;> rfl) | (simp [*, errW_none, errW_some] <;> rfl), by repeat (first | (with_reducible first | exact HB.out | apply below_alloc | apply pw_below_drewN | apply below_drew1) | exact HB.out)⟩
          · rw [if_neg c12] at H
            have c12b0 : ((t306.length : Int) == (l0.length : Int)) = false := beq_eq_false_iff_ne.mpr c12
            have c12b1 : ((t306.length : Int) != (l0.length : Int)) = true := bne_iff_ne.mpr c12
            have c12b2 : (t306.length == l0.length) = false := by first | simpa using c12 | (simp at c12 ⊢; omega)
            obtain rfl := Option.some.inj H
            go_wp2_with (first | (go_at_call 11; (with_reducible refine (weighhouselaw06_Own.calls _ _ l0 t303 _ ?side1 ?side2 A8.out).mono ?_); (case side1 => repeat (first | exact (Kd.C_below HR0.out HB.out) | (with_reducible refine Kd.C_alloc ?_ _) | (with_reducible refine Kd.C_drewN ?_ _) | (with_reducible refine Kd.C_drew ?_))); (case side2 => exact HC0.out); rintro e w91 ⟨v304, rfl, ho0, hb⟩; have n0_ := Aside0.mk (Kd.R_lower ho0 (below_size (by repeat (first | (with_reducible first | exact HB.out | apply below_alloc | apply pw_below_drewN | apply below_drew1) | exact HB.out)))); have n1_ := Aside0.mk (below_step (by repeat (first | (with_reducible first | exact HB.out | apply below_alloc | apply pw_below_drewN | apply below_drew1) | exact HB.out)) hb); clear HB; have HO305 := n0_; have HB := n1_; clear n0_ n1_; (try clear hb); (try clear hb2); (try clear hk); (try clear hi); (try clear ho0); obtain ⟨Ao92, co92, eo92⟩ := Kd.R_slice HO305.out; subst eo92) | (go_at_call 10; (with_reducible refine (shape_Match.calls _ _ t303 t306 t307 _ ?side1 ?side2 A9.out).mono ?_); (case side1 => repeat (first | exact (Kd.R_reads' HO305.out).2.2 | (with_reducible refine Kd.C_alloc ?_ _) | (with_reducible refine Kd.C_drewN ?_ _) | (with_reducible refine Kd.C_drew ?_))); (case side2 => exact (Kd.R_reads' HO305.out).2.1); rintro e w93 ⟨v308, rfl, ho0, hb⟩; have n0_ := Aside0.mk (Kd.R_below (by (with_reducible repeat (first | apply Kd.R_alloc | apply Kd.R_drewN | apply Kd.R_drew)); exact HO305.out) hb); have n1_ := Aside0.mk (Kd.R_lower ho0 (below_size (by repeat (first | (with_reducible first | exact HB.out | apply below_alloc | apply pw_below_drewN | apply below_drew1) | exact HB.out)))); have n2_ := Aside0.mk (below_step (by repeat (first | (with_reducible first | exact HB.out | apply below_alloc | apply pw_below_drewN | apply below_drew1) | exact HB.out)) hb); clear HO305; clear HB; have HO305 := n0_; have HO309 := n1_; have HB := n2_; clear n0_ n1_ n2_; (try clear hb); (try clear hb2); (try clear hk); (try clear hi); (try clear ho0)) | (go_at_call 12; (with_reducible refine (weighhouselaw06_num.calls t307 t310 _ A10.out).mono ?_); rintro e w' ⟨rfl, ⟨nd, rfl⟩⟩; (try first | exact ⟨rfl, _, World.drewN_drewN _ _ _⟩ | exact ⟨rfl, _, Eq.trans (World.drewN_drewN _ _ _) (congrArg (World.drewN _) (Nat.add_assoc _ _ _))⟩); obtain ⟨Ao94, co94, eo94⟩ := Kd.R_slice HO309.out; subst eo94))
            repeat (go_quiet (first | (go_at_call 11; (with_reducible refine (weighhouselaw06_Own.calls _ _ l0 t303 _ ?side1 ?side2 A8.out).mono ?_); (case side1 => repeat (first | exact (Kd.C_below HR0.out HB.out) | (with_reducible refine Kd.C_alloc ?_ _) | (with_reducible refine Kd.C_drewN ?_ _) | (with_reducible refine Kd.C_drew ?_))); (case side2 => exact HC0.out); rintro e w91 ⟨v304, rfl, ho0, hb⟩; have n0_ := Aside0.mk (Kd.R_lower ho0 (below_size (by repeat (first | (with_reducible first | exact HB.out | apply below_alloc | apply pw_below_drewN | apply below_drew1) | exact HB.out)))); have n1_ := Aside0.mk (below_step (by repeat (first | (with_reducible first | exact HB.out | apply below_alloc | apply pw_below_drewN | apply below_drew1) | exact HB.out)) hb); clear HB; have HO305 := n0_; have HB := n1_; clear n0_ n1_; (try clear hb); (try clear hb2); (try clear hk); (try clear hi); (try clear ho0); obtain ⟨Ao92, co92, eo92⟩ := Kd.R_slice HO305.out; subst eo92) | (go_at_call 10; (with_reducible refine (shape_Match.calls _ _ t303 t306 t307 _ ?side1 ?side2 A9.out).mono ?_); (case side1 => repeat (first | exact (Kd.R_reads' HO305.out).2.2 | (with_reducible refine Kd.C_alloc ?_ _) | (with_reducible refine Kd.C_drewN ?_ _) | (with_reducible refine Kd.C_drew ?_))); (case side2 => exact (Kd.R_reads' HO305.out).2.1); rintro e w93 ⟨v308, rfl, ho0, hb⟩; have n0_ := Aside0.mk (Kd.R_below (by (with_reducible repeat (first | apply Kd.R_alloc | apply Kd.R_drewN | apply Kd.R_drew)); exact HO305.out) hb); have n1_ := Aside0.mk (Kd.R_lower ho0 (below_size (by repeat (first | (with_reducible first | exact HB.out | apply below_alloc | apply pw_below_drewN | apply below_drew1) | exact HB.out)))); have n2_ := Aside0.mk (below_step (by repeat (first | (with_reducible first | exact HB.out | apply below_alloc | apply pw_below_drewN | apply below_drew1) | exact HB.out)) hb); clear HO305; clear HB; have HO305 := n0_; have HO309 := n1_; have HB := n2_; clear n0_ n1_ n2_; (try clear hb); (try clear hb2); (try clear hk); (try clear hi); (try clear ho0)) | (go_at_call 12; (with_reducible refine (weighhouselaw06_num.calls t307 t310 _ A10.out).mono ?_); rintro e w' ⟨rfl, ⟨nd, rfl⟩⟩; (try first | exact ⟨rfl, _, World.drewN_drewN _ _ _⟩ | exact ⟨rfl, _, Eq.trans (World.drewN_drewN _ _ _) (congrArg (World.drewN _) (Nat.add_assoc _ _ _))⟩); obtain ⟨Ao94, co94, eo94⟩ := Kd.R_slice HO309.out; subst eo94)); try go_wp2_with (first | (go_at_call 11; (with_reducible refine (weighhouselaw06_Own.calls _ _ l0 t303 _ ?side1 ?side2 A8.out).mono ?_); (case side1 => repeat (first | exact (Kd.C_below HR0.out HB.out) | (with_reducible refine Kd.C_alloc ?_ _) | (with_reducible refine Kd.C_drewN ?_ _) | (with_reducible refine Kd.C_drew ?_))); (case side2 => exact HC0.out); rintro e w91 ⟨v304, rfl, ho0, hb⟩; have n0_ := Aside0.mk (Kd.R_lower ho0 (below_size (by repeat (first | (with_reducible first | exact HB.out | apply below_alloc | apply pw_below_drewN | apply below_drew1) | exact HB.out)))); have n1_ := Aside0.mk (below_step (by repeat (first | (with_reducible first | exact HB.out | apply below_alloc | apply pw_below_drewN | apply below_drew1) | exact HB.out)) hb); clear HB; have HO305 := n0_; have HB := n1_; clear n0_ n1_; (try clear hb); (try clear hb2); (try clear hk); (try clear hi); (try clear ho0); obtain ⟨Ao92, co92, eo92⟩ := Kd.R_slice HO305.out; subst eo92) | (go_at_call 10; (with_reducible refine (shape_Match.calls _ _ t303 t306 t307 _ ?side1 ?side2 A9.out).mono ?_); (case side1 => repeat (first | exact (Kd.R_reads' HO305.out).2.2 | (with_reducible refine Kd.C_alloc ?_ _) | (with_reducible refine Kd.C_drewN ?_ _) | (with_reducible refine Kd.C_drew ?_))); (case side2 => exact (Kd.R_reads' HO305.out).2.1); rintro e w93 ⟨v308, rfl, ho0, hb⟩; have n0_ := Aside0.mk (Kd.R_below (by (with_reducible repeat (first | apply Kd.R_alloc | apply Kd.R_drewN | apply Kd.R_drew)); exact HO305.out) hb); have n1_ := Aside0.mk (Kd.R_lower ho0 (below_size (by repeat (first | (with_reducible first | exact HB.out | apply below_alloc | apply pw_below_drewN | apply below_drew1) | exact HB.out)))); have n2_ := Aside0.mk (below_step (by repeat (first | (with_reducible first | exact HB.out | apply below_alloc | apply pw_below_drewN | apply below_drew1) | exact HB.out)) hb); clear HO305; clear HB; have HO305 := n0_; have HO309 := n1_; have HB := n2_; clear n0_ n1_ n2_; (try clear hb); (try clear hb2); (try clear hk); (try clear hi); (try clear ho0)) | (go_at_call 12; (with_reducible refine (weighhouselaw06_num.calls t307 t310 _ A10.out).mono ?_); rintro e w' ⟨rfl, ⟨nd, rfl⟩⟩; (try first | exact ⟨rfl, _, World.drewN_drewN _ _ _⟩ | exact ⟨rfl, _, Eq.trans (World.drewN_drewN _ _ _) (congrArg (World.drewN _) (Nat.add_assoc _ _ _))⟩); obtain ⟨Ao94, co94, eo94⟩ := Kd.R_slice HO309.out; subst eo94)))
            go_ret
            exact ⟨by first | rfl | (simp [errW_none, errW_some] <;> rfl) | (simp [*, errW_none, errW_some] <;> rfl), by repeat (first | (with_reducible first | exact HB.out | apply below_alloc | apply pw_below_drewN | apply below_drew1) | exact HB.out)⟩
        · rw [if_neg c11] at H
          have c11b0 : (t310 == 0) = false := beq_eq_false_iff_ne.mpr c11
          have c11b1 : (t310 != 0) = true := bne_iff_ne.mpr c11
          replace H := Option.bind_eq_some_iff.mp H
          obtain ⟨t311, A950, H⟩ := H
          replace H : (some t311) = some r := H
          have A95 := Aside0.mk A950
          clear A950
          obtain rfl := Option.some.inj H
          go_wp2_with (first | (go_at_call 11; (with_reducible refine (weighhouselaw06_Own.calls _ _ l0 t303 _ ?side1 ?side2 A8.out).mono ?_); (case side1 => repeat (first | exact (Kd.C_below HR0.out HB.out) | (with_reducible refine Kd.C_alloc ?_ _) | (with_reducible refine Kd.C_drewN ?_ _) | (with_reducible refine Kd.C_drew ?_))); (case side2 => exact HC0.out); rintro e w96 ⟨v304, rfl, ho0, hb⟩; have n0_ := Aside0.mk (Kd.R_lower ho0 (below_size (by repeat (first | (with_reducible first | exact HB.out | apply below_alloc | apply pw_below_drewN | apply below_drew1) | exact HB.out)))); have n1_ := Aside0.mk (below_step (by repeat (first | (with_reducible first | exact HB.out | apply below_alloc | apply pw_below_drewN | apply below_drew1) | exact HB.out)) hb); clear HB; have HO305 := n0_; have HB := n1_; clear n0_ n1_; (try clear hb); (try clear hb2); (try clear hk); (try clear hi); (try clear ho0); obtain ⟨Ao97, co97, eo97⟩ := Kd.R_slice HO305.out; subst eo97) | (go_at_call 10; (with_reducible refine (shape_Match.calls _ _ t303 t306 t307 _ ?side1 ?side2 A9.out).mono ?_); (case side1 => repeat (first | exact (Kd.R_reads' HO305.out).2.2 | (with_reducible refine Kd.C_alloc ?_ _) | (with_reducible refine Kd.C_drewN ?_ _) | (with_reducible refine Kd.C_drew ?_))); (case side2 => exact (Kd.R_reads' HO305.out).2.1); rintro e w98 ⟨v308, rfl, ho0, hb⟩; have n0_ := Aside0.mk (Kd.R_below (by (with_reducible repeat (first | apply Kd.R_alloc | apply Kd.R_drewN | apply Kd.R_drew)); exact HO305.out) hb); have n1_ := Aside0.mk (Kd.R_lower ho0 (below_size (by repeat (first | (with_reducible first | exact HB.out | apply below_alloc | apply pw_below_drewN | apply below_drew1) | exact HB.out)))); have n2_ := Aside0.mk (below_step (by repeat (first | (with_reducible first | exact HB.out | apply below_alloc | apply pw_below_drewN | apply below_drew1) | exact HB.out)) hb); clear HO305; clear HB; have HO305 := n0_; have HO309 := n1_; have HB := n2_; clear n0_ n1_ n2_; (try clear hb); (try clear hb2); (try clear hk); (try clear hi); (try clear ho0)) | (go_at_call 12; (with_reducible refine (weighhouselaw06_num.calls t307 t310 _ A10.out).mono ?_); rintro e w' ⟨rfl, ⟨nd, rfl⟩⟩; (try first | exact ⟨rfl, _, World.drewN_drewN _ _ _⟩ | exact ⟨rfl, _, Eq.trans (World.drewN_drewN _ _ _) (congrArg (World.drewN _) (Nat.add_assoc _ _ _))⟩)) | (go_at_call 9; (with_reducible refine (weighhouselaw06_knows.calls kj2  t311 _ A95.out).mono ?_); rintro e w99 ⟨rfl, hb⟩; have n0_ := Aside0.mk (Kd.R_below (by (with_reducible repeat (first | apply Kd.R_alloc | apply Kd.R_drewN | apply Kd.R_drew)); exact HO305.out) hb); have n1_ := Aside0.mk (Kd.R_below (by (with_reducible repeat (first | apply Kd.R_alloc | apply Kd.R_drewN | apply Kd.R_drew)); exact HO309.out) hb); have n2_ := Aside0.mk (below_step (by repeat (first | (with_reducible first | exact HB.out | apply below_alloc | apply pw_below_drewN | apply below_drew1) | exact HB.out)) hb); clear HO305; clear HO309; clear HB; have HO305 := n0_; have HO309 := n1_; have HB := n2_; clear n0_ n1_ n2_; (try clear hb); (try clear hb2); (try clear hk); (try clear hi)))
          repeat (go_quiet (first | (go_at_call 11; (with_reducible refine (weighhouselaw06_Own.calls _ _ l0 t303 _ ?side1 ?side2 A8.out).mono ?_); (case side1 => repeat (first | exact (Kd.C_below HR0.out HB.out) | (with_reducible refine Kd.C_alloc ?_ _) | (with_reducible refine Kd.C_drewN ?_ _) | (with_reducible refine Kd.C_drew ?_))); (case side2 => exact HC0.out); rintro e w96 ⟨v304, rfl, ho0, hb⟩; have n0_ := Aside0.mk (Kd.R_lower ho0 (below_size (by repeat (first | (with_reducible first | exact HB.out | apply below_alloc | apply pw_below_drewN | apply below_drew1) | exact HB.out)))); have n1_ := Aside0.mk (below_step (by repeat (first | (with_reducible first | exact HB.out | apply below_alloc | apply pw_below_drewN | apply below_drew1) | exact HB.out)) hb); clear HB; have HO305 := n0_; have HB := n1_; clear n0_ n1_; (try clear hb); (try clear hb2); (try clear hk); (try clear hi); (try clear ho0); obtain ⟨Ao97, co97, eo97⟩ := Kd.R_slice HO305.out; subst eo97) | (go_at_call 10; (with_reducible refine (shape_Match.calls _ _ t303 t306 t307 _ ?side1 ?side2 A9.out).mono ?_); (case side1 => repeat (first | exact (Kd.R_reads' HO305.out).2.2 | (with_reducible refine Kd.C_alloc ?_ _) | (with_reducible refine Kd.C_drewN ?_ _) | (with_reducible refine Kd.C_drew ?_))); (case side2 => exact (Kd.R_reads' HO305.out).2.1); rintro e w98 ⟨v308, rfl, ho0, hb⟩; have n0_ := Aside0.mk (Kd.R_below (by (with_reducible repeat (first | apply Kd.R_alloc | apply Kd.R_drewN | apply Kd.R_drew)); exact HO305.out) hb); have n1_ := Aside0.mk (Kd.R_lower ho0 (below_size (by repeat (first | (with_reducible first | exact HB.out | apply below_alloc | apply pw_below_drewN | apply below_drew1) | exact HB.out)))); have n2_ := Aside0.mk (below_step (by repeat (first | (with_reducible first | exact HB.out | apply below_alloc | apply pw_below_drewN | apply below_drew1) | exact HB.out)) hb); clear HO305; clear HB; have HO305 := n0_; have HO309 := n1_; have HB := n2_; clear n0_ n1_ n2_; (try clear hb); (try clear hb2); (try clear hk); (try clear hi); (try clear ho0)) | (go_at_call 12; (with_reducible refine (weighhouselaw06_num.calls t307 t310 _ A10.out).mono ?_); rintro e w' ⟨rfl, ⟨nd, rfl⟩⟩; (try first | exact ⟨rfl, _, World.drewN_drewN _ _ _⟩ | exact ⟨rfl, _, Eq.trans (World.drewN_drewN _ _ _) (congrArg (World.drewN _) (Nat.add_assoc _ _ _))⟩)) | (go_at_call 9; (with_reducible refine (weighhouselaw06_knows.calls kj2  t311 _ A95.out).mono ?_); rintro e w99 ⟨rfl, hb⟩; have n0_ := Aside0.mk (Kd.R_below (by (with_reducible repeat (first | apply Kd.R_alloc | apply Kd.R_drewN | apply Kd.R_drew)); exact HO305.out) hb); have n1_ := Aside0.mk (Kd.R_below (by (with_reducible repeat (first | apply Kd.R_alloc | apply Kd.R_drewN | apply Kd.R_drew)); exact HO309.out) hb); have n2_ := Aside0.mk (below_step (by repeat (first | (with_reducible first | exact HB.out | apply below_alloc | apply pw_below_drewN | apply below_drew1) | exact HB.out)) hb); clear HO305; clear HO309; clear HB; have HO305 := n0_; have HO309 := n1_; have HB := n2_; clear n0_ n1_ n2_; (try clear hb); (try clear hb2); (try clear hk); (try clear hi))); try go_wp2_with (first | (go_at_call 11; (with_reducible refine (weighhouselaw06_Own.calls _ _ l0 t303 _ ?side1 ?side2 A8.out).mono ?_); (case side1 => repeat (first | exact (Kd.C_below HR0.out HB.out) | (with_reducible refine Kd.C_alloc ?_ _) | (with_reducible refine Kd.C_drewN ?_ _) | (with_reducible refine Kd.C_drew ?_))); (case side2 => exact HC0.out); rintro e w96 ⟨v304, rfl, ho0, hb⟩; have n0_ := Aside0.mk (Kd.R_lower ho0 (below_size (by repeat (first | (with_reducible first | exact HB.out | apply below_alloc | apply pw_below_drewN | apply below_drew1) | exact HB.out)))); have n1_ := Aside0.mk (below_step (by repeat (first | (with_reducible first | exact HB.out | apply below_alloc | apply pw_below_drewN | apply below_drew1) | exact HB.out)) hb); clear HB; have HO305 := n0_; have HB := n1_; clear n0_ n1_; (try clear hb); (try clear hb2); (try clear hk); (try clear hi); (try clear ho0); obtain ⟨Ao97, co97, eo97⟩ := Kd.R_slice HO305.out; subst eo97) | (go_at_call 10; (with_reducible refine (shape_Match.calls _ _ t303 t306 t307 _ ?side1 ?side2 A9.out).mono ?_); (case side1 => repeat (first | exact (Kd.R_reads' HO305.out).2.2 | (with_reducible refine Kd.C_alloc ?_ _) | (with_reducible refine Kd.C_drewN ?_ _) | (with_reducible refine Kd.C_drew ?_))); (case side2 => exact (Kd.R_reads' HO305.out).2.1); rintro e w98 ⟨v308, rfl, ho0, hb⟩; have n0_ := Aside0.mk (Kd.R_below (by (with_reducible repeat (first | apply Kd.R_alloc | apply Kd.R_drewN | apply Kd.R_drew)); exact HO305.out) hb); have n1_ := Aside0.mk (Kd.R_lower ho0 (below_size (by repeat (first | (with_reducible first | exact HB.out | apply below_alloc | apply pw_below_drewN | apply below_drew1) | exact HB.out)))); have n2_ := Aside0.mk (below_step (by repeat (first | (with_reducible first | exact HB.out | apply below_alloc | apply pw_below_drewN | apply below_drew1) | exact HB.out)) hb); clear HO305; clear HB; have HO305 := n0_; have HO309 := n1_; have HB := n2_; clear n0_ n1_ n2_; (try clear hb); (try clear hb2); (try clear hk); (try clear hi); (try clear ho0)) | (go_at_call 12; (with_reducible refine (weighhouselaw06_num.calls t307 t310 _ A10.out).mono ?_); rintro e w' ⟨rfl, ⟨nd, rfl⟩⟩; (try first | exact ⟨rfl, _, World.drewN_drewN _ _ _⟩ | exact ⟨rfl, _, Eq.trans (World.drewN_drewN _ _ _) (congrArg (World.drewN _) (Nat.add_assoc _ _ _))⟩)) | (go_at_call 9; (with_reducible refine (weighhouselaw06_knows.calls kj2  t311 _ A95.out).mono ?_); rintro e w99 ⟨rfl, hb⟩; have n0_ := Aside0.mk (Kd.R_below (by (with_reducible repeat (first | apply Kd.R_alloc | apply Kd.R_drewN | apply Kd.R_drew)); exact HO305.out) hb); have n1_ := Aside0.mk (Kd.R_below (by (with_reducible repeat (first | apply Kd.R_alloc | apply Kd.R_drewN | apply Kd.R_drew)); exact HO309.out) hb); have n2_ := Aside0.mk (below_step (by repeat (first | (with_reducible first | exact HB.out | apply below_alloc | apply pw_below_drewN | apply below_drew1) | exact HB.out)) hb); clear HO305; clear HO309; clear HB; have HO305 := n0_; have HO309 := n1_; have HB := n2_; clear n0_ n1_ n2_; (try clear hb); (try clear hb2); (try clear hk); (try clear hi))))
          go_ret
          exact ⟨by first | rfl | (simp [errW_none, errW_some] <;> rfl) | (simp [*, errW_none, errW_some] <;> rfl), by repeat (first | (with_reducible first | exact HB.out | apply below_alloc | apply pw_below_drewN | apply below_drew1) | exact HB.out)⟩

end Go.Proofs.Ytbdmbkmokhaflaa.Q
end

section
/- what the readings of the parameters of ShapeNest give -/
set_option linter.unusedVariables false
set_option linter.unusedSimpArgs false
namespace Go.Proofs.Ytbdmbkmokhaflaa.OpShapeNest
open Go.RowKit Go.Proofs.YtbdmbkmokhaflaaW.PrintWords Go.Proofs.YtbdmbkmokhaflaaW.Hb Go.Proofs.YtbdmbkmokhaflaaW.Ho Go.Proofs.Ytbdmbkmokhaflaa.Q

theorem opens_slice' {P : Program} {t : TypeId} {α : Type} {d : Kd α} {e B : Nat} {Q : α → Prop} (ht : P.underlying t = some (.slice e)) (hs : P.cellsOf e = d.sz) (hB : P.bytesOf e = B) (hp : Opens P d e Q) :
    Opens P (Kd.slice e d) t (fun xs => xs.length * B ≤ reachBytes ∧ xs.length ≤ maxLen ∧ ∀ x ∈ xs, Q x) := by
  subst hB
  exact opens_slice ht hs hp
def QS31 (x : S31) : Prop := ((Lit.int .i64 (x.f0)).wf = true) ∧ ((Lit.int .i64 (x.f1)).wf = true)
theorem open_S31 : Opens Try.prog k31 31 QS31 := by
  intro H enc w base spare held fuel cs x h hw
  obtain ⟨xs, n, _, hx, hl, hxl, hf⟩ := DataW.trod_struct Try.underlying31 h
  rw [show Try.prog.cellsOf 31 = 2 from by kernel_rfl] at hl
  obtain ⟨c0, c1, rfl⟩ : ∃ c0 c1, cs = [c0, c1] := by
    clear hf hx h
    match cs, hl with
    | [c0, c1], _ => exact ⟨c0, c1, rfl⟩
  obtain ⟨y0, y1, rfl⟩ : ∃ y0 y1, xs = [y0, y1] := by
    have hxl2 : xs.length = 2 := hxl
    clear hxl hf hx
    match xs, hxl2 with
    | [y0, y1], _ => exact ⟨y0, y1, rfl⟩
  subst hx
  have g0 : DataW.trod enc Try.prog w base spare held n 3 (([c0, c1].drop 0).take (Try.prog.cellsOf 3)) = some y0 := hf 0 _ rfl
  rw [show Try.prog.cellsOf 3 = 1 from by kernel_rfl] at g0
  replace g0 : DataW.trod enc Try.prog w base spare held n 3 [c0] = some y0 := g0
  obtain ⟨v0, K0, q0⟩ := (opens_int Try.underlying3) enc w base spare held n _ _ g0 (fun m hm => hw m (weights_field (j := 0) (tj := 3) Try.underlying31 rfl rfl m hm))
  have g1 : DataW.trod enc Try.prog w base spare held n 3 (([c0, c1].drop 1).take (Try.prog.cellsOf 3)) = some y1 := hf 1 _ rfl
  rw [show Try.prog.cellsOf 3 = 1 from by kernel_rfl] at g1
  replace g1 : DataW.trod enc Try.prog w base spare held n 3 [c1] = some y1 := g1
  obtain ⟨v1, K1, q1⟩ := (opens_int Try.underlying3) enc w base spare held n _ _ g1 (fun m hm => hw m (weights_field (j := 1) (tj := 3) Try.underlying31 rfl rfl m hm))
  exact ⟨⟨v0, v1⟩, ⟨[c0], [c1], rfl, K0, K1⟩, ⟨q0, q1⟩⟩
end Go.Proofs.Ytbdmbkmokhaflaa.OpShapeNest
end

section
/- the pure statement of ShapeNest -/
namespace Go.Proofs.Ytbdmbkmokhaflaa.PuShapeNest
open Go.RowKit Go.Proofs.YtbdmbkmokhaflaaW.PrintWords Go.Proofs.YtbdmbkmokhaflaaW.Hb Go.Proofs.YtbdmbkmokhaflaaW.Ho Go.Proofs.Ytbdmbkmokhaflaa.Q Go.Proofs.Ytbdmbkmokhaflaa.OpShapeNest
def Pure : Prop := ∀ (x0 : List (S31)) (x1 : Int), ((x0).length * 16 ≤ reachBytes ∧ (x0).length ≤ maxLen ∧ ∀ y ∈ (x0), QS31 (y)) → (Lit.int .i64 (x1)).wf = true → ∃ k, weighhouselaw06_ShapeNest.f k x0 x1 = some true
end Go.Proofs.Ytbdmbkmokhaflaa.PuShapeNest
end

section
/- layer 6, plain: what closes a block, read from its opener on; the scan with a stack -/
set_option linter.unusedVariables false
set_option linter.unusedSimpArgs false
namespace Go.Shape6

/-- Looking for the end of the block that a opens: running (how deep, its else), or over (its else, its end). -/
inductive CS where
  | run (d : Nat) (x : Int)
  | fin (x e : Int)
  deriving DecidableEq
def isOp (v : Int) : Bool := decide (v = 48) || decide (v = 51)
def clS (o : Nat → Int) (a i : Nat) : CS → CS
  | .fin x e => .fin x e
  | .run d x =>
    if isOp (o i) then .run (d + 1) x
    else if o i = 49 then (if d = 0 then (if 0 ≤ x ∨ o a ≠ 48 then .fin (-1) (-1) else .run 0 i) else .run d x)
    else if o i = 50 then (if d = 0 then .fin x i else .run (d - 1) x)
    else .run d x
/-- Ahead of instruction i. -/
def cl (o : Nat → Int) (a : Nat) : Nat → CS
  | 0 => .run 0 (-1)
  | i + 1 => if i ≤ a then .run 0 (-1) else clS o a i (cl o a i)
theorem cl_start (o : Nat → Int) (a : Nat) : cl o a (a + 1) = .run 0 (-1) := by simp [cl]
theorem cl_succ (o : Nat → Int) (a i : Nat) (h : a < i) : cl o a (i + 1) = clS o a i (cl o a i) := by
  rw [cl, if_neg (by omega)]
theorem cl_fin_mono {o : Nat → Int} {a i j : Nat} {x e : Int} (h : cl o a i = .fin x e) (ha : a < i) (hij : i ≤ j) : cl o a j = .fin x e := by
  induction j with
  | zero => omega
  | succ j ih =>
    rcases Nat.lt_or_ge i (j + 1) with hlt | hge
    · rw [cl_succ o a j (by omega), ih (by omega)]
      rfl
    · obtain rfl : i = j + 1 := by omega
      exact h
/-- What holds while it runs, and when it is over. -/
def clOk (o : Nat → Int) (a i : Nat) : CS → Prop
  | .run d x => x = -1 ∨ ((a : Int) < x ∧ x < i ∧ o x.toNat = 49 ∧ o a = 48)
  | .fin x e => (x = -1 ∧ e = -1) ∨ ((a : Int) < e ∧ e < i ∧ o e.toNat = 50 ∧ (x = -1 ∨ ((a : Int) < x ∧ x < e ∧ o x.toNat = 49 ∧ o a = 48)))
theorem cl_ok (o : Nat → Int) (a i : Nat) (h : a < i) : clOk o a i (cl o a i) := by
  induction i with
  | zero => omega
  | succ i ih =>
    by_cases hai : a < i
    · rw [cl_succ o a i hai]
      have h := ih hai
      cases hc : cl o a i with
      | fin x e =>
        rw [hc] at h
        simp only [clS, clOk] at h ⊢
        rcases h with h | ⟨h1, h2, h3, h4⟩
        · exact .inl h
        · exact .inr ⟨h1, by omega, h3, h4⟩
      | run d x =>
        rw [hc] at h
        simp only [clOk] at h
        have hx : x = -1 ∨ ((a : Int) < x ∧ x < (i + 1 : Nat) ∧ o x.toNat = 49 ∧ o a = 48) := by
          rcases h with h | ⟨h1, h2, h3⟩
          · exact .inl h
          · exact .inr ⟨h1, by omega, h3⟩
        unfold clS
        dsimp only
        split
        · exact hx
        · split
          · split
            · split
              · exact .inl ⟨rfl, rfl⟩
              · rename_i h49 _ hn
                refine .inr ⟨by omega, by omega, by simpa using h49, ?_⟩
                have : ¬ o a ≠ 48 := fun hh => hn (.inr hh)
                omega
            · exact hx
          · split
            · split
              · rename_i h50 _
                refine .inr ⟨by omega, by omega, by simpa using h50, ?_⟩
                rcases h with h | ⟨h1, h2, h3⟩
                · exact .inl h
                · exact .inr ⟨h1, h2, h3⟩
              · exact hx
            · exact hx
    · obtain rfl : i = a := by omega
      rw [cl_start]
      exact .inl rfl
/-- Of two that run, the inner one runs less deep. -/
theorem cl_nest {o : Nat → Int} {a b i : Nat} {d d' : Nat} {x x' : Int} (hab : a < b) (hbi : b < i) (hb : isOp (o b) = true)
    (h : cl o a i = .run d x) (h' : cl o b i = .run d' x') : d' < d := by
  induction i generalizing d d' x x' with
  | zero => omega
  | succ i ih =>
    rw [cl_succ o a i (by omega)] at h
    by_cases hbi' : b < i
    · rw [cl_succ o b i hbi'] at h'
      cases hc : cl o a i with
      | fin _ _ => rw [hc] at h; cases h
      | run e y =>
        cases hc' : cl o b i with
        | fin _ _ => rw [hc'] at h'; cases h'
        | run e' y' =>
          have hi := ih hbi' hc hc'
          rw [hc] at h
          rw [hc'] at h'
          unfold clS at h h'
          dsimp only at h h'
          split at h
          · rename_i ho
            rw [if_pos ho] at h'
            cases h; cases h'
            omega
          · rename_i ho
            rw [if_neg ho] at h'
            split at h
            · rename_i h9
              rw [if_pos h9] at h'
              rw [if_neg (by omega)] at h
              cases h
              split at h'
              · split at h'
                · cases h'
                · cases h'
                  omega
              · cases h'
                omega
            · rename_i h9
              rw [if_neg h9] at h'
              split at h
              · rename_i h0
                rw [if_pos h0] at h'
                rw [if_neg (by omega)] at h
                cases h
                split at h'
                · cases h'
                · cases h'
                  omega
              · rename_i h0
                rw [if_neg h0] at h'
                cases h; cases h'
                omega
    · obtain rfl : b = i := by omega
      rw [cl_start] at h'
      cases h'
      cases hc : cl o a b with
      | fin _ _ => rw [hc] at h; cases h
      | run e y =>
        rw [hc] at h
        unfold clS at h
        dsimp only at h
        rw [if_pos hb] at h
        cases h
        omega
/-- An outer block is not over while an inner one runs: if a is over (with a true end) ahead of i and b > a runs at i, then b was opened behind a's end. -/
theorem cl_over {o : Nat → Int} {a b i : Nat} {d' : Nat} {x e x' : Int} (hab : a < b) (hbi : b < i) (hb : isOp (o b) = true)
    (h : cl o a i = .fin x e) (h' : cl o b i = .run d' x') : cl o a (b + 1) = .fin x e := by
  induction i generalizing d' x' with
  | zero => omega
  | succ i ih =>
    by_cases hbi' : b < i
    · rw [cl_succ o b i hbi'] at h'
      cases hc' : cl o b i with
      | fin _ _ => rw [hc'] at h'; cases h'
      | run e' y' =>
        rw [cl_succ o a i (by omega)] at h
        cases hc : cl o a i with
        | fin _ _ =>
          rw [hc] at h
          cases h
          exact ih hbi' hc hc'
        | run d y =>
          have hn := cl_nest hab hbi' hb hc hc'
          rw [hc] at h
          unfold clS at h
          dsimp only at h
          split at h
          · cases h
          · split at h
            · rw [if_neg (by omega)] at h
              cases h
            · split at h
              · rw [if_neg (by omega)] at h
                cases h
              · cases h
    · obtain rfl : b = i := by omega
      exact h
end Go.Shape6
end

section
/- layer 6: what the stack of the scan says of the closing of blocks -/
set_option linter.unusedVariables false
set_option linter.unusedSimpArgs false
namespace Go.Proofs.Ytbdmbkmokhaflaa.Th
open Go.Shape6 Go.Proofs.Ytbdmbkmokhaflaa.Q

structure L1 (o : Nat → Int) (i : Nat) (g : List (Nat × Int)) : Prop where
  fr : ∀ (j a : Nat) (x : Int), g[j]? = some (a, x) → a < i ∧ isOp (o a) = true ∧ cl o a i = .run (g.length - 1 - j) x
  up : ∀ (j j' a : Nat) (x : Int) (a' : Nat) (x' : Int), j < j' → g[j]? = some (a, x) → g[j']? = some (a', x') → a < a'
  cl_ : ∀ a, a < i → isOp (o a) = true → (∀ (j : Nat) (x : Int), g[j]? ≠ some (a, x)) → ∃ x e, cl o a i = .fin x e ∧ 0 ≤ e
  el : ∀ k : Nat, k < i → o k = 49 → ∃ a, a < k ∧ isOp (o a) = true ∧ ((∃ d, cl o a i = .run d k) ∨ ∃ e, cl o a i = .fin k e ∧ 0 ≤ e)
  en : ∀ k : Nat, k < i → o k = 50 → ∃ a, a < k ∧ isOp (o a) = true ∧ ∃ x, cl o a i = .fin x k
theorem isOp_iff {v : Int} : isOp v = true ↔ v = 48 ∨ v = 51 := by simp [isOp]
theorem isOp_not {v : Int} (h : ¬ (v = 48 ∨ v = 51)) : isOp v = false := by
  cases he : isOp v
  · rfl
  · exact absurd (isOp_iff.1 he) h
variable {o : Nat → Int} {i : Nat} {g : List (Nat × Int)}
theorem lt_of_get {α : Type} {l : List α} {j : Nat} {v : α} (h : l[j]? = some v) : j < l.length := by
  rcases Nat.lt_or_ge j l.length with hl | hl
  · exact hl
  · rw [List.getElem?_eq_none hl] at h
    cases h
/-- An opener that runs is on the stack. -/
theorem L1.run_ (h : L1 o i g) {a d : Nat} {x : Int} (ha : a < i) (ho : isOp (o a) = true) (hc : cl o a i = .run d x) : ∃ j, g[j]? = some (a, x) ∧ d = g.length - 1 - j := by
  by_cases hn : ∃ (j : Nat) (y : Int), g[j]? = some (a, y)
  · obtain ⟨j, y, hj⟩ := hn
    have h1 := (h.fr j a y hj).2.2
    rw [hc] at h1
    injection h1 with h2 h3
    exact ⟨j, by rw [hj, h3], h2⟩
  · obtain ⟨y, e, h1, _⟩ := h.cl_ a ha ho (fun j y hj => hn ⟨j, y, hj⟩)
    rw [hc] at h1
    cases h1
theorem L1.fin_ {a : Nat} {x e : Int} (ha : a < i) (hc : cl o a i = .fin x e) : cl o a (i + 1) = .fin x e := cl_fin_mono hc ha (Nat.le_succ i)
theorem L1.start (o : Nat → Int) : L1 o 0 [] := ⟨fun j a x h => by simp at h, fun j j' a x a' x' _ h => by simp at h, fun a h => absurd h (Nat.not_lt_zero a), fun k h => absurd h (Nat.not_lt_zero k), fun k h => absurd h (Nat.not_lt_zero k)⟩
theorem L1.push (h : L1 o i g) (ho : isOp (o i) = true) : L1 o (i + 1) (g ++ [(i, -1)]) := by
  have hs : ∀ {a d : Nat} {x : Int}, a < i → cl o a i = .run d x → cl o a (i + 1) = .run (d + 1) x := by
    intro a d x ha hc
    rw [cl_succ o a i ha, hc]
    unfold clS
    dsimp only
    rw [if_pos ho]
  have hb := isOp_iff.1 ho
  refine ⟨fun j a x hj => ?_, fun j j' a x a' x' hjj hj hj' => ?_, fun a ha hoa hn => ?_, fun k hk hk9 => ?_, fun k hk hk0 => ?_⟩
  · rw [List.getElem?_append] at hj
    split at hj
    · rename_i hl
      obtain ⟨h1, h2, h3⟩ := h.fr j a x hj
      refine ⟨by omega, h2, ?_⟩
      rw [hs h1 h3]
      congr 1
      simp
      omega
    · rename_i hl
      have h0 := lt_of_get hj
      simp at h0
      have e0 : j - g.length = 0 := by omega
      rw [e0] at hj
      simp at hj
      obtain ⟨rfl, rfl⟩ := hj
      refine ⟨by omega, ho, ?_⟩
      rw [cl_start]
      congr 1
      simp
      omega
  · rw [List.getElem?_append] at hj hj'
    split at hj'
    · rename_i hl
      rw [if_pos (by omega)] at hj
      exact h.up j j' a x a' x' hjj hj hj'
    · rename_i hl
      have h0 := lt_of_get hj'
      simp at h0
      rw [if_pos (by omega)] at hj
      have e0 : j' - g.length = 0 := by omega
      rw [e0] at hj'
      simp at hj'
      obtain ⟨rfl, rfl⟩ := hj'
      exact (h.fr j a x hj).1
  · by_cases hai : a = i
    · subst hai
      exact absurd (by simp) (hn g.length (-1))
    · obtain ⟨x, e, h1, h2⟩ := h.cl_ a (by omega) hoa (fun j x hj => hn j x (by rw [List.getElem?_append_left (lt_of_get hj)]; exact hj))
      exact ⟨x, e, L1.fin_ (by omega) h1, h2⟩
  · by_cases hki : k = i
    · subst hki
      omega
    · obtain ⟨a, h1, h2, h3⟩ := h.el k (by omega) hk9
      refine ⟨a, h1, h2, ?_⟩
      rcases h3 with ⟨d, h3⟩ | ⟨e, h3, h4⟩
      · exact .inl ⟨_, hs (by omega) h3⟩
      · exact .inr ⟨e, L1.fin_ (by omega) h3, h4⟩
  · by_cases hki : k = i
    · subst hki
      omega
    · obtain ⟨a, h1, h2, x, h3⟩ := h.en k (by omega) hk0
      exact ⟨a, h1, h2, x, L1.fin_ (by omega) h3⟩
theorem L1.skip (h : L1 o i g) (h1 : isOp (o i) = false) (h2 : o i ≠ 49) (h3 : o i ≠ 50) : L1 o (i + 1) g := by
  have hs : ∀ {a : Nat} {c : CS}, a < i → cl o a i = c → cl o a (i + 1) = c := by
    intro a c ha hc
    rw [cl_succ o a i ha, hc]
    unfold clS
    cases c
    · dsimp only
      rw [h1, if_neg (by decide), if_neg h2, if_neg h3]
    · rfl
  refine ⟨fun j a x hj => ?_, h.up, fun a ha hoa hn => ?_, fun k hk hk9 => ?_, fun k hk hk0 => ?_⟩
  · obtain ⟨a1, a2, a3⟩ := h.fr j a x hj
    exact ⟨by omega, a2, hs a1 a3⟩
  · by_cases hai : a = i
    · subst hai
      rw [h1] at hoa
      cases hoa
    · obtain ⟨x, e, b1, b2⟩ := h.cl_ a (by omega) hoa hn
      exact ⟨x, e, hs (by omega) b1, b2⟩
  · by_cases hki : k = i
    · subst hki
      exact absurd hk9 h2
    · obtain ⟨a, b1, b2, b3⟩ := h.el k (by omega) hk9
      refine ⟨a, b1, b2, ?_⟩
      rcases b3 with ⟨d, b3⟩ | ⟨e, b3, b4⟩
      · exact .inl ⟨_, hs (by omega) b3⟩
      · exact .inr ⟨e, hs (by omega) b3, b4⟩
  · by_cases hki : k = i
    · subst hki
      exact absurd hk0 h3
    · obtain ⟨a, b1, b2, x, b3⟩ := h.en k (by omega) hk0
      exact ⟨a, b1, b2, x, hs (by omega) b3⟩
theorem L1.else_ (h : L1 o i g) (h9 : o i = 49) {k0 a0 : Nat} {x0 : Int} (hk : g.length = k0 + 1) (hg : g[k0]? = some (a0, x0)) (hx : ¬ 0 ≤ x0) (ho : o a0 = 48) : L1 o (i + 1) (g.set k0 (a0, (i : Int))) := by
  have hni : isOp (o i) = false := isOp_not (by omega)
  have hdeep : ∀ {a d : Nat} {x : Int}, a < i → cl o a i = .run (d + 1) x → cl o a (i + 1) = .run (d + 1) x := by
    intro a d x ha hc
    rw [cl_succ o a i ha, hc]
    unfold clS
    dsimp only
    rw [hni, if_neg (by decide), if_pos h9, if_neg (by omega)]
  obtain ⟨t1, t2, t3⟩ := h.fr k0 a0 x0 hg
  have htop : cl o a0 (i + 1) = .run 0 i := by
    rw [cl_succ o a0 i t1, t3, hk, show k0 + 1 - 1 - k0 = 0 by omega]
    unfold clS
    dsimp only
    rw [hni, if_neg (by decide), if_pos h9, if_pos rfl, if_neg (by omega)]
  have hlow : ∀ {j a : Nat} {x : Int}, j ≠ k0 → g[j]? = some (a, x) → a < i ∧ cl o a (i + 1) = .run (g.length - 1 - j) x := by
    intro j a x hj hgj
    have hl := lt_of_get hgj
    obtain ⟨b1, b2, b3⟩ := h.fr j a x hgj
    obtain ⟨d, hd⟩ : ∃ d, g.length - 1 - j = d + 1 := ⟨g.length - 2 - j, by omega⟩
    rw [hd] at b3 ⊢
    exact ⟨b1, hdeep b1 b3⟩
  refine ⟨fun j a x hj => ?_, fun j j' a x a' x' hjj hj hj' => ?_, fun a ha hoa hn => ?_, fun k hk' hk9 => ?_, fun k hk' hk0 => ?_⟩
  · rw [List.length_set]
    by_cases hjk : j = k0
    · subst hjk
      rw [List.getElem?_set_self (by omega)] at hj
      cases hj
      refine ⟨by omega, t2, ?_⟩
      rw [htop, hk, show j + 1 - 1 - j = 0 by omega]
    · rw [List.getElem?_set_ne (fun e => hjk e.symm)] at hj
      obtain ⟨b1, b2⟩ := hlow hjk hj
      exact ⟨by omega, (h.fr j a x hj).2.1, b2⟩
  · have hx1 : ∃ y, g[j]? = some (a, y) := by
      by_cases hjk : j = k0
      · subst hjk
        rw [List.getElem?_set_self (by omega)] at hj
        cases hj
        exact ⟨_, hg⟩
      · rw [List.getElem?_set_ne (fun e => hjk e.symm)] at hj
        exact ⟨_, hj⟩
    have hx2 : ∃ y, g[j']? = some (a', y) := by
      by_cases hjk : j' = k0
      · subst hjk
        rw [List.getElem?_set_self (by omega)] at hj'
        cases hj'
        exact ⟨_, hg⟩
      · rw [List.getElem?_set_ne (fun e => hjk e.symm)] at hj'
        exact ⟨_, hj'⟩
    obtain ⟨y, hy⟩ := hx1
    obtain ⟨y', hy'⟩ := hx2
    exact h.up j j' a y a' y' hjj hy hy'
  · by_cases hai : a = i
    · subst hai
      rw [hni] at hoa
      cases hoa
    · obtain ⟨x, e, b1, b2⟩ := h.cl_ a (by omega) hoa (fun j x hj => by
        by_cases hjk : j = k0
        · subst hjk
          rw [hg] at hj
          cases hj
          exact hn j i (by rw [List.getElem?_set_self (by omega)])
        · exact hn j x (by rw [List.getElem?_set_ne (fun e => hjk e.symm)]; exact hj))
      exact ⟨x, e, L1.fin_ (by omega) b1, b2⟩
  · by_cases hki : k = i
    · subst hki
      exact ⟨a0, t1, t2, .inl ⟨0, htop⟩⟩
    · obtain ⟨a, b1, b2, b3⟩ := h.el k (by omega) hk9
      refine ⟨a, b1, b2, ?_⟩
      rcases b3 with ⟨d, b3⟩ | ⟨e, b3, b4⟩
      · obtain ⟨j, hj, hd⟩ := h.run_ (by omega) b2 b3
        by_cases hjk : j = k0
        · subst hjk
          rw [hg] at hj
          cases hj
          omega
        · exact .inl ⟨_, (hlow hjk hj).2⟩
      · exact .inr ⟨e, L1.fin_ (by omega) b3, b4⟩
  · by_cases hki : k = i
    · subst hki
      omega
    · obtain ⟨a, b1, b2, x, b3⟩ := h.en k (by omega) hk0
      exact ⟨a, b1, b2, x, L1.fin_ (by omega) b3⟩
theorem L1.end_ (h : L1 o i g) (h0 : o i = 50) {k0 a0 : Nat} {x0 : Int} (hk : g.length = k0 + 1) (hg : g[k0]? = some (a0, x0)) : L1 o (i + 1) (g.take k0) ∧ cl o a0 (i + 1) = .fin x0 i := by
  have hni : isOp (o i) = false := isOp_not (by omega)
  have hdeep : ∀ {a d : Nat} {x : Int}, a < i → cl o a i = .run (d + 1) x → cl o a (i + 1) = .run d x := by
    intro a d x ha hc
    rw [cl_succ o a i ha, hc]
    unfold clS
    dsimp only
    rw [hni, if_neg (by decide), if_neg (by omega), if_pos h0, if_neg (by omega)]
    rfl
  obtain ⟨t1, t2, t3⟩ := h.fr k0 a0 x0 hg
  have htop : cl o a0 (i + 1) = .fin x0 i := by
    rw [cl_succ o a0 i t1, t3, hk, show k0 + 1 - 1 - k0 = 0 by omega]
    unfold clS
    dsimp only
    rw [hni, if_neg (by decide), if_neg (by omega), if_pos h0, if_pos rfl]
  have htk : ∀ {j : Nat} {v : Nat × Int}, (g.take k0)[j]? = some v ↔ j < k0 ∧ g[j]? = some v := by
    intro j v
    rw [List.getElem?_take]
    split
    · rename_i hl
      exact ⟨fun h => ⟨hl, h⟩, fun h => h.2⟩
    · rename_i hl
      exact ⟨fun h => (by cases h), fun h => absurd h.1 hl⟩
  have hlen : (g.take k0).length = k0 := by rw [List.length_take]; omega
  refine ⟨⟨fun j a x hj => ?_, fun j j' a x a' x' hjj hj hj' => h.up j j' a x a' x' hjj (htk.1 hj).2 (htk.1 hj').2, fun a ha hoa hn => ?_, fun k hk' hk9 => ?_, fun k hk' hk0 => ?_⟩, htop⟩
  · obtain ⟨hjl, hj⟩ := htk.1 hj
    obtain ⟨b1, b2, b3⟩ := h.fr j a x hj
    rw [hlen]
    refine ⟨by omega, b2, ?_⟩
    rw [show g.length - 1 - j = (k0 - 1 - j) + 1 by omega] at b3
    exact hdeep b1 b3
  · by_cases hai : a = i
    · subst hai
      rw [hni] at hoa
      cases hoa
    · by_cases ha0 : a = a0
      · subst ha0
        exact ⟨x0, i, htop, by omega⟩
      · obtain ⟨x, e, b1, b2⟩ := h.cl_ a (by omega) hoa (fun j x hj => by
          have hl := lt_of_get hj
          by_cases hjk : j = k0
          · subst hjk
            rw [hg] at hj
            cases hj
            exact ha0 rfl
          · exact hn j x (htk.2 ⟨by omega, hj⟩))
        exact ⟨x, e, L1.fin_ (by omega) b1, b2⟩
  · by_cases hki : k = i
    · subst hki
      omega
    · obtain ⟨a, b1, b2, b3⟩ := h.el k (by omega) hk9
      refine ⟨a, b1, b2, ?_⟩
      rcases b3 with ⟨d, b3⟩ | ⟨e, b3, b4⟩
      · cases d with
        | zero =>
          obtain ⟨j, hj, hd⟩ := h.run_ (by omega) b2 b3
          have hl := lt_of_get hj
          have hjk : j = k0 := by omega
          subst hjk
          rw [hg] at hj
          cases hj
          exact .inr ⟨i, htop, by omega⟩
        | succ d => exact .inl ⟨d, hdeep (by omega) b3⟩
      · exact .inr ⟨e, L1.fin_ (by omega) b3, b4⟩
  · by_cases hki : k = i
    · subst hki
      exact ⟨a0, t1, t2, x0, htop⟩
    · obtain ⟨a, b1, b2, x, b3⟩ := h.en k (by omega) hk0
      exact ⟨a, b1, b2, x, L1.fin_ (by omega) b3⟩
end Go.Proofs.Ytbdmbkmokhaflaa.Th
end

section
/- layer 6: the scan, read: the stack, and where instructions lead -/
set_option linter.unusedVariables false
set_option linter.unusedSimpArgs false
namespace Go.Proofs.Ytbdmbkmokhaflaa.Th
open Go.Shape6 Go.Proofs.Ytbdmbkmokhaflaa.Q

def pr (b : Fr) : Nat × Int := (b.a, b.o)
abbrev opc (cs : List Ins) : Nat → Int := Q.opAt cs
/-- The loop that a Leave at k leaves. -/
def Tgt (cs : List Ins) (k a : Nat) : Prop := ∃ m0 fs0 j b, scanTo cs k = some (m0, fs0) ∧ topLoop cs (fs0.map Fr.a) = some j ∧ fs0[j]? = some b ∧ b.a = a
theorem Tgt.det {cs : List Ins} {k a a' : Nat} (h : Tgt cs k a) (h' : Tgt cs k a') : a = a' := by
  obtain ⟨m, fs, j, b, h1, h2, h3, h4⟩ := h
  obtain ⟨m', fs', j', b', h1', h2', h3', h4'⟩ := h'
  rw [h1] at h1'
  cases h1'
  rw [h2] at h2'
  cases h2'
  rw [h3] at h3'
  cases h3'
  rw [← h4, ← h4']
theorem last_get {α : Type} {l : List α} {b : α} (h : l.getLast? = some b) : ∃ k, l.length = k + 1 ∧ l[k]? = some b := by
  rw [List.getLast?_eq_getElem?] at h
  have := lt_of_get h
  exact ⟨l.length - 1, by omega, h⟩
theorem map_set_same {fs : List Fr} {j : Nat} {b b' : Fr} (h : fs[j]? = some b) (he : pr b' = pr b) : (fs.set j b').map pr = fs.map pr := by
  apply List.ext_getElem?
  intro q
  rw [List.getElem?_map, List.getElem?_map, List.getElem?_set]
  split
  · rename_i e
    subst e
    rw [if_pos (lt_of_get h), h]
    simp [he]
  · rfl
theorem setAll_get (m l : List Int) (x : Int) (k : Nat) (h0 : ∀ q ∈ l, 0 ≤ q) : (setAll m l x)[k]? = if (k : Int) ∈ l ∧ k < m.length then some x else m[k]? := by
  unfold setAll
  induction l generalizing m with
  | nil => simp
  | cons q l ih =>
    rw [List.foldl_cons, ih _ (fun y hy => h0 y (List.mem_cons_of_mem _ hy)), List.length_set, List.getElem?_set]
    have hq := h0 q (List.mem_cons_self ..)
    by_cases h1 : (k : Int) ∈ l ∧ k < m.length
    · rw [if_pos h1, if_pos ⟨List.mem_cons_of_mem _ h1.1, h1.2⟩]
    · rw [if_neg h1]
      by_cases h2 : q.toNat = k
      · rw [if_pos h2]
        by_cases h3 : k < m.length
        · rw [if_pos (by omega), if_pos ⟨by rw [List.mem_cons]; exact .inl (by omega), h3⟩]
        · rw [if_neg (by omega), if_neg (fun h => h3 h.2), List.getElem?_eq_none (by omega)]
      · rw [if_neg h2, if_neg]
        rintro ⟨h3, h4⟩
        rcases List.mem_cons.1 h3 with h3 | h3
        · omega
        · exact h1 ⟨h3, h4⟩
/-- Where the else of a block was read, it was read at depth 0. -/
theorem cl_else {o : Nat → Int} {a i : Nat} (ha : a < i) : (∀ d (x : Nat), cl o a i = .run d x → a < x ∧ x < i ∧ cl o a x = .run 0 (-1)) ∧ (∀ (x : Nat) (e : Int), 0 ≤ e → cl o a i = .fin x e → a < x ∧ x < i ∧ cl o a x = .run 0 (-1)) := by
  induction i with
  | zero => omega
  | succ i ih =>
    by_cases hai : a < i
    · obtain ⟨ih1, ih2⟩ := ih hai
      have hok := cl_ok o a i hai
      rw [cl_succ o a i hai]
      cases hc : cl o a i with
      | fin x e =>
        refine ⟨fun d x' h => (by cases h), fun x' e' he' h => ?_⟩
        cases h
        obtain ⟨h1, h2, h3⟩ := ih2 _ _ he' hc
        exact ⟨h1, by omega, h3⟩
      | run d x =>
        rw [hc] at hok
        have ih1' : ∀ x' : Nat, x = x' → a < x' ∧ x' < i + 1 ∧ cl o a x' = .run 0 (-1) := by
          intro x' hx
          subst hx
          obtain ⟨h1, h2, h3⟩ := ih1 d x' hc
          exact ⟨h1, by omega, h3⟩
        unfold clS
        dsimp only
        constructor
        · intro d' x' h
          split at h
          · cases h
            exact ih1' x' rfl
          · split at h
            · split at h
              · split at h
                · cases h
                · rename_i hd hx
                  have hxm : x = -1 := by
                    rcases hok with h5 | h5
                    · exact h5
                    · omega
                  cases h
                  exact ⟨hai, by omega, by rw [hc, hd, hxm]⟩
              · cases h
                exact ih1' x' rfl
            · split at h
              · split at h
                · cases h
                · cases h
                  exact ih1' x' rfl
              · cases h
                exact ih1' x' rfl
        · intro x' e' he' h
          split at h
          · cases h
          · split at h
            · split at h
              · split at h
                · cases h
                · cases h
              · cases h
            · split at h
              · split at h
                · cases h
                  exact ih1' x' rfl
                · cases h
              · cases h
    · obtain rfl : a = i := by omega
      rw [cl_start]
      exact ⟨fun d x h => (by injection h with h1 h2; omega), fun x e _ h => (by cases h)⟩
/-- Ahead of its end a block ran at depth 0. -/
theorem cl_end {o : Nat → Int} {a i : Nat} (ha : a < i) (x : Int) (e : Nat) (h : cl o a i = .fin x e) : a < e ∧ e < i ∧ cl o a e = .run 0 x := by
  induction i with
  | zero => omega
  | succ i ih =>
    by_cases hai : a < i
    · rw [cl_succ o a i hai] at h
      cases hc : cl o a i with
      | fin y z =>
        rw [hc] at h
        cases h
        obtain ⟨h1, h2, h3⟩ := ih hai hc
        exact ⟨h1, by omega, h3⟩
      | run d y =>
        rw [hc] at h
        unfold clS at h
        dsimp only at h
        split at h
        · cases h
        · split at h
          · split at h
            · split at h
              · injection h with h1 h2
                omega
              · cases h
            · cases h
          · split at h
            · split at h
              · rename_i hd
                injection h with h1 h2
                have : i = e := by omega
                subst this
                exact ⟨hai, by omega, by rw [hc, hd, h1]⟩
              · cases h
            · cases h
    · obtain rfl : a = i := by omega
      rw [cl_start] at h
      cases h
theorem run0_inj {o : Nat → Int} {a b k : Nat} {x y : Int} (hoa : isOp (o a) = true) (hob : isOp (o b) = true) (ha : a < k) (hb : b < k) (h1 : cl o a k = .run 0 x) (h2 : cl o b k = .run 0 y) : a = b := by
  rcases Nat.lt_trichotomy a b with h | h | h
  · have := cl_nest h hb hob h1 h2
    omega
  · exact h
  · have := cl_nest h ha hoa h2 h1
    omega
theorem scan_L1 {cs : List Ins} {i : Nat} {m : List Int} {fs : List Fr} (h : scanTo cs i = some (m, fs)) : L1 (opc cs) i (fs.map pr) := by
  induction i generalizing m fs with
  | zero =>
    cases h
    exact L1.start _
  | succ i ih =>
    obtain ⟨⟨m1, fs1⟩, h1, h2⟩ := Option.bind_eq_some_iff.1 h
    have hL := ih h1
    have h2 : scanStep cs i m1 fs1 = some (m, fs) := h2
    unfold scanStep at h2
    split at h2
    · rename_i ho
      split at h2
      · cases h2
        have := hL.push (isOp_iff.2 ho)
        rw [List.map_append]
        exact this
      · cases h2
    · rename_i ho
      split at h2
      · rename_i h9
        split at h2
        · cases h2
        · rename_i b hb
          split at h2
          · cases h2
          · rename_i hx
            cases h2
            obtain ⟨k0, hk, hg⟩ := last_get hb
            have e1 : fs1.length - 1 = k0 := by omega
            have hx1 : ¬ 0 ≤ b.o := fun hh => hx (.inl hh)
            have hx2 : opc cs b.a = 48 := Classical.byContradiction (fun hh => hx (.inr hh))
            have := hL.else_ h9 (k0 := k0) (a0 := b.a) (x0 := b.o) (by rw [List.length_map]; exact hk) (by rw [List.getElem?_map, hg]; rfl) hx1 hx2
            rw [e1, List.map_set]
            exact this
      · rename_i h9
        split at h2
        · rename_i h0
          split at h2
          · cases h2
          · rename_i b hb
            cases h2
            obtain ⟨k0, hk, hg⟩ := last_get hb
            have e1 : fs1.length - 1 = k0 := by omega
            have := (hL.end_ h0 (k0 := k0) (a0 := b.a) (x0 := b.o) (by rw [List.length_map]; exact hk) (by rw [List.getElem?_map, hg]; rfl)).1
            rw [e1, List.map_take]
            exact this
        · rename_i h0
          split at h2
          · split at h2
            · cases h2
            · rename_i j hj
              cases h2
              have hl := topLoop_lt hj
              rw [List.length_map] at hl
              rw [map_set_same (List.getElem?_eq_getElem hl) (by rw [List.getElem?_eq_getElem hl]; rfl)]
              exact hL.skip (isOp_not ho) h9 h0
          · cases h2
            exact hL.skip (isOp_not ho) h9 h0
end Go.Proofs.Ytbdmbkmokhaflaa.Th
end

section
/- layer 6: the scan, read: where instructions lead -/
set_option linter.unusedVariables false
set_option linter.unusedSimpArgs false
namespace Go.Proofs.Ytbdmbkmokhaflaa.Th
open Go.Shape6 Go.Proofs.Ytbdmbkmokhaflaa.Q

def val : CS → Int
  | .run _ x => x
  | .fin x e => if 0 ≤ x then x else e
def special (v : Int) : Prop := v = 48 ∨ v = 49 ∨ v = 50 ∨ v = 51 ∨ v = 52
theorem cl_keep {o : Nat → Int} {a i : Nat} (ha : a < i) (h : ∀ x, cl o a i = .run 0 x → o i ≠ 49 ∧ o i ≠ 50) :
    val (cl o a (i + 1)) = val (cl o a i) ∧ ∀ x e, cl o a (i + 1) = .fin x e → cl o a i = .fin x e := by
  rw [cl_succ o a i ha]
  cases hc : cl o a i with
  | fin x e => exact ⟨rfl, fun _ _ h => h⟩
  | run d x =>
    have h0 : d = 0 → o i ≠ 49 ∧ o i ≠ 50 := fun hd => h x (by rw [hc, hd])
    unfold clS
    dsimp only
    split
    · exact ⟨rfl, fun _ _ h => (by cases h)⟩
    · split
      · split
        · rename_i h9 hd
          exact absurd h9 (h0 hd).1
        · exact ⟨rfl, fun _ _ h => (by cases h)⟩
      · split
        · split
          · rename_i h5 hd
            exact absurd h5 (h0 hd).2
          · exact ⟨rfl, fun _ _ h => (by cases h)⟩
        · exact ⟨rfl, fun _ _ h => (by cases h)⟩
structure L2 (cs : List Ins) (i : Nat) (m : List Int) (fs : List Fr) : Prop where
  m1 : ∀ a, a < i → isOp (opc cs a) = true → m[a]? = some (val (cl (opc cs) a i))
  m2 : ∀ (a : Nat) (x : Int) (e : Nat), a < i → isOp (opc cs a) = true → cl (opc cs) a i = .fin x e → m[e]? = some (a : Int) ∧ (0 ≤ x → m[x.toNat]? = some (e : Int))
  m4 : ∀ k : Nat, k < i → opc cs k = 52 → ∃ a, Tgt cs k a ∧ ((∃ b ∈ fs, b.a = a ∧ (k : Int) ∈ b.l) ∨ ∃ (x : Int) (e : Nat), cl (opc cs) a i = .fin x e ∧ m[k]? = some (e : Int))
  m5 : ∀ k, k < cs.length → ¬ special (opc cs k) → m[k]? = some (-1)
  m6 : ∀ k, i ≤ k → k < cs.length → m[k]? = some (-1)
  lv : ∀ b ∈ fs, ∀ q ∈ b.l, ∃ k : Nat, q = (k : Int) ∧ k < i ∧ opc cs k = 52 ∧ Tgt cs k b.a
theorem Tgt.ok {cs : List Ins} {k a : Nat} (h : Tgt cs k a) : a < k ∧ opc cs a = 51 ∧ ∃ d x, cl (opc cs) a k = .run d x := by
  obtain ⟨m, fs, j, b, h1, h2, h3, h4⟩ := h
  have hL := scan_L1 h1
  have hf := hL.fr j b.a b.o (by rw [List.getElem?_map, h3]; rfl)
  have hl : loopAt cs (fs.map Fr.a) j = true := by
    have h2' := List.find?_some h2
    exact h2'
  have ho : opc cs b.a = 51 := by
    have := of_decide_eq_true hl
    rw [List.getElem?_map, h3] at this
    exact this
  rw [← h4]
  exact ⟨hf.1, ho, _, _, hf.2.2⟩
theorem fin_facts {cs : List Ins} {a i : Nat} {x : Int} {e : Nat} (ha : a < i) (h : cl (opc cs) a i = .fin x e) : a < e ∧ e < i ∧ opc cs e = 50 ∧ (x = -1 ∨ ((a : Int) < x ∧ x < e ∧ opc cs x.toNat = 49 ∧ opc cs a = 48)) := by
  have := cl_ok (opc cs) a i ha
  rw [h] at this
  rcases this with ⟨h1, h2⟩ | ⟨h1, h2, h3, h4⟩
  · omega
  · rw [Int.toNat_natCast] at h3
    exact ⟨by omega, by omega, h3, h4⟩
theorem run_facts {cs : List Ins} {a i d : Nat} {x : Int} (ha : a < i) (h : cl (opc cs) a i = .run d x) : x = -1 ∨ ((a : Int) < x ∧ x < i ∧ opc cs x.toNat = 49 ∧ opc cs a = 48) := by
  have := cl_ok (opc cs) a i ha
  rw [h] at this
  exact this
theorem L2.same {cs : List Ins} {i : Nat} {m : List Int} {fs fs' : List Fr} (h : L2 cs i m fs) (hi : i < cs.length) (hk : ∀ a, a < i → ∀ x, cl (opc cs) a i = .run 0 x → opc cs i ≠ 49 ∧ opc cs i ≠ 50) (hfs : ∀ b ∈ fs, ∃ b' ∈ fs', b'.a = b.a ∧ ∀ q ∈ b.l, q ∈ b'.l)
    (h4 : opc cs i = 52 → ∃ a, Tgt cs i a ∧ ∃ b ∈ fs', b.a = a ∧ (i : Int) ∈ b.l) (hlv : ∀ b ∈ fs', ∀ q ∈ b.l, ∃ k : Nat, q = (k : Int) ∧ k < i + 1 ∧ opc cs k = 52 ∧ Tgt cs k b.a) : L2 cs (i + 1) m fs' := by
  refine ⟨fun a ha ho => ?_, fun a x e ha ho hc => ?_, fun k hk' hk2 => ?_, h.m5, fun k hk1 hk2 => h.m6 k (by omega) hk2, hlv⟩
  · by_cases hai : a = i
    · subst hai
      rw [cl_start]
      exact h.m6 a (Nat.le_refl _) hi
    · rw [h.m1 a (by omega) ho, (cl_keep (by omega) (hk a (by omega))).1]
  · by_cases hai : a = i
    · subst hai
      rw [cl_start] at hc
      cases hc
    · exact h.m2 a x e (by omega) ho ((cl_keep (by omega) (hk a (by omega))).2 x e hc)
  · by_cases hki : k = i
    · subst hki
      obtain ⟨a, h1, h2⟩ := h4 hk2
      exact ⟨a, h1, .inl h2⟩
    · obtain ⟨a, h1, h2⟩ := h.m4 k (by omega) hk2
      refine ⟨a, h1, ?_⟩
      rcases h2 with ⟨b, hb, hb2, hb3⟩ | ⟨x, e, hc, hm⟩
      · obtain ⟨b', hb', e1, e2⟩ := hfs b hb
        exact .inl ⟨b', hb', e1.trans hb2, e2 _ hb3⟩
      · exact .inr ⟨x, e, cl_fin_mono hc (by have := h1.ok.1; omega) (Nat.le_succ i), hm⟩
theorem scan_L2 {cs : List Ins} {i : Nat} {m : List Int} {fs : List Fr} (hn : i ≤ cs.length) (h : scanTo cs i = some (m, fs)) : L2 cs i m fs := by
  induction i generalizing m fs with
  | zero =>
    cases h
    have hr : ∀ k, k < cs.length → (List.replicate cs.length (-1 : Int))[k]? = some (-1) := fun k hk => by rw [List.getElem?_replicate, if_pos hk]
    exact ⟨fun a ha => absurd ha (Nat.not_lt_zero a), fun a x e ha => absurd ha (Nat.not_lt_zero a), fun k hk => absurd hk (Nat.not_lt_zero k), fun k hk _ => hr k hk, fun k _ hk => hr k hk, fun b hb => (by cases hb)⟩
  | succ i ih =>
    obtain ⟨⟨m1, fs1⟩, h1, h2⟩ := Option.bind_eq_some_iff.1 h
    have hL := scan_L1 h1
    have hI := ih (by omega) h1
    have hok := scanTo_ok h1
    have h2 : scanStep cs i m1 fs1 = some (m, fs) := h2
    have hlv' : ∀ b ∈ fs1, ∀ q ∈ b.l, ∃ k : Nat, q = (k : Int) ∧ k < i + 1 ∧ opc cs k = 52 ∧ Tgt cs k b.a := fun b hb q hq => by
      obtain ⟨k, e1, e2, e3⟩ := hI.lv b hb q hq
      exact ⟨k, e1, by omega, e3⟩
    unfold scanStep at h2
    split at h2
    · rename_i ho
      have ho : opc cs i = 48 ∨ opc cs i = 51 := ho
      split at h2
      · cases h2
        refine hI.same (by omega) (fun a _ x _ => by omega) (fun b hb => ⟨b, List.mem_append_left _ hb, rfl, fun _ h => h⟩) (fun h => by omega) (fun b hb q hq => ?_)
        rcases List.mem_append.1 hb with hb | hb
        · exact hlv' b hb q hq
        · rw [List.mem_singleton.1 hb] at hq
          cases hq
      · cases h2
    · rename_i ho
      have ho : ¬ (opc cs i = 48 ∨ opc cs i = 51) := ho
      split at h2
      · rename_i h9
        have h9 : opc cs i = 49 := h9
        split at h2
        · cases h2
        · rename_i b hb
          split at h2
          · cases h2
          · rename_i hx
            cases h2
            obtain ⟨k0, hk, hg⟩ := last_get hb
            have e1 : fs1.length - 1 = k0 := by omega
            have hgm : (fs1.map pr)[k0]? = some (b.a, b.o) := by rw [List.getElem?_map, hg]; rfl
            have hlm : (fs1.map pr).length = k0 + 1 := by rw [List.length_map]; exact hk
            have hx1 : ¬ 0 ≤ b.o := fun hh => hx (.inl hh)
            have hx2 : opc cs b.a = 48 := Classical.byContradiction (fun hh => hx (.inr hh))
            obtain ⟨t1, t2, t3⟩ := hL.fr k0 b.a b.o hgm
            rw [hlm, show k0 + 1 - 1 - k0 = 0 by omega] at t3
            have htop : cl (opc cs) b.a (i + 1) = .run 0 i := by
              have h3 := (hL.else_ h9 hlm hgm hx1 hx2).fr k0 b.a i (by rw [List.getElem?_set_self (by omega)])
              rw [List.length_set, hlm, show k0 + 1 - 1 - k0 = 0 by omega] at h3
              exact h3.2.2
            have hkeep : ∀ a, a < i → isOp (opc cs a) = true → a ≠ b.a → val (cl (opc cs) a (i + 1)) = val (cl (opc cs) a i) ∧ ∀ x e, cl (opc cs) a (i + 1) = .fin x e → cl (opc cs) a i = .fin x e := fun a ha hoa hne => cl_keep ha (fun x hx => absurd (run0_inj hoa t2 ha t1 hx t3) hne)
            have hmem : b ∈ fs1 := getLast_mem' hb
            have hset : ∀ k, k ≠ b.a → (m1.set b.a (i : Int))[k]? = m1[k]? := fun k hk => List.getElem?_set_ne (fun e => hk e.symm)
            have hset0 : (m1.set b.a (i : Int))[b.a]? = some (i : Int) := List.getElem?_set_self (by rw [hok.1]; omega)
            rw [e1]
            refine ⟨fun a ha hoa => ?_, fun a x e ha hoa hc => ?_, fun k hk' hk2 => ?_, fun k hk1 hk2 => ?_, fun k hk1 hk2 => ?_, fun b' hb' q hq => ?_⟩
            · by_cases hab : a = b.a
              · subst hab
                rw [hset0, htop]
                rfl
              · by_cases hai : a = i
                · subst hai
                  exact absurd (isOp_iff.1 hoa) ho
                · rw [hset a hab, hI.m1 a (by omega) hoa, (hkeep a (by omega) hoa hab).1]
            · by_cases hab : a = b.a
              · subst hab
                rw [htop] at hc
                cases hc
              · by_cases hai : a = i
                · subst hai
                  exact absurd (isOp_iff.1 hoa) ho
                · have hc' := (hkeep a (by omega) hoa hab).2 x e hc
                  obtain ⟨f1, f2, f3, f4⟩ := fin_facts (by omega) hc'
                  obtain ⟨g1, g2⟩ := hI.m2 a x e (by omega) hoa hc'
                  refine ⟨by rw [hset e (fun hh => by rw [hh] at f3; omega)]; exact g1, fun h0 => ?_⟩
                  rw [hset x.toNat (fun hh => by
                    rcases f4 with f4 | f4
                    · omega
                    · rw [hh] at f4
                      omega)]
                  exact g2 h0
            · by_cases hki : k = i
              · subst hki
                omega
              · obtain ⟨a, h3, h4⟩ := hI.m4 k (by omega) hk2
                refine ⟨a, h3, ?_⟩
                rcases h4 with ⟨b', hb', hb2, hb3⟩ | ⟨x, e, hc, hm⟩
                · obtain ⟨q, hq, hqe⟩ := List.getElem_of_mem hb'
                  by_cases hqk : q = k0
                  · subst hqk
                    rw [List.getElem?_eq_getElem hq] at hg
                    have hbb : b' = b := by rw [← hqe]; exact Option.some.inj hg
                    exact .inl ⟨⟨b.a, i, b.l⟩, List.mem_set hq _, by rw [← hb2, hbb], by rw [← hbb]; exact hb3⟩
                  · exact .inl ⟨b', List.mem_iff_getElem?.2 ⟨q, by rw [List.getElem?_set_ne (fun e => hqk e.symm), List.getElem?_eq_getElem hq, hqe]⟩, hb2, hb3⟩
                · refine .inr ⟨x, e, cl_fin_mono hc (by have := h3.ok.1; omega) (Nat.le_succ i), ?_⟩
                  rw [hset k (fun hh => by rw [hh] at hk2; omega)]
                  exact hm
            · rw [hset k (fun hh => hk2 (by rw [hh]; exact .inl hx2))]
              exact hI.m5 k hk1 hk2
            · rw [hset k (by omega)]
              exact hI.m6 k (by omega) hk2
            · rcases List.mem_or_eq_of_mem_set hb' with hb' | hb'
              · exact hlv' b' hb' q hq
              · rw [hb'] at hq ⊢
                exact hlv' b hmem q hq
      · rename_i h9
        have h9 : opc cs i ≠ 49 := h9
        split at h2
        · rename_i h0
          have h0 : opc cs i = 50 := h0
          split at h2
          · cases h2
          · rename_i b hb
            cases h2
            obtain ⟨k0, hk, hg⟩ := last_get hb
            have e1 : fs1.length - 1 = k0 := by omega
            have hgm : (fs1.map pr)[k0]? = some (b.a, b.o) := by rw [List.getElem?_map, hg]; rfl
            have hlm : (fs1.map pr).length = k0 + 1 := by rw [List.length_map]; exact hk
            obtain ⟨t1, t2, t3⟩ := hL.fr k0 b.a b.o hgm
            rw [hlm, show k0 + 1 - 1 - k0 = 0 by omega] at t3
            have htop := (hL.end_ h0 hlm hgm).2
            have hkeep : ∀ a, a < i → isOp (opc cs a) = true → a ≠ b.a → val (cl (opc cs) a (i + 1)) = val (cl (opc cs) a i) ∧ ∀ x e, cl (opc cs) a (i + 1) = .fin x e → cl (opc cs) a i = .fin x e := fun a ha hoa hne => cl_keep ha (fun x hx => absurd (run0_inj hoa t2 ha t1 hx t3) hne)
            have hmem : b ∈ fs1 := getLast_mem' hb
            have hrf := run_facts t1 t3
            have hix : ∃ ix : Nat, (if 0 ≤ b.o then b.o.toNat else b.a) = ix ∧ ix < i ∧ (0 ≤ b.o → (ix : Int) = b.o ∧ opc cs ix = 49) ∧ (¬ 0 ≤ b.o → ix = b.a) := by
              by_cases hbo : 0 ≤ b.o
              · rw [if_pos hbo]
                rcases hrf with h3 | ⟨h3, h4, h5, h6⟩
                · omega
                · exact ⟨_, rfl, by omega, fun _ => ⟨by omega, h5⟩, fun h => absurd hbo h⟩
              · rw [if_neg hbo]
                exact ⟨_, rfl, t1, fun h => absurd h hbo, fun _ => rfl⟩
            obtain ⟨ix, hixe, hix1, hix2, hix3⟩ := hix
            rw [hixe, e1]
            have hml := hok.1
            have hl0 : ∀ q ∈ b.l, 0 ≤ q := fun q hq => ((hok.2.2 b hmem).2.2.2 q hq).1
            have hnl : ∀ k : Nat, opc cs k ≠ 52 → (k : Int) ∉ b.l := fun k hk2 hkl => by
              obtain ⟨k', f1, f2, f3, f4⟩ := hI.lv b hmem _ hkl
              have : k = k' := by omega
              rw [this] at hk2
              exact hk2 f3
            have hget : ∀ k : Nat, (k : Int) ∉ b.l → k ≠ i → k ≠ ix → (setAll ((m1.set i (b.a : Int)).set ix (i : Int)) b.l (i : Int))[k]? = m1[k]? := fun k g1 g2 g3 => by
              rw [setAll_get _ _ _ _ hl0, if_neg (fun hh => g1 hh.1), List.getElem?_set_ne (fun e => g3 e.symm), List.getElem?_set_ne (fun e => g2 e.symm)]
            have hgeti : (setAll ((m1.set i (b.a : Int)).set ix (i : Int)) b.l (i : Int))[i]? = some (b.a : Int) := by
              rw [setAll_get _ _ _ _ hl0, if_neg (fun hh => hnl i (by omega) hh.1), List.getElem?_set_ne (by omega), List.getElem?_set_self (by omega)]
            have hgetx : opc cs ix ≠ 52 → (setAll ((m1.set i (b.a : Int)).set ix (i : Int)) b.l (i : Int))[ix]? = some (i : Int) := fun hne => by
              rw [setAll_get _ _ _ _ hl0, if_neg (fun hh => hnl ix hne hh.1), List.getElem?_set_self (by rw [List.length_set]; omega)]
            have hgetl : ∀ k : Nat, (k : Int) ∈ b.l → (setAll ((m1.set i (b.a : Int)).set ix (i : Int)) b.l (i : Int))[k]? = some (i : Int) := fun k hkl => by
              rw [setAll_get _ _ _ _ hl0, if_pos ⟨hkl, by rw [List.length_set, List.length_set]; have := (hok.2.2 b hmem).2.2.2 _ hkl; omega⟩]
            have hba2 : opc cs b.a = 48 ∨ opc cs b.a = 51 := isOp_iff.1 t2
            refine ⟨fun a ha hoa => ?_, fun a x e ha hoa hc => ?_, fun k hk' hk2 => ?_, fun k hk1 hk2 => ?_, fun k hk1 hk2 => ?_, fun b' hb' q hq => hlv' b' (List.mem_of_mem_take hb') q hq⟩
            · have hoa2 := isOp_iff.1 hoa
              by_cases hai : a = i
              · subst hai
                exact absurd hoa2 ho
              · by_cases hab : a = b.a
                · rw [hab, htop]
                  show _ = some (if 0 ≤ b.o then b.o else (i : Int))
                  by_cases hbo : 0 ≤ b.o
                  · rw [if_pos hbo, hget b.a (hnl b.a (by omega)) (by omega) (fun hh => by have := (hix2 hbo).2; rw [← hh] at this; omega), hI.m1 b.a t1 t2, t3]
                    rfl
                  · have h7 := hgetx (by rw [hix3 hbo]; omega)
                    have e7 := hix3 hbo
                    rw [if_neg hbo]
                    rw [e7] at h7 ⊢
                    exact h7
                · rw [hget a (hnl a (by omega)) hai (fun hh => by
                    by_cases hbo : 0 ≤ b.o
                    · have := (hix2 hbo).2
                      rw [← hh] at this
                      omega
                    · exact hab (hh.trans (hix3 hbo))), hI.m1 a (by omega) hoa, (hkeep a (by omega) hoa hab).1]
            · have hoa2 := isOp_iff.1 hoa
              by_cases hai : a = i
              · subst hai
                exact absurd hoa2 ho
              · by_cases hab : a = b.a
                · subst hab
                  rw [htop] at hc
                  injection hc with hc1 hc2
                  have : e = i := by omega
                  subst this
                  refine ⟨hgeti, fun hx0 => ?_⟩
                  rw [← hc1] at hx0 ⊢
                  have h3 := hix2 hx0
                  rw [show b.o.toNat = ix by omega]
                  exact hgetx (by omega)
                · have hc' := (hkeep a (by omega) hoa hab).2 x e hc
                  obtain ⟨f1, f2, f3, f4⟩ := fin_facts (by omega) hc'
                  obtain ⟨g1, g2⟩ := hI.m2 a x e (by omega) hoa hc'
                  have hixe2 : opc cs ix ≠ 50 := by
                    by_cases hbo : 0 ≤ b.o
                    · have := (hix2 hbo).2
                      omega
                    · rw [hix3 hbo]
                      omega
                  refine ⟨by rw [hget e (hnl e (by omega)) (by omega) (fun hh => hixe2 (by rw [← hh]; exact f3))]; exact g1, fun hx0 => ?_⟩
                  rcases f4 with f4 | ⟨f4, f5, f6, f7⟩
                  · omega
                  · rw [hget x.toNat (hnl _ (by omega)) (by omega) (fun hh => by
                      by_cases hbo : 0 ≤ b.o
                      · obtain ⟨h3, h4⟩ := hix2 hbo
                        have p1 := (cl_else (o := opc cs) t1).1 0 ix (by rw [h3]; exact t3)
                        have p2 := (cl_else (o := opc cs) (by omega : a < i)).2 ix e (by omega) (by rw [← hh, show ((x.toNat : Nat) : Int) = x by omega]; exact hc')
                        exact hab (run0_inj hoa t2 p2.1 p1.1 p2.2.2 p1.2.2)
                      · rw [hh, hix3 hbo] at f6
                        omega)]
                    exact g2 hx0
            · by_cases hki : k = i
              · subst hki
                omega
              · obtain ⟨a, h3, h4⟩ := hI.m4 k (by omega) hk2
                refine ⟨a, h3, ?_⟩
                rcases h4 with ⟨b', hb', hb2, hb3⟩ | ⟨x, e, hc, hm⟩
                · obtain ⟨q, hq, hqe⟩ := List.getElem_of_mem hb'
                  by_cases hqk : q = k0
                  · subst hqk
                    rw [List.getElem?_eq_getElem hq] at hg
                    have hbb : b' = b := by rw [← hqe]; exact Option.some.inj hg
                    exact .inr ⟨b.o, i, by rw [← hb2, hbb]; exact htop, hgetl k (by rw [← hbb]; exact hb3)⟩
                  · exact .inl ⟨b', List.mem_iff_getElem?.2 ⟨q, by rw [List.getElem?_take, if_pos (by omega), List.getElem?_eq_getElem hq, hqe]⟩, hb2, hb3⟩
                · refine .inr ⟨x, e, cl_fin_mono hc (by have := h3.ok.1; omega) (Nat.le_succ i), ?_⟩
                  rw [hget k (fun hkl => by
                    obtain ⟨k', f1, f2, f3, f4⟩ := hI.lv b hmem _ hkl
                    have hkk : k = k' := by omega
                    subst hkk
                    have := Tgt.det f4 h3
                    rw [← this, t3] at hc
                    cases hc) hki (fun hh => by
                      by_cases hbo : 0 ≤ b.o
                      · have := (hix2 hbo).2
                        rw [← hh] at this
                        omega
                      · rw [hh, hix3 hbo] at hk2
                        omega)]
                  exact hm
            · have hsp : ∀ v, v = 48 ∨ v = 51 ∨ v = 49 ∨ v = 50 ∨ v = 52 → special v := fun v hv => by unfold special; omega
              rw [hget k (hnl k (fun hh => hk2 (hsp _ (by omega)))) (fun hh => hk2 (hsp _ (by rw [hh]; omega))) (fun hh => hk2 (hsp _ (by
                rw [hh]
                by_cases hbo : 0 ≤ b.o
                · have := (hix2 hbo).2
                  omega
                · rw [hix3 hbo]
                  omega)))]
              exact hI.m5 k hk1 hk2
            · rw [hget k (fun hkl => by have := (hok.2.2 b hmem).2.2.2 _ hkl; omega) (by omega) (by omega)]
              exact hI.m6 k (by omega) hk2
        · rename_i h0
          have h0 : opc cs i ≠ 50 := h0
          split at h2
          · rename_i h52
            split at h2
            · cases h2
            · rename_i j hj
              cases h2
              have hl := topLoop_lt hj
              rw [List.length_map] at hl
              have hgj := List.getElem?_eq_getElem hl
              rw [hgj, Option.getD_some]
              have htg : Tgt cs i fs1[j].a := ⟨m, fs1, j, fs1[j], h1, hj, hgj, rfl⟩
              refine hI.same (by omega) (fun a _ x _ => ⟨h9, h0⟩) (fun b hb => ?_) (fun _ => ⟨_, htg, ⟨fs1[j].a, fs1[j].o, fs1[j].l ++ [(i : Int)]⟩, List.mem_set hl _, rfl, by simp⟩) (fun b hb q hq => ?_)
              · obtain ⟨p, hp, hpe⟩ := List.getElem_of_mem hb
                by_cases hpj : p = j
                · subst hpj
                  refine ⟨_, List.mem_set hl _, by rw [← hpe], fun q hq => ?_⟩
                  rw [← hpe] at hq
                  exact List.mem_append_left _ hq
                · exact ⟨b, List.mem_iff_getElem?.2 ⟨p, by rw [List.getElem?_set_ne (fun e => hpj e.symm), List.getElem?_eq_getElem hp, hpe]⟩, rfl, fun _ h => h⟩
              · rcases List.mem_or_eq_of_mem_set hb with hb | hb
                · exact hlv' b hb q hq
                · rw [hb] at hq ⊢
                  rcases List.mem_append.1 hq with hq | hq
                  · exact hlv' fs1[j] (List.getElem_mem hl) q hq
                  · rw [List.mem_singleton.1 hq]
                    exact ⟨i, rfl, by omega, h52, htg⟩
          · rename_i h52
            cases h2
            exact hI.same (by omega) (fun a _ x _ => ⟨h9, h0⟩) (fun b hb => ⟨b, hb, rfl, fun _ h => h⟩) (fun h => absurd h h52) hlv'
end Go.Proofs.Ytbdmbkmokhaflaa.Th
end
