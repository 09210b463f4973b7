/- texts of one claim, merged: each in a section of its own -/
import Derived.Test.YtjkimfjhfncldaaMWireFrames3
import Derived.Shelf.Spec.TrailingZeros
import Derived.Laws.Bits64b
section
-- written by hprint.py (a program of these sessions) out of the translation; Lean checks it
namespace Go.Proofs.Ytjkimfjhfncldaa.Q
open Go.RowKit Go.Proofs.YtjkimfjhfncldaaW.Hb Go.Proofs.YtjkimfjhfncldaaW.PrintWords Go.Proofs.YtjkimfjhfncldaaW.PrintLast Go.Proofs.YtjkimfjhfncldaaW.PrintMore
attribute [local go_sem] max2_int min2_int max_two min_two max_three min_three max_four min_four   -- for this text's walks alone
set_option linter.unusedVariables false
set_option linter.unusedSimpArgs false

/-! ### weighhouseref01_one: function 50 -/
mutual
def weighhouseref01_one.l0 : Nat → List Int → Int → Int → Option (List Int × Int × Bool)
  | 0, _, _, _ => none
  | k + 1, x0, x5, x6 => if x6 < 4 then (if 0 ≤ x6 then (if x6 < (x0.length : Int) then (weighhouseref01_one.l0 k x0 (wrap64 ((wrap64 (256 * x5)) + (wrap64 (rd x0 x6)))) (wrap64 (x6 + 1))) else (none)) else (none)) else (if x5 > 1048576 then (weighhouseref01_one.j1 k x0 x5 true) else (weighhouseref01_one.j1 k x0 x5 (decide (x5 > (wrap64 ((x0.length : Int) - 8))))))
def weighhouseref01_one.j1 : Nat → List Int → Int → Bool → Option (List Int × Int × Bool)
  | 0, _, _, _ => none
  | k + 1, x0, x5, x32 => if x32 = true then (some (([] : List Int), 0, false)) else ((some (([] : List Int) : List Int)).bind fun y133 => (if 8 ≤ (wrap64 (8 + x5)) then (if (wrap64 (8 + x5)) ≤ (x0.length : Int) then (if y133.length + ((x0.take ((wrap64 (8 + x5)) : Int).toNat).drop 8).length < 140737488355328 then ((some (y133 ++ ((x0.take ((wrap64 (8 + x5)) : Int).toNat).drop 8) : List Int)).bind fun y137 => ((some (([] : List Int) : List Int)).bind fun y140 => (if 4 ≤ (x0.length : Int) then (if y140.length + (x0.take 4).length < 140737488355328 then ((some (y140 ++ (x0.take 4) : List Int)).bind fun y144 => (if y144.length + y137.length < 140737488355328 then ((weighhouseref01_Sum.f k (y144 ++ y137)).bind fun t150 => (if 4 < (x0.length : Int) then (if (rd x0 4) = ((t150) % 256) then (if 5 < (x0.length : Int) then (if (rd x0 5) = ((t150 / 256) % 256) then (if 6 < (x0.length : Int) then (if (rd x0 6) = ((t150 / 65536) % 256) then (if 7 < (x0.length : Int) then (if (rd x0 7) = ((t150 / 16777216) % 256) then (some (y137, wrap64 (8 + x5), true)) else (some (([] : List Int), 0, false))) else (none)) else (some (([] : List Int), 0, false))) else (none)) else (some (([] : List Int), 0, false))) else (none)) else (some (([] : List Int), 0, false))) else (none))) else (none))) else (none)) else (none)))) else (none)) else (none)) else (none)))
end
def weighhouseref01_one.f (k : Nat) (l0 : List Int) : Option (List Int × Int × Bool) := if (l0.length : Int) < 8 then (some (([] : List Int), 0, false)) else (weighhouseref01_one.l0 k l0 0 0)
theorem weighhouseref01_one.mono_l : ∀ k, (∀ y0 y1 y2, LeO (weighhouseref01_one.l0 k y0 y1 y2) (weighhouseref01_one.l0 (k + 1) y0 y1 y2)) ∧ (∀ y0 y1 y2, LeO (weighhouseref01_one.j1 k y0 y1 y2) (weighhouseref01_one.j1 (k + 1) y0 y1 y2))
  | 0 => ⟨fun _ _ _ r h => by simp [weighhouseref01_one.l0] at h, fun _ _ _ r h => by simp [weighhouseref01_one.j1] at h⟩
  | k + 1 => by
    obtain ⟨ih0, ih1⟩ := weighhouseref01_one.mono_l k
    refine ⟨?_, ?_⟩
    · intro y0 y1 y2
      unfold weighhouseref01_one.l0
      repeat' first
      | (with_reducible exact ih0 _ _ _)
      | (with_reducible exact ih1 _ _ _)
      | (with_reducible exact weighhouseref01_Sum.mono _ _)
      | (with_reducible exact LeO.refl _)
      | (with_reducible exact LeO.none _)
      | (with_reducible refine LeO.ite ?_ ?_)
      | (with_reducible refine LeO.bind ?_ (fun _ => ?_))
      | exact ih0 _ _ _
      | exact ih1 _ _ _
      | exact weighhouseref01_Sum.mono _ _
      | exact LeO.none _
      | refine LeO.ite ?_ ?_
      | refine LeO.bind ?_ (fun _ => ?_)
    · intro y0 y1 y2
      unfold weighhouseref01_one.j1
      repeat' first
      | (with_reducible exact ih0 _ _ _)
      | (with_reducible exact ih1 _ _ _)
      | (with_reducible exact weighhouseref01_Sum.mono _ _)
      | (with_reducible exact LeO.refl _)
      | (with_reducible exact LeO.none _)
      | (with_reducible refine LeO.ite ?_ ?_)
      | (with_reducible refine LeO.bind ?_ (fun _ => ?_))
      | exact ih0 _ _ _
      | exact ih1 _ _ _
      | exact weighhouseref01_Sum.mono _ _
      | exact LeO.none _
      | refine LeO.ite ?_ ?_
      | refine LeO.bind ?_ (fun _ => ?_)
theorem weighhouseref01_one.mono : ∀ a0 k, LeO (weighhouseref01_one.f k a0) (weighhouseref01_one.f (k + 1) a0) := by
  intro a0 k
  obtain ⟨ih0, ih1⟩ := weighhouseref01_one.mono_l k
  unfold weighhouseref01_one.f
  repeat' first
      | (with_reducible exact ih0 _ _ _)
      | (with_reducible exact ih1 _ _ _)
      | (with_reducible exact weighhouseref01_Sum.mono _ _)
      | (with_reducible exact LeO.refl _)
      | (with_reducible exact LeO.none _)
      | (with_reducible refine LeO.ite ?_ ?_)
      | (with_reducible refine LeO.bind ?_ (fun _ => ?_))
      | exact ih0 _ _ _
      | exact ih1 _ _ _
      | exact weighhouseref01_Sum.mono _ _
      | exact LeO.none _
      | refine LeO.ite ?_ ?_
      | refine LeO.bind ?_ (fun _ => ?_)
set_option maxHeartbeats 8000000 in
set_option maxRecDepth 100000 in
theorem weighhouseref01_one.calls (k : Nat) (A0 : Option Addr) (c0 : Nat) (l0 : List Int) (r1 : List Int) (r2 : Int) (r3 : Bool) (w : World) (hr0 : Kd.C (Kd.int .u8) w A0 l0.length l0) (hc0 : l0.length ≤ c0) (h : weighhouseref01_one.f k l0 = some (r1, r2, r3)) :
    Calls Try.prog 50 #[.slice A0 l0.length c0] w fun e w' => ∃ v0_ : Value, e = .returned (.tuple #[v0_, .int .i64 r2, .bool r3]) ∧ Kd.R (Kd.int .u8) 5 w' w.heap.size (fun _ => True) v0_ r1 ∧ Below w.heap.size w w' := by
  have HR0 := Aside0.mk hr0
  have HC0 := Aside0.mk hc0
  clear hr0 hc0
  have HB := Aside0.mk (Below.refl w.heap.size w)
  have H : (if (l0.length : Int) < 8 then (some (([] : List Int), 0, false)) else (weighhouseref01_one.l0 k l0 0 0)) = some (r1, r2, r3) := h
  clear h
  by_cases c2 : (l0.length : Int) < 8
  · rw [if_pos c2] at H
    have c2b0 : decide ((l0.length : Int) < 8) = true := decide_eq_true c2
    have c2b1 : decide (l0.length < 8) = true := decide_eq_true (by omega)
    clear c2
    simp only [Option.some.injEq, Prod.mk.injEq] at H
    obtain ⟨rfl, rfl, rfl⟩ := H
    go_enter Try.func50, Try.ntmps50
    go_wp2
    go_ret3
    exact ⟨_, by first | rfl | (simp [errW_none, errW_some] <;> rfl) | (simp [*, errW_none, errW_some] <;> rfl), by first | exact Kd.R_nil _ _ _ _ _ | exact Kd.N_nil _ _ _ _ _ | exact Kd.V_nil _ _ _ _ _ | exact Kd.Q_nil _ _ _ _ _ | exact Kd.S_nil _ _ _ _ _, by repeat (first | (with_reducible first | exact HB.out | apply below_alloc | apply pw_below_drewN | apply below_drew1) | exact HB.out)⟩
  · rw [if_neg c2] at H
    have c2b0 : decide ((l0.length : Int) < 8) = false := decide_eq_false c2
    have c2b1 : decide (l0.length < 8) = false := decide_eq_false (by omega)
    clear c2
    have H' := Aside0.mk H
    clear H
    go_enter Try.func50, Try.ntmps50
    go_wp2
    go_loopg [5, 6] k (fun kq v5 v6 w' => ∃ (x5_1 : Int) (x6_1 : Int), v5 = .int .i64 x5_1 ∧ v6 = .int .i64 x6_1 ∧ Aside0 (weighhouseref01_one.l0 kq l0 x5_1 x6_1 = some (r1, r2, r3)) ∧ Aside0 (kq ≤ k) ∧ Aside0 (Below w.heap.size w w'))
    case atStart => exact ⟨(0), (0), (by first | rfl | (simp; done) | (simp [*]; done)), (by first | rfl | (simp; done) | (simp [*]; done)), H', ⟨Nat.le_refl _⟩, ⟨by repeat (first | (with_reducible first | exact HB.out | apply below_alloc | apply pw_below_drewN | apply below_drew1) | exact HB.out)⟩⟩
    case round =>
      clear H'
      try clear c2
      try clear c2b0
      try clear c2b1
      try clear p2
      obtain ⟨x5_1, x6_1, rfl, rfl, HA, HK1, HB⟩ := hrel
      cases gk with
      | zero => exact absurd HA.out (by simp [weighhouseref01_one.l0])
      | succ k1 =>
        have H := HA.out
        clear HA
        simp only [weighhouseref01_one.l0] at H
        by_cases c3 : x6_1 < 4
        · rw [if_pos c3] at H
          have c3b0 : decide (x6_1 < 4) = true := decide_eq_true c3
          clear c3
          by_cases c4 : 0 ≤ x6_1
          · rw [if_pos c4] at H
            have c4b0 : decide (0 ≤ x6_1) = true := decide_eq_true c4
            clear c4
            by_cases c5 : x6_1 < (l0.length : Int)
            · rw [if_pos c5] at H
              have c5b0 : decide (x6_1 < (l0.length : Int)) = true := decide_eq_true c5
              clear c5
              have H' := Aside0.mk H
              clear H
              have p132 : 0 ≤ (x6_1 : Int) := of_decide_eq_true (by first | (with_reducible assumption) | assumption)
              have q132 : x6_1 < (l0.length : Int) := of_decide_eq_true (by first | (with_reducible assumption) | assumption)
              obtain ⟨ad132, e132, hx132_0⟩ := Kd.at_int HR0.out x6_1 p132 q132
              cases e132
              replace hx132_0 := (HB.out.cell (World.block_lt_of_cell? w _ hx132_0)).trans hx132_0
              replace p132 := eq_true p132
              replace q132 := eq_true q132
              go_wp2
              go_roundg k1
              case measure => have := HK1.out; omega
              case rel => exact ⟨(wrap64 ((wrap64 (256 * x5_1)) + (wrap64 (rd l0 x6_1)))), (wrap64 (x6_1 + 1)), (by first | rfl | (simp; done) | (simp [*]; done)), (by first | rfl | (simp; done) | (simp [*]; done)), H', ⟨by have := HK1.out; omega⟩, ⟨by repeat (first | (with_reducible first | exact HB.out | apply below_alloc | apply pw_below_drewN | apply below_drew1) | exact HB.out)⟩⟩
            · rw [if_neg c5] at H
              exact absurd H (by simp)
          · rw [if_neg c4] at H
            exact absurd H (by simp)
        · rw [if_neg c3] at H
          have c3b0 : decide (x6_1 < 4) = false := decide_eq_false c3
          clear c3
          have HC6 := Aside0.mk H
          clear H
          go_upto_region 8 with (fail)
          go_cut [32] (fun v32 wc => ∃ (kq : Nat) (x32_5 : Bool), v32 = .bool x32_5 ∧ Aside0 (weighhouseref01_one.j1 kq l0 x5_1 x32_5 = some (r1, r2, r3)) ∧ Aside0 (kq ≤ k1) ∧ Aside0 (Below w.heap.size w wc))
          case first =>
            have H := HC6.out
            clear HC6
            by_cases c7 : x5_1 > 1048576
            · rw [if_pos c7] at H
              have c7b0 : decide (1048576 < x5_1) = true := decide_eq_true c7
              clear c7
              (first | rw [c7b0] | (simp only [i64_w, i32_w]; rw [c7b0]) | skip)
              have H' := Aside0.mk H
              clear H
              go_wp2
              go_meet
              case rel => exact ⟨_, (true), (by first | rfl | (simp; done) | (simp [*]; done)), H', ⟨by have := HK1.out; first | omega | exact Nat.le_refl _⟩, ⟨by repeat (first | (with_reducible first | exact HB.out | apply below_alloc | apply pw_below_drewN | apply below_drew1) | exact HB.out)⟩⟩
            · rw [if_neg c7] at H
              have c7b0 : decide (1048576 < x5_1) = false := decide_eq_false c7
              clear c7
              (first | rw [c7b0] | (simp only [i64_w, i32_w]; rw [c7b0]) | skip)
              have H' := Aside0.mk H
              clear H
              go_wp2
              go_meet
              case rel => exact ⟨_, (decide (x5_1 > (wrap64 ((l0.length : Int) - 8)))), (by first | rfl | (simp; done) | (simp [*]; done)), H', ⟨by have := HK1.out; first | omega | exact Nat.le_refl _⟩, ⟨by repeat (first | (with_reducible first | exact HB.out | apply below_alloc | apply pw_below_drewN | apply below_drew1) | exact HB.out)⟩⟩
          case rest =>
            clear HC6
            try clear p1
            try clear q1
            try clear hx1
            try clear c2
            try clear c2b0
            try clear c2b1
            try clear p2
            try clear c3
            try clear c3b0
            try clear c4
            try clear c4b0
            try clear c5
            try clear c5b0
            try clear p6
            try clear c7
            try clear c7b0
            try clear hx132_0
            try clear p132
            try clear p2
            try clear q132
            obtain ⟨kq, x32_5, rfl, HA, HJ5, HB⟩ := hcut
            cases kq with
            | zero => exact absurd HA.out (by simp [weighhouseref01_one.j1])
            | succ kj5 =>
              have H := HA.out
              clear HA
              simp only [weighhouseref01_one.j1] at H
              by_cases c8 : x32_5 = true
              · subst c8
                have H1 : (some (([] : List Int), 0, false)) = some (r1, r2, r3) := by rw [if_pos rfl] at H; exact H
                clear H
                have H := H1
                clear H1
                simp only [Option.some.injEq, Prod.mk.injEq] at H
                obtain ⟨rfl, rfl, rfl⟩ := H
                go_wp2
                go_ret3
                exact ⟨_, by first | rfl | (simp [errW_none, errW_some] <;> rfl) | (simp [*, errW_none, errW_some] <;> rfl), by first | exact Kd.R_nil _ _ _ _ _ | exact Kd.N_nil _ _ _ _ _ | exact Kd.V_nil _ _ _ _ _ | exact Kd.Q_nil _ _ _ _ _ | exact Kd.S_nil _ _ _ _ _, by repeat (first | (with_reducible first | exact HB.out | apply below_alloc | apply pw_below_drewN | apply below_drew1) | exact HB.out)⟩
              · replace c8 := Bool.eq_false_iff.mpr c8
                subst c8
                have H1 : ((some (([] : List Int) : List Int)).bind fun y133 => (if 8 ≤ (wrap64 (8 + x5_1)) then (if (wrap64 (8 + x5_1)) ≤ (l0.length : Int) then (if y133.length + ((l0.take ((wrap64 (8 + x5_1)) : Int).toNat).drop 8).length < 140737488355328 then ((some (y133 ++ ((l0.take ((wrap64 (8 + x5_1)) : Int).toNat).drop 8) : List Int)).bind fun y137 => ((some (([] : List Int) : List Int)).bind fun y140 => (if 4 ≤ (l0.length : Int) then (if y140.length + (l0.take 4).length < 140737488355328 then ((some (y140 ++ (l0.take 4) : List Int)).bind fun y144 => (if y144.length + y137.length < 140737488355328 then ((weighhouseref01_Sum.f kj5 (y144 ++ y137)).bind fun t150 => (if 4 < (l0.length : Int) then (if (rd l0 4) = ((t150) % 256) then (if 5 < (l0.length : Int) then (if (rd l0 5) = ((t150 / 256) % 256) then (if 6 < (l0.length : Int) then (if (rd l0 6) = ((t150 / 65536) % 256) then (if 7 < (l0.length : Int) then (if (rd l0 7) = ((t150 / 16777216) % 256) then (some (y137, wrap64 (8 + x5_1), true)) else (some (([] : List Int), 0, false))) else (none)) else (some (([] : List Int), 0, false))) else (none)) else (some (([] : List Int), 0, false))) else (none)) else (some (([] : List Int), 0, false))) else (none))) else (none))) else (none)) else (none)))) else (none)) else (none)) else (none))) = some (r1, r2, r3) := by rw [if_neg (show ¬ (false = true) by decide)] at H; exact H
                clear H
                have H := H1
                clear H1
                obtain ⟨y133, hy133⟩ : ∃ y_ : List Int, y_ = (([] : List Int)) := ⟨_, rfl⟩
                replace H : (if 8 ≤ (wrap64 (8 + x5_1)) then (if (wrap64 (8 + x5_1)) ≤ (l0.length : Int) then (if y133.length + ((l0.take ((wrap64 (8 + x5_1)) : Int).toNat).drop 8).length < 140737488355328 then ((some (y133 ++ ((l0.take ((wrap64 (8 + x5_1)) : Int).toNat).drop 8) : List Int)).bind fun y137 => ((some (([] : List Int) : List Int)).bind fun y140 => (if 4 ≤ (l0.length : Int) then (if y140.length + (l0.take 4).length < 140737488355328 then ((some (y140 ++ (l0.take 4) : List Int)).bind fun y144 => (if y144.length + y137.length < 140737488355328 then ((weighhouseref01_Sum.f kj5 (y144 ++ y137)).bind fun t150 => (if 4 < (l0.length : Int) then (if (rd l0 4) = ((t150) % 256) then (if 5 < (l0.length : Int) then (if (rd l0 5) = ((t150 / 256) % 256) then (if 6 < (l0.length : Int) then (if (rd l0 6) = ((t150 / 65536) % 256) then (if 7 < (l0.length : Int) then (if (rd l0 7) = ((t150 / 16777216) % 256) then (some (y137, wrap64 (8 + x5_1), true)) else (some (([] : List Int), 0, false))) else (none)) else (some (([] : List Int), 0, false))) else (none)) else (some (([] : List Int), 0, false))) else (none)) else (some (([] : List Int), 0, false))) else (none))) else (none))) else (none)) else (none)))) else (none)) else (none)) else (none)) = some (r1, r2, r3) := by first | (rw [hy133]; with_reducible exact H) | (have H2_ := (Option.bind_some _ _).symm.trans H; rw [hy133]; with_reducible exact H2_) | (have H2_ := (Option.bind_some _ _).symm.trans H; with_reducible exact H2_) | with_reducible exact H | (rw [hy133]; exact H) | exact H
                have Ny133 := Aside0.mk hy133
                clear hy133
                by_cases c9 : 8 ≤ (wrap64 (8 + x5_1))
                · rw [if_pos c9] at H
                  have c9b0 := eq_true c9
                  have c9b1 : decide (8 ≤ (wrap64 (8 + x5_1))) = true := decide_eq_true c9
                  by_cases c10 : (wrap64 (8 + x5_1)) ≤ (l0.length : Int)
                  · rw [if_pos c10] at H
                    have c10b0 := eq_true c10
                    have c10b1 : decide ((wrap64 (8 + x5_1)) ≤ (l0.length : Int)) = true := decide_eq_true c10
                    by_cases c11 : y133.length + ((l0.take ((wrap64 (8 + x5_1)) : Int).toNat).drop 8).length < 140737488355328
                    · rw [if_pos c11] at H
                      have LMc11 := Aside0.mk c11
                      clear c11
                      obtain ⟨y137, hy137⟩ : ∃ y_ : List Int, y_ = (y133 ++ ((l0.take ((wrap64 (8 + x5_1)) : Int).toNat).drop 8)) := ⟨_, rfl⟩
                      replace H : ((some (([] : List Int) : List Int)).bind fun y140 => (if 4 ≤ (l0.length : Int) then (if y140.length + (l0.take 4).length < 140737488355328 then ((some (y140 ++ (l0.take 4) : List Int)).bind fun y144 => (if y144.length + y137.length < 140737488355328 then ((weighhouseref01_Sum.f kj5 (y144 ++ y137)).bind fun t150 => (if 4 < (l0.length : Int) then (if (rd l0 4) = ((t150) % 256) then (if 5 < (l0.length : Int) then (if (rd l0 5) = ((t150 / 256) % 256) then (if 6 < (l0.length : Int) then (if (rd l0 6) = ((t150 / 65536) % 256) then (if 7 < (l0.length : Int) then (if (rd l0 7) = ((t150 / 16777216) % 256) then (some (y137, wrap64 (8 + x5_1), true)) else (some (([] : List Int), 0, false))) else (none)) else (some (([] : List Int), 0, false))) else (none)) else (some (([] : List Int), 0, false))) else (none)) else (some (([] : List Int), 0, false))) else (none))) else (none))) else (none)) else (none))) = some (r1, r2, r3) := by first | (rw [hy137]; with_reducible exact H) | (have H2_ := (Option.bind_some _ _).symm.trans H; rw [hy137]; with_reducible exact H2_) | (have H2_ := (Option.bind_some _ _).symm.trans H; with_reducible exact H2_) | with_reducible exact H | (rw [hy137]; exact H) | exact H
                      have Ny137 := Aside0.mk hy137
                      clear hy137
                      obtain ⟨y140, hy140⟩ : ∃ y_ : List Int, y_ = (([] : List Int)) := ⟨_, rfl⟩
                      replace H : (if 4 ≤ (l0.length : Int) then (if y140.length + (l0.take 4).length < 140737488355328 then ((some (y140 ++ (l0.take 4) : List Int)).bind fun y144 => (if y144.length + y137.length < 140737488355328 then ((weighhouseref01_Sum.f kj5 (y144 ++ y137)).bind fun t150 => (if 4 < (l0.length : Int) then (if (rd l0 4) = ((t150) % 256) then (if 5 < (l0.length : Int) then (if (rd l0 5) = ((t150 / 256) % 256) then (if 6 < (l0.length : Int) then (if (rd l0 6) = ((t150 / 65536) % 256) then (if 7 < (l0.length : Int) then (if (rd l0 7) = ((t150 / 16777216) % 256) then (some (y137, wrap64 (8 + x5_1), true)) else (some (([] : List Int), 0, false))) else (none)) else (some (([] : List Int), 0, false))) else (none)) else (some (([] : List Int), 0, false))) else (none)) else (some (([] : List Int), 0, false))) else (none))) else (none))) else (none)) else (none)) = some (r1, r2, r3) := by first | (rw [hy140]; with_reducible exact H) | (have H2_ := (Option.bind_some _ _).symm.trans H; rw [hy140]; with_reducible exact H2_) | (have H2_ := (Option.bind_some _ _).symm.trans H; with_reducible exact H2_) | with_reducible exact H | (rw [hy140]; exact H) | exact H
                      have Ny140 := Aside0.mk hy140
                      clear hy140
                      by_cases c12 : 4 ≤ (l0.length : Int)
                      · rw [if_pos c12] at H
                        have c12b0 := eq_true c12
                        have c12b1 : decide (4 ≤ (l0.length : Int)) = true := decide_eq_true c12
                        clear c12
                        by_cases c13 : y140.length + (l0.take 4).length < 140737488355328
                        · rw [if_pos c13] at H
                          have LMc13 := Aside0.mk c13
                          clear c13
                          obtain ⟨y144, hy144⟩ : ∃ y_ : List Int, y_ = (y140 ++ (l0.take 4)) := ⟨_, rfl⟩
                          replace H : (if y144.length + y137.length < 140737488355328 then ((weighhouseref01_Sum.f kj5 (y144 ++ y137)).bind fun t150 => (if 4 < (l0.length : Int) then (if (rd l0 4) = ((t150) % 256) then (if 5 < (l0.length : Int) then (if (rd l0 5) = ((t150 / 256) % 256) then (if 6 < (l0.length : Int) then (if (rd l0 6) = ((t150 / 65536) % 256) then (if 7 < (l0.length : Int) then (if (rd l0 7) = ((t150 / 16777216) % 256) then (some (y137, wrap64 (8 + x5_1), true)) else (some (([] : List Int), 0, false))) else (none)) else (some (([] : List Int), 0, false))) else (none)) else (some (([] : List Int), 0, false))) else (none)) else (some (([] : List Int), 0, false))) else (none))) else (none)) = some (r1, r2, r3) := by first | (rw [hy144]; with_reducible exact H) | (have H2_ := (Option.bind_some _ _).symm.trans H; rw [hy144]; with_reducible exact H2_) | (have H2_ := (Option.bind_some _ _).symm.trans H; with_reducible exact H2_) | with_reducible exact H | (rw [hy144]; exact H) | exact H
                          have Ny144 := Aside0.mk hy144
                          clear hy144
                          by_cases c14 : y144.length + y137.length < 140737488355328
                          · rw [if_pos c14] at H
                            have LMc14 := Aside0.mk c14
                            clear c14
                            obtain ⟨y147, hy147⟩ : ∃ y_ : List Int, y_ = (y144 ++ y137) := ⟨_, rfl⟩
                            replace H : ((weighhouseref01_Sum.f kj5 y147).bind fun t150 => (if 4 < (l0.length : Int) then (if (rd l0 4) = ((t150) % 256) then (if 5 < (l0.length : Int) then (if (rd l0 5) = ((t150 / 256) % 256) then (if 6 < (l0.length : Int) then (if (rd l0 6) = ((t150 / 65536) % 256) then (if 7 < (l0.length : Int) then (if (rd l0 7) = ((t150 / 16777216) % 256) then (some (y137, wrap64 (8 + x5_1), true)) else (some (([] : List Int), 0, false))) else (none)) else (some (([] : List Int), 0, false))) else (none)) else (some (([] : List Int), 0, false))) else (none)) else (some (([] : List Int), 0, false))) else (none))) = some (r1, r2, r3) := by first | (rw [hy147]; with_reducible exact H) | (have H2_ := (Option.bind_some _ _).symm.trans H; rw [hy147]; with_reducible exact H2_) | (have H2_ := (Option.bind_some _ _).symm.trans H; with_reducible exact H2_) | with_reducible exact H | (rw [hy147]; exact H) | exact H
                            have Ny147 := Aside0.mk hy147
                            clear hy147
                            replace H := Option.bind_eq_some_iff.mp H
                            obtain ⟨t150, A150, H⟩ := H
                            replace H : (if 4 < (l0.length : Int) then (if (rd l0 4) = ((t150) % 256) then (if 5 < (l0.length : Int) then (if (rd l0 5) = ((t150 / 256) % 256) then (if 6 < (l0.length : Int) then (if (rd l0 6) = ((t150 / 65536) % 256) then (if 7 < (l0.length : Int) then (if (rd l0 7) = ((t150 / 16777216) % 256) then (some (y137, wrap64 (8 + x5_1), true)) else (some (([] : List Int), 0, false))) else (none)) else (some (([] : List Int), 0, false))) else (none)) else (some (([] : List Int), 0, false))) else (none)) else (some (([] : List Int), 0, false))) else (none)) = some (r1, r2, r3) := H
                            have A15 := Aside0.mk A150
                            clear A150
                            by_cases c16 : 4 < (l0.length : Int)
                            · rw [if_pos c16] at H
                              have c16b0 : decide (4 < (l0.length : Int)) = true := decide_eq_true c16
                              have c16b1 : decide (4 < l0.length) = true := decide_eq_true (by omega)
                              clear c16
                              by_cases c17 : (rd l0 4) = ((t150) % 256)
                              · rw [if_pos c17] at H
                                have c17b0 : ((rd l0 4) == ((t150) % 256)) = true := beq_iff_eq.mpr c17
                                have c17b1 : ((rd l0 4) != ((t150) % 256)) = false := bne_eq_false_iff_eq.mpr c17
                                clear c17
                                by_cases c18 : 5 < (l0.length : Int)
                                · rw [if_pos c18] at H
                                  have c18b0 : decide (5 < (l0.length : Int)) = true := decide_eq_true c18
                                  have c18b1 : decide (5 < l0.length) = true := decide_eq_true (by omega)
                                  clear c18
                                  by_cases c19 : (rd l0 5) = ((t150 / 256) % 256)
                                  · rw [if_pos c19] at H
                                    have c19b0 : ((rd l0 5) == ((t150 / 256) % 256)) = true := beq_iff_eq.mpr c19
                                    have c19b1 : ((rd l0 5) != ((t150 / 256) % 256)) = false := bne_eq_false_iff_eq.mpr c19
                                    clear c19
                                    by_cases c20 : 6 < (l0.length : Int)
                                    · rw [if_pos c20] at H
                                      have c20b0 : decide (6 < (l0.length : Int)) = true := decide_eq_true c20
                                      have c20b1 : decide (6 < l0.length) = true := decide_eq_true (by omega)
                                      clear c20
                                      by_cases c21 : (rd l0 6) = ((t150 / 65536) % 256)
                                      · rw [if_pos c21] at H
                                        have c21b0 : ((rd l0 6) == ((t150 / 65536) % 256)) = true := beq_iff_eq.mpr c21
                                        have c21b1 : ((rd l0 6) != ((t150 / 65536) % 256)) = false := bne_eq_false_iff_eq.mpr c21
                                        clear c21
                                        by_cases c22 : 7 < (l0.length : Int)
                                        · rw [if_pos c22] at H
                                          have c22b0 : decide (7 < (l0.length : Int)) = true := decide_eq_true c22
                                          have c22b1 : decide (7 < l0.length) = true := decide_eq_true (by omega)
                                          clear c22
                                          by_cases c23 : (rd l0 7) = ((t150 / 16777216) % 256)
                                          · rw [if_pos c23] at H
                                            have c23b0 : ((rd l0 7) == ((t150 / 16777216) % 256)) = true := beq_iff_eq.mpr c23
                                            have c23b1 : ((rd l0 7) != ((t150 / 16777216) % 256)) = false := bne_eq_false_iff_eq.mpr c23
                                            clear c23
                                            simp only [Option.some.injEq, Prod.mk.injEq] at H
                                            obtain ⟨rfl, rfl, rfl⟩ := H
                                            go_wp2_with (first | ((with_reducible refine gate_dst (N := 33) rfl ?_); (try (refine gate_guard (by rfl) ?_; dsimp only)); refine Kd.R_lit (Kd.int .u8) _ 5 ?hg (N := 33) ?hd (xs := ([] : List Int)) (inner := []) (ok := fun _ => True) (okp := fun _ => True) ?hr ?hp (fun _ hk => hk) trivial (Below.refl _ _) (Nat.le_refl _) (by simp) ?_; (case hd => rfl); (case hg => rfl); (case hr => first | (go_simp; done) | (go_simp; rfl)); (case hp => exact (Reps.none _ _)); intro v134 w24 ho25 hb hg_ hnew_; clear hg_ hnew_; (first | rw [← Ny133.out] at ho25 | (simp only [Int.reduceToNat] at ho25; rw [← Ny133.out] at ho25)); have n0_ := Aside0.mk (Kd.R_lower ho25 (below_size (by repeat (first | (with_reducible first | exact HB.out | apply below_alloc | apply pw_below_drewN | apply below_drew1) | exact HB.out)))); have n1_ := Aside0.mk (below_step (by repeat (first | (with_reducible first | exact HB.out | apply below_alloc | apply pw_below_drewN | apply below_drew1) | exact HB.out)) hb); clear HB; have HO135 := n0_; have HB := n1_; clear n0_ n1_; clear hb ho25; obtain ⟨i026, hi026, _, hsz26, _⟩ := info_parts info5; obtain ⟨A26, hcut26, hA26, hC26⟩ := print_mid_of (P := Try.prog) (Value.int .u8) 0 22 5 .i64 .i64 Try.underlying22 hi026 hsz26 A0 c0 l0 8 (wrap64 (8 + x5_1)) (by omega) (by first | omega | exact of_decide_eq_true (by first | (with_reducible assumption) | assumption)) (of_decide_eq_true (by first | (with_reducible assumption) | assumption)) HC0.out; have HR136 := Aside0.mk (Kd.C_of_reads (h1 := fun _ => rfl) (hA26 _ (Kd.reads_of_C HR0.out))); have HC136 := Aside0.mk hC26; clear hA26 hC26 hi026 hsz26) | ((with_reducible refine gate_builtin (b := .append) (xs := #[.tmp 33, .tmp 37]) rfl ?_); (try (refine gate_guard (by rfl) ?_; dsimp only)); at_builtin; refine Kd.R_append_rows (Kd.int .u8) (w0 := w) w.heap.size rfl (.tmp 33) (.tmp 37) 22 5 (.int .u8 0) 1 rfl Try.underlying22 info5 rfl (by decide) (by omega) v134 y133 ((l0.take ((wrap64 (8 + x5_1)) : Int).toNat).drop 8) _ _ _ (fun _ => True) (fun _ => False) rfl rfl ?aO ?aR (fun _ _ h => h) (fun _ h => h.elim) ?aF ?aB ?aS ?aL ?_; (case aR => first | (rw [← show ((l0.take ((wrap64 (8 + x5_1)) : Int).toNat).drop 8).length = ((wrap64 (8 + x5_1)).toNat - 8) from (by rw [List.length_drop, List.length_take]; have h_ : ((wrap64 (8 + x5_1)) : Int) ≤ (l0.length : Int) := of_decide_eq_true (by first | (with_reducible assumption) | assumption); omega)]; repeat (first | exact (Kd.C_below HR136.out HB.out) | (with_reducible refine Kd.C_alloc ?_ _) | (with_reducible refine Kd.C_drewN ?_ _) | (with_reducible refine Kd.C_drew ?_))) | (repeat (first | exact (Kd.C_below HR136.out HB.out) | (with_reducible refine Kd.C_alloc ?_ _) | (with_reducible refine Kd.C_drewN ?_ _) | (with_reducible refine Kd.C_drew ?_)))); (case aB => exact (by repeat (first | (with_reducible first | exact HB.out | apply below_alloc | apply pw_below_drewN | apply below_drew1) | exact HB.out))); (case aF => exact (fun _ _ => trivial)); (case aO => exact (by (with_reducible repeat (first | apply Kd.R_alloc | apply Kd.R_drewN | apply Kd.R_drew)); exact HO135.out)); (case aS => exact (below_size (by repeat (first | (with_reducible first | exact HB.out | apply below_alloc | apply pw_below_drewN | apply below_drew1) | exact HB.out)))); (case aL => have := LMc11.out; have hlx_ := (show ((l0.take ((wrap64 (8 + x5_1)) : Int).toNat).drop 8).length = ((wrap64 (8 + x5_1)).toNat - 8) from (by rw [List.length_drop, List.length_take]; have h_ : ((wrap64 (8 + x5_1)) : Int) ≤ (l0.length : Int) := of_decide_eq_true (by first | (with_reducible assumption) | assumption); omega)); omega); intro v138 w27 ho hb hg hat; rw [← Ny137.out] at ho; have n0_ := Aside0.mk (hb); have n1_ := Aside0.mk (ho); clear HB; clear HO135; have HB := n0_; have HO139 := n1_; clear n0_ n1_; clear ho hb hg hat) | ((with_reducible refine gate_dst (N := 39) rfl ?_); (try (refine gate_guard (by rfl) ?_; dsimp only)); refine Kd.R_lit (Kd.int .u8) _ 5 ?hg (N := 39) ?hd (xs := ([] : List Int)) (inner := []) (ok := fun _ => True) (okp := fun _ => True) ?hr ?hp (fun _ hk => hk) trivial (Below.refl _ _) (Nat.le_refl _) (by simp) ?_; (case hd => rfl); (case hg => rfl); (case hr => first | (go_simp; done) | (go_simp; rfl)); (case hp => exact (Reps.none _ _)); intro v141 w28 ho29 hb hg_ hnew_; clear hg_ hnew_; (first | rw [← Ny140.out] at ho29 | (simp only [Int.reduceToNat] at ho29; rw [← Ny140.out] at ho29)); have n0_ := Aside0.mk (Kd.R_elder' (by (with_reducible repeat (first | apply Kd.R_alloc | apply Kd.R_drewN | apply Kd.R_drew)); exact HO139.out) (Kd.R_base ho29) hb); have n1_ := Aside0.mk (Kd.R_lower (Kd.R_new' ho29 (Kd.R_lt (by (with_reducible repeat (first | apply Kd.R_alloc | apply Kd.R_drewN | apply Kd.R_drew)); exact HO139.out))) (below_size (by repeat (first | (with_reducible first | exact HB.out | apply below_alloc | apply pw_below_drewN | apply below_drew1) | exact HB.out)))); have n2_ := Aside0.mk (below_step (by repeat (first | (with_reducible first | exact HB.out | apply below_alloc | apply pw_below_drewN | apply below_drew1) | exact HB.out)) hb); clear HO139; clear HB; have HO139 := n0_; have HO142 := n1_; have HB := n2_; clear n0_ n1_ n2_; clear hb ho29; obtain ⟨i030, hi030, _, hsz30, _⟩ := info_parts info5; obtain ⟨hcut30, hA30, hC30⟩ := print_take_of (P := Try.prog) (Value.int .u8) 0 22 5 .i64 Try.underlying22 hi030 hsz30 A0 c0 l0 4 (by omega) (of_decide_eq_true (by first | (with_reducible assumption) | assumption)) HC0.out; have HR143 := Aside0.mk (Kd.C_of_reads (h1 := fun _ => rfl) (hA30 _ (Kd.reads_of_C HR0.out))); have HC143 := Aside0.mk hC30; clear hA30 hC30 hi030 hsz30) | ((with_reducible refine gate_builtin (b := .append) (xs := #[.tmp 39, .tmp 41]) rfl ?_); (try (refine gate_guard (by rfl) ?_; dsimp only)); at_builtin; refine Kd.R_append_rows (Kd.int .u8) (w0 := w) w.heap.size rfl (.tmp 39) (.tmp 41) 22 5 (.int .u8 0) 1 rfl Try.underlying22 info5 rfl (by decide) (by omega) v141 y140 (l0.take 4) _ _ _ (fun k_ => some k_ ≠ (v138 : Value).ownBlock) (fun _ => False) rfl rfl ?aO ?aR (fun _ _ h => h) (fun _ h => h.elim) ?aF ?aB ?aS ?aL ?_; (case aR => first | (rw [← List.length_take]; repeat (first | exact (Kd.C_below HR143.out HB.out) | (with_reducible refine Kd.C_alloc ?_ _) | (with_reducible refine Kd.C_drewN ?_ _) | (with_reducible refine Kd.C_drew ?_))) | (rw [← show (l0.take 4).length = 4 from (by rw [List.length_take]; have h_ : (4 : Int) ≤ (l0.length : Int) := of_decide_eq_true (by first | (with_reducible assumption) | assumption); omega)]; repeat (first | exact (Kd.C_below HR143.out HB.out) | (with_reducible refine Kd.C_alloc ?_ _) | (with_reducible refine Kd.C_drewN ?_ _) | (with_reducible refine Kd.C_drew ?_))) | (repeat (first | exact (Kd.C_below HR143.out HB.out) | (with_reducible refine Kd.C_alloc ?_ _) | (with_reducible refine Kd.C_drewN ?_ _) | (with_reducible refine Kd.C_drew ?_)))); (case aB => exact (by repeat (first | (with_reducible first | exact HB.out | apply below_alloc | apply pw_below_drewN | apply below_drew1) | exact HB.out))); (case aF => exact (fun k_ hk => Kd.fresh' (Kd.R_lt (by (with_reducible repeat (first | apply Kd.R_alloc | apply Kd.R_drewN | apply Kd.R_drew)); exact HO139.out)) k_ hk)); (case aO => exact (by (with_reducible repeat (first | apply Kd.R_alloc | apply Kd.R_drewN | apply Kd.R_drew)); exact Kd.R_mono HO142.out (fun _ hk => hk.2))); (case aS => exact (below_size (by repeat (first | (with_reducible first | exact HB.out | apply below_alloc | apply pw_below_drewN | apply below_drew1) | exact HB.out)))); (case aL => have := LMc13.out; have hlx_ := (show (l0.take 4).length = 4 from (by rw [List.length_take]; have h_ : (4 : Int) ≤ (l0.length : Int) := of_decide_eq_true (by first | (with_reducible assumption) | assumption); omega)); omega); intro v145 w31 ho hb hg hat; rw [← Ny144.out] at ho; have n0_ := Aside0.mk (Kd.R_after (ok := (fun _ => True)) (by (with_reducible repeat (first | apply Kd.R_alloc | apply Kd.R_drewN | apply Kd.R_drew)); exact HO139.out) hg hat); have n1_ := Aside0.mk (hb); have n2_ := Aside0.mk (ho); clear HO139; clear HB; clear HO142; have HO139 := n0_; have HB := n1_; have HO146 := n2_; clear n0_ n1_ n2_; clear ho hb hg hat; obtain ⟨Ao33, co33, eo33⟩ := Kd.R_slice HO139.out; subst eo33) | ((with_reducible refine gate_builtin (b := .append) (xs := #[.tmp 42, .tmp 43]) rfl ?_); (try (refine gate_guard (by rfl) ?_; dsimp only)); at_builtin; refine Kd.R_append_rows (Kd.int .u8) (w0 := w) w.heap.size rfl (.tmp 42) (.tmp 43) 22 5 (.int .u8 0) 1 rfl Try.underlying22 info5 rfl (by decide) (by omega) v145 y144 y137 _ _ _ (fun k_ => some k_ ≠ (.slice Ao33 y137.length co33 : Value).ownBlock) (fun _ => False) rfl rfl ?aO ?aR (fun _ _ h => h) (fun _ h => h.elim) ?aF ?aB ?aS ?aL ?_; (case aR => repeat (first | exact (Kd.R_reads' HO139.out).2.2 | (with_reducible refine Kd.C_alloc ?_ _) | (with_reducible refine Kd.C_drewN ?_ _) | (with_reducible refine Kd.C_drew ?_))); (case aB => exact (by repeat (first | (with_reducible first | exact HB.out | apply below_alloc | apply pw_below_drewN | apply below_drew1) | exact HB.out))); (case aF => exact (fun k_ hk => Kd.fresh' (Kd.R_lt (by (with_reducible repeat (first | apply Kd.R_alloc | apply Kd.R_drewN | apply Kd.R_drew)); exact HO139.out)) k_ hk)); (case aO => exact (by (with_reducible repeat (first | apply Kd.R_alloc | apply Kd.R_drewN | apply Kd.R_drew)); exact HO146.out)); (case aS => exact (below_size (by repeat (first | (with_reducible first | exact HB.out | apply below_alloc | apply pw_below_drewN | apply below_drew1) | exact HB.out)))); (case aL => have := LMc14.out; omega); intro v148 w32 ho hb hg hat; rw [← Ny147.out] at ho; have n0_ := Aside0.mk (Kd.R_after (ok := (fun _ => True)) (by (with_reducible repeat (first | apply Kd.R_alloc | apply Kd.R_drewN | apply Kd.R_drew)); exact HO139.out) hg hat); have n1_ := Aside0.mk (hb); have n2_ := Aside0.mk (ho); clear HO139; clear HB; clear HO146; have HO139 := n0_; have HB := n1_; have HO149 := n2_; clear n0_ n1_ n2_; clear ho hb hg hat; obtain ⟨Ao34, co34, eo34⟩ := Kd.R_slice HO149.out; subst eo34) | ((with_reducible refine gate_callee (f := 16) rfl ?_); refine goesL_ (some 45) rfl rfl Try.func16 (by kernel_rfl) rfl #[.slice Ao34 y147.length co34] rfl (by (try simp only [List.map_toArray, List.map_cons, List.map_nil]); first | done | rfl | (simp only [List.length_drop, List.length_take]; rfl)) ?_; (with_reducible refine (weighhouseref01_Sum.calls kj5 _ _ y147 t150 _ ?side1 ?side2 A15.out).mono ?_); (case side1 => repeat (first | exact (Kd.R_reads' HO149.out).2.2 | (with_reducible refine Kd.C_alloc ?_ _) | (with_reducible refine Kd.C_drewN ?_ _) | (with_reducible refine Kd.C_drew ?_))); (case side2 => exact (Kd.R_reads' HO149.out).2.1); rintro e w' ⟨rfl, ⟨nd, rfl⟩⟩; refine ⟨_, rfl, ?_⟩; have p151 : 0 ≤ (4 : Int) := (by omega); have q151 : 4 < (l0.length : Int) := of_decide_eq_true (by first | (with_reducible assumption) | assumption); obtain ⟨ad151, e151, hx151_0⟩ := Kd.at_int HR0.out 4 p151 q151; cases e151; (try simp only [show (4 : Int).toNat = 4 from rfl, Nat.reduceMul, Nat.reduceEqDiff, Go.Addr.add, ↓reduceIte] at hx151_0); have qi151 : (4 < l0.length) = True := eq_true (by omega); (try rw [show ((4 : Int)).toNat = 4 from rfl] at hx151_0); replace hx151_0 := (HB.out.cell (World.block_lt_of_cell? w _ hx151_0)).trans hx151_0; replace p151 := eq_true p151; replace q151 := eq_true q151; have p152 : 0 ≤ (5 : Int) := (by omega); have q152 : 5 < (l0.length : Int) := of_decide_eq_true (by first | (with_reducible assumption) | assumption); obtain ⟨ad152, e152, hx152_0⟩ := Kd.at_int HR0.out 5 p152 q152; obtain rfl : ad151 = ad152 := (by injection e152); (try simp only [show (5 : Int).toNat = 5 from rfl, Nat.reduceMul, Nat.reduceEqDiff, Go.Addr.add, ↓reduceIte] at hx152_0); have qi152 : (5 < l0.length) = True := eq_true (by omega); (try rw [show ((5 : Int)).toNat = 5 from rfl] at hx152_0); replace hx152_0 := (HB.out.cell (World.block_lt_of_cell? w _ hx152_0)).trans hx152_0; replace p152 := eq_true p152; replace q152 := eq_true q152; have p153 : 0 ≤ (6 : Int) := (by omega); have q153 : 6 < (l0.length : Int) := of_decide_eq_true (by first | (with_reducible assumption) | assumption); obtain ⟨ad153, e153, hx153_0⟩ := Kd.at_int HR0.out 6 p153 q153; obtain rfl : ad151 = ad153 := (by injection e153); (try simp only [show (6 : Int).toNat = 6 from rfl, Nat.reduceMul, Nat.reduceEqDiff, Go.Addr.add, ↓reduceIte] at hx153_0); have qi153 : (6 < l0.length) = True := eq_true (by omega); (try rw [show ((6 : Int)).toNat = 6 from rfl] at hx153_0); replace hx153_0 := (HB.out.cell (World.block_lt_of_cell? w _ hx153_0)).trans hx153_0; replace p153 := eq_true p153; replace q153 := eq_true q153; have p154 : 0 ≤ (7 : Int) := (by omega); have q154 : 7 < (l0.length : Int) := of_decide_eq_true (by first | (with_reducible assumption) | assumption); obtain ⟨ad154, e154, hx154_0⟩ := Kd.at_int HR0.out 7 p154 q154; obtain rfl : ad151 = ad154 := (by injection e154); (try simp only [show (7 : Int).toNat = 7 from rfl, Nat.reduceMul, Nat.reduceEqDiff, Go.Addr.add, ↓reduceIte] at hx154_0); have qi154 : (7 < l0.length) = True := eq_true (by omega); (try rw [show ((7 : Int)).toNat = 7 from rfl] at hx154_0); replace hx154_0 := (HB.out.cell (World.block_lt_of_cell? w _ hx154_0)).trans hx154_0; replace p154 := eq_true p154; replace q154 := eq_true q154))
                                            go_ret3
                                            exact ⟨_, by first | rfl | (simp [errW_none, errW_some] <;> rfl) | (simp [*, errW_none, errW_some] <;> rfl), by (with_reducible repeat (first | apply Kd.R_alloc | apply Kd.R_drewN | apply Kd.R_drew)); exact Kd.R_mono HO139.out (fun _ hk => trivial), by repeat (first | (with_reducible first | exact HB.out | apply below_alloc | apply pw_below_drewN | apply below_drew1) | exact HB.out)⟩
                                          · rw [if_neg c23] at H
                                            have c23b0 : ((rd l0 7) == ((t150 / 16777216) % 256)) = false := beq_eq_false_iff_ne.mpr c23
                                            have c23b1 : ((rd l0 7) != ((t150 / 16777216) % 256)) = true := bne_iff_ne.mpr c23
                                            simp only [Option.some.injEq, Prod.mk.injEq] at H
                                            obtain ⟨rfl, rfl, rfl⟩ := H
                                            go_wp2_with (first | ((with_reducible refine gate_dst (N := 33) rfl ?_); (try (refine gate_guard (by rfl) ?_; dsimp only)); refine Kd.R_lit (Kd.int .u8) _ 5 ?hg (N := 33) ?hd (xs := ([] : List Int)) (inner := []) (ok := fun _ => True) (okp := fun _ => True) ?hr ?hp (fun _ hk => hk) trivial (Below.refl _ _) (Nat.le_refl _) (by simp) ?_; (case hd => rfl); (case hg => rfl); (case hr => first | (go_simp; done) | (go_simp; rfl)); (case hp => exact (Reps.none _ _)); intro v134 w35 ho36 hb hg_ hnew_; clear hg_ hnew_; (first | rw [← Ny133.out] at ho36 | (simp only [Int.reduceToNat] at ho36; rw [← Ny133.out] at ho36)); have n0_ := Aside0.mk (Kd.R_lower ho36 (below_size (by repeat (first | (with_reducible first | exact HB.out | apply below_alloc | apply pw_below_drewN | apply below_drew1) | exact HB.out)))); have n1_ := Aside0.mk (below_step (by repeat (first | (with_reducible first | exact HB.out | apply below_alloc | apply pw_below_drewN | apply below_drew1) | exact HB.out)) hb); clear HB; have HO135 := n0_; have HB := n1_; clear n0_ n1_; clear hb ho36; obtain ⟨i037, hi037, _, hsz37, _⟩ := info_parts info5; obtain ⟨A37, hcut37, hA37, hC37⟩ := print_mid_of (P := Try.prog) (Value.int .u8) 0 22 5 .i64 .i64 Try.underlying22 hi037 hsz37 A0 c0 l0 8 (wrap64 (8 + x5_1)) (by omega) (by first | omega | exact of_decide_eq_true (by first | (with_reducible assumption) | assumption)) (of_decide_eq_true (by first | (with_reducible assumption) | assumption)) HC0.out; have HR136 := Aside0.mk (Kd.C_of_reads (h1 := fun _ => rfl) (hA37 _ (Kd.reads_of_C HR0.out))); have HC136 := Aside0.mk hC37; clear hA37 hC37 hi037 hsz37) | ((with_reducible refine gate_builtin (b := .append) (xs := #[.tmp 33, .tmp 37]) rfl ?_); (try (refine gate_guard (by rfl) ?_; dsimp only)); at_builtin; refine Kd.R_append_rows (Kd.int .u8) (w0 := w) w.heap.size rfl (.tmp 33) (.tmp 37) 22 5 (.int .u8 0) 1 rfl Try.underlying22 info5 rfl (by decide) (by omega) v134 y133 ((l0.take ((wrap64 (8 + x5_1)) : Int).toNat).drop 8) _ _ _ (fun _ => True) (fun _ => False) rfl rfl ?aO ?aR (fun _ _ h => h) (fun _ h => h.elim) ?aF ?aB ?aS ?aL ?_; (case aR => first | (rw [← show ((l0.take ((wrap64 (8 + x5_1)) : Int).toNat).drop 8).length = ((wrap64 (8 + x5_1)).toNat - 8) from (by rw [List.length_drop, List.length_take]; have h_ : ((wrap64 (8 + x5_1)) : Int) ≤ (l0.length : Int) := of_decide_eq_true (by first | (with_reducible assumption) | assumption); omega)]; repeat (first | exact (Kd.C_below HR136.out HB.out) | (with_reducible refine Kd.C_alloc ?_ _) | (with_reducible refine Kd.C_drewN ?_ _) | (with_reducible refine Kd.C_drew ?_))) | (repeat (first | exact (Kd.C_below HR136.out HB.out) | (with_reducible refine Kd.C_alloc ?_ _) | (with_reducible refine Kd.C_drewN ?_ _) | (with_reducible refine Kd.C_drew ?_)))); (case aB => exact (by repeat (first | (with_reducible first | exact HB.out | apply below_alloc | apply pw_below_drewN | apply below_drew1) | exact HB.out))); (case aF => exact (fun _ _ => trivial)); (case aO => exact (by (with_reducible repeat (first | apply Kd.R_alloc | apply Kd.R_drewN | apply Kd.R_drew)); exact HO135.out)); (case aS => exact (below_size (by repeat (first | (with_reducible first | exact HB.out | apply below_alloc | apply pw_below_drewN | apply below_drew1) | exact HB.out)))); (case aL => have := LMc11.out; have hlx_ := (show ((l0.take ((wrap64 (8 + x5_1)) : Int).toNat).drop 8).length = ((wrap64 (8 + x5_1)).toNat - 8) from (by rw [List.length_drop, List.length_take]; have h_ : ((wrap64 (8 + x5_1)) : Int) ≤ (l0.length : Int) := of_decide_eq_true (by first | (with_reducible assumption) | assumption); omega)); omega); intro v138 w38 ho hb hg hat; rw [← Ny137.out] at ho; have n0_ := Aside0.mk (hb); have n1_ := Aside0.mk (ho); clear HB; clear HO135; have HB := n0_; have HO139 := n1_; clear n0_ n1_; clear ho hb hg hat) | ((with_reducible refine gate_dst (N := 39) rfl ?_); (try (refine gate_guard (by rfl) ?_; dsimp only)); refine Kd.R_lit (Kd.int .u8) _ 5 ?hg (N := 39) ?hd (xs := ([] : List Int)) (inner := []) (ok := fun _ => True) (okp := fun _ => True) ?hr ?hp (fun _ hk => hk) trivial (Below.refl _ _) (Nat.le_refl _) (by simp) ?_; (case hd => rfl); (case hg => rfl); (case hr => first | (go_simp; done) | (go_simp; rfl)); (case hp => exact (Reps.none _ _)); intro v141 w39 ho40 hb hg_ hnew_; clear hg_ hnew_; (first | rw [← Ny140.out] at ho40 | (simp only [Int.reduceToNat] at ho40; rw [← Ny140.out] at ho40)); have n0_ := Aside0.mk (Kd.R_elder' (by (with_reducible repeat (first | apply Kd.R_alloc | apply Kd.R_drewN | apply Kd.R_drew)); exact HO139.out) (Kd.R_base ho40) hb); have n1_ := Aside0.mk (Kd.R_lower (Kd.R_new' ho40 (Kd.R_lt (by (with_reducible repeat (first | apply Kd.R_alloc | apply Kd.R_drewN | apply Kd.R_drew)); exact HO139.out))) (below_size (by repeat (first | (with_reducible first | exact HB.out | apply below_alloc | apply pw_below_drewN | apply below_drew1) | exact HB.out)))); have n2_ := Aside0.mk (below_step (by repeat (first | (with_reducible first | exact HB.out | apply below_alloc | apply pw_below_drewN | apply below_drew1) | exact HB.out)) hb); clear HO139; clear HB; have HO139 := n0_; have HO142 := n1_; have HB := n2_; clear n0_ n1_ n2_; clear hb ho40; obtain ⟨i041, hi041, _, hsz41, _⟩ := info_parts info5; obtain ⟨hcut41, hA41, hC41⟩ := print_take_of (P := Try.prog) (Value.int .u8) 0 22 5 .i64 Try.underlying22 hi041 hsz41 A0 c0 l0 4 (by omega) (of_decide_eq_true (by first | (with_reducible assumption) | assumption)) HC0.out; have HR143 := Aside0.mk (Kd.C_of_reads (h1 := fun _ => rfl) (hA41 _ (Kd.reads_of_C HR0.out))); have HC143 := Aside0.mk hC41; clear hA41 hC41 hi041 hsz41) | ((with_reducible refine gate_builtin (b := .append) (xs := #[.tmp 39, .tmp 41]) rfl ?_); (try (refine gate_guard (by rfl) ?_; dsimp only)); at_builtin; refine Kd.R_append_rows (Kd.int .u8) (w0 := w) w.heap.size rfl (.tmp 39) (.tmp 41) 22 5 (.int .u8 0) 1 rfl Try.underlying22 info5 rfl (by decide) (by omega) v141 y140 (l0.take 4) _ _ _ (fun k_ => some k_ ≠ (v138 : Value).ownBlock) (fun _ => False) rfl rfl ?aO ?aR (fun _ _ h => h) (fun _ h => h.elim) ?aF ?aB ?aS ?aL ?_; (case aR => first | (rw [← List.length_take]; repeat (first | exact (Kd.C_below HR143.out HB.out) | (with_reducible refine Kd.C_alloc ?_ _) | (with_reducible refine Kd.C_drewN ?_ _) | (with_reducible refine Kd.C_drew ?_))) | (rw [← show (l0.take 4).length = 4 from (by rw [List.length_take]; have h_ : (4 : Int) ≤ (l0.length : Int) := of_decide_eq_true (by first | (with_reducible assumption) | assumption); omega)]; repeat (first | exact (Kd.C_below HR143.out HB.out) | (with_reducible refine Kd.C_alloc ?_ _) | (with_reducible refine Kd.C_drewN ?_ _) | (with_reducible refine Kd.C_drew ?_))) | (repeat (first | exact (Kd.C_below HR143.out HB.out) | (with_reducible refine Kd.C_alloc ?_ _) | (with_reducible refine Kd.C_drewN ?_ _) | (with_reducible refine Kd.C_drew ?_)))); (case aB => exact (by repeat (first | (with_reducible first | exact HB.out | apply below_alloc | apply pw_below_drewN | apply below_drew1) | exact HB.out))); (case aF => exact (fun k_ hk => Kd.fresh' (Kd.R_lt (by (with_reducible repeat (first | apply Kd.R_alloc | apply Kd.R_drewN | apply Kd.R_drew)); exact HO139.out)) k_ hk)); (case aO => exact (by (with_reducible repeat (first | apply Kd.R_alloc | apply Kd.R_drewN | apply Kd.R_drew)); exact Kd.R_mono HO142.out (fun _ hk => hk.2))); (case aS => exact (below_size (by repeat (first | (with_reducible first | exact HB.out | apply below_alloc | apply pw_below_drewN | apply below_drew1) | exact HB.out)))); (case aL => have := LMc13.out; have hlx_ := (show (l0.take 4).length = 4 from (by rw [List.length_take]; have h_ : (4 : Int) ≤ (l0.length : Int) := of_decide_eq_true (by first | (with_reducible assumption) | assumption); omega)); omega); intro v145 w42 ho hb hg hat; rw [← Ny144.out] at ho; have n0_ := Aside0.mk (Kd.R_after (ok := (fun _ => True)) (by (with_reducible repeat (first | apply Kd.R_alloc | apply Kd.R_drewN | apply Kd.R_drew)); exact HO139.out) hg hat); have n1_ := Aside0.mk (hb); have n2_ := Aside0.mk (ho); clear HO139; clear HB; clear HO142; have HO139 := n0_; have HB := n1_; have HO146 := n2_; clear n0_ n1_ n2_; clear ho hb hg hat; obtain ⟨Ao44, co44, eo44⟩ := Kd.R_slice HO139.out; subst eo44) | ((with_reducible refine gate_builtin (b := .append) (xs := #[.tmp 42, .tmp 43]) rfl ?_); (try (refine gate_guard (by rfl) ?_; dsimp only)); at_builtin; refine Kd.R_append_rows (Kd.int .u8) (w0 := w) w.heap.size rfl (.tmp 42) (.tmp 43) 22 5 (.int .u8 0) 1 rfl Try.underlying22 info5 rfl (by decide) (by omega) v145 y144 y137 _ _ _ (fun k_ => some k_ ≠ (.slice Ao44 y137.length co44 : Value).ownBlock) (fun _ => False) rfl rfl ?aO ?aR (fun _ _ h => h) (fun _ h => h.elim) ?aF ?aB ?aS ?aL ?_; (case aR => repeat (first | exact (Kd.R_reads' HO139.out).2.2 | (with_reducible refine Kd.C_alloc ?_ _) | (with_reducible refine Kd.C_drewN ?_ _) | (with_reducible refine Kd.C_drew ?_))); (case aB => exact (by repeat (first | (with_reducible first | exact HB.out | apply below_alloc | apply pw_below_drewN | apply below_drew1) | exact HB.out))); (case aF => exact (fun k_ hk => Kd.fresh' (Kd.R_lt (by (with_reducible repeat (first | apply Kd.R_alloc | apply Kd.R_drewN | apply Kd.R_drew)); exact HO139.out)) k_ hk)); (case aO => exact (by (with_reducible repeat (first | apply Kd.R_alloc | apply Kd.R_drewN | apply Kd.R_drew)); exact HO146.out)); (case aS => exact (below_size (by repeat (first | (with_reducible first | exact HB.out | apply below_alloc | apply pw_below_drewN | apply below_drew1) | exact HB.out)))); (case aL => have := LMc14.out; omega); intro v148 w43 ho hb hg hat; rw [← Ny147.out] at ho; have n0_ := Aside0.mk (Kd.R_after (ok := (fun _ => True)) (by (with_reducible repeat (first | apply Kd.R_alloc | apply Kd.R_drewN | apply Kd.R_drew)); exact HO139.out) hg hat); have n1_ := Aside0.mk (hb); have n2_ := Aside0.mk (ho); clear HO139; clear HB; clear HO146; have HO139 := n0_; have HB := n1_; have HO149 := n2_; clear n0_ n1_ n2_; clear ho hb hg hat; obtain ⟨Ao45, co45, eo45⟩ := Kd.R_slice HO149.out; subst eo45) | ((with_reducible refine gate_callee (f := 16) rfl ?_); refine goesL_ (some 45) rfl rfl Try.func16 (by kernel_rfl) rfl #[.slice Ao45 y147.length co45] rfl (by (try simp only [List.map_toArray, List.map_cons, List.map_nil]); first | done | rfl | (simp only [List.length_drop, List.length_take]; rfl)) ?_; (with_reducible refine (weighhouseref01_Sum.calls kj5 _ _ y147 t150 _ ?side1 ?side2 A15.out).mono ?_); (case side1 => repeat (first | exact (Kd.R_reads' HO149.out).2.2 | (with_reducible refine Kd.C_alloc ?_ _) | (with_reducible refine Kd.C_drewN ?_ _) | (with_reducible refine Kd.C_drew ?_))); (case side2 => exact (Kd.R_reads' HO149.out).2.1); rintro e w' ⟨rfl, ⟨nd, rfl⟩⟩; refine ⟨_, rfl, ?_⟩; have p151 : 0 ≤ (4 : Int) := (by omega); have q151 : 4 < (l0.length : Int) := of_decide_eq_true (by first | (with_reducible assumption) | assumption); obtain ⟨ad151, e151, hx151_0⟩ := Kd.at_int HR0.out 4 p151 q151; cases e151; (try simp only [show (4 : Int).toNat = 4 from rfl, Nat.reduceMul, Nat.reduceEqDiff, Go.Addr.add, ↓reduceIte] at hx151_0); have qi151 : (4 < l0.length) = True := eq_true (by omega); (try rw [show ((4 : Int)).toNat = 4 from rfl] at hx151_0); replace hx151_0 := (HB.out.cell (World.block_lt_of_cell? w _ hx151_0)).trans hx151_0; replace p151 := eq_true p151; replace q151 := eq_true q151; have p152 : 0 ≤ (5 : Int) := (by omega); have q152 : 5 < (l0.length : Int) := of_decide_eq_true (by first | (with_reducible assumption) | assumption); obtain ⟨ad152, e152, hx152_0⟩ := Kd.at_int HR0.out 5 p152 q152; obtain rfl : ad151 = ad152 := (by injection e152); (try simp only [show (5 : Int).toNat = 5 from rfl, Nat.reduceMul, Nat.reduceEqDiff, Go.Addr.add, ↓reduceIte] at hx152_0); have qi152 : (5 < l0.length) = True := eq_true (by omega); (try rw [show ((5 : Int)).toNat = 5 from rfl] at hx152_0); replace hx152_0 := (HB.out.cell (World.block_lt_of_cell? w _ hx152_0)).trans hx152_0; replace p152 := eq_true p152; replace q152 := eq_true q152; have p153 : 0 ≤ (6 : Int) := (by omega); have q153 : 6 < (l0.length : Int) := of_decide_eq_true (by first | (with_reducible assumption) | assumption); obtain ⟨ad153, e153, hx153_0⟩ := Kd.at_int HR0.out 6 p153 q153; obtain rfl : ad151 = ad153 := (by injection e153); (try simp only [show (6 : Int).toNat = 6 from rfl, Nat.reduceMul, Nat.reduceEqDiff, Go.Addr.add, ↓reduceIte] at hx153_0); have qi153 : (6 < l0.length) = True := eq_true (by omega); (try rw [show ((6 : Int)).toNat = 6 from rfl] at hx153_0); replace hx153_0 := (HB.out.cell (World.block_lt_of_cell? w _ hx153_0)).trans hx153_0; replace p153 := eq_true p153; replace q153 := eq_true q153; have p154 : 0 ≤ (7 : Int) := (by omega); have q154 : 7 < (l0.length : Int) := of_decide_eq_true (by first | (with_reducible assumption) | assumption); obtain ⟨ad154, e154, hx154_0⟩ := Kd.at_int HR0.out 7 p154 q154; obtain rfl : ad151 = ad154 := (by injection e154); (try simp only [show (7 : Int).toNat = 7 from rfl, Nat.reduceMul, Nat.reduceEqDiff, Go.Addr.add, ↓reduceIte] at hx154_0); have qi154 : (7 < l0.length) = True := eq_true (by omega); (try rw [show ((7 : Int)).toNat = 7 from rfl] at hx154_0); replace hx154_0 := (HB.out.cell (World.block_lt_of_cell? w _ hx154_0)).trans hx154_0; replace p154 := eq_true p154; replace q154 := eq_true q154))
                                            go_ret3
                                            exact ⟨_, by first | rfl | (simp [errW_none, errW_some] <;> rfl) | (simp [*, errW_none, errW_some] <;> rfl), by first | exact Kd.R_nil _ _ _ _ _ | exact Kd.N_nil _ _ _ _ _ | exact Kd.V_nil _ _ _ _ _ | exact Kd.Q_nil _ _ _ _ _ | exact Kd.S_nil _ _ _ _ _, by repeat (first | (with_reducible first | exact HB.out | apply below_alloc | apply pw_below_drewN | apply below_drew1) | exact HB.out)⟩
                                        · rw [if_neg c22] at H
                                          exact absurd H (by simp)
                                      · rw [if_neg c21] at H
                                        have c21b0 : ((rd l0 6) == ((t150 / 65536) % 256)) = false := beq_eq_false_iff_ne.mpr c21
                                        have c21b1 : ((rd l0 6) != ((t150 / 65536) % 256)) = true := bne_iff_ne.mpr c21
                                        simp only [Option.some.injEq, Prod.mk.injEq] at H
                                        obtain ⟨rfl, rfl, rfl⟩ := H
                                        go_wp2_with (first | ((with_reducible refine gate_dst (N := 33) rfl ?_); (try (refine gate_guard (by rfl) ?_; dsimp only)); refine Kd.R_lit (Kd.int .u8) _ 5 ?hg (N := 33) ?hd (xs := ([] : List Int)) (inner := []) (ok := fun _ => True) (okp := fun _ => True) ?hr ?hp (fun _ hk => hk) trivial (Below.refl _ _) (Nat.le_refl _) (by simp) ?_; (case hd => rfl); (case hg => rfl); (case hr => first | (go_simp; done) | (go_simp; rfl)); (case hp => exact (Reps.none _ _)); intro v134 w46 ho47 hb hg_ hnew_; clear hg_ hnew_; (first | rw [← Ny133.out] at ho47 | (simp only [Int.reduceToNat] at ho47; rw [← Ny133.out] at ho47)); have n0_ := Aside0.mk (Kd.R_lower ho47 (below_size (by repeat (first | (with_reducible first | exact HB.out | apply below_alloc | apply pw_below_drewN | apply below_drew1) | exact HB.out)))); have n1_ := Aside0.mk (below_step (by repeat (first | (with_reducible first | exact HB.out | apply below_alloc | apply pw_below_drewN | apply below_drew1) | exact HB.out)) hb); clear HB; have HO135 := n0_; have HB := n1_; clear n0_ n1_; clear hb ho47; obtain ⟨i048, hi048, _, hsz48, _⟩ := info_parts info5; obtain ⟨A48, hcut48, hA48, hC48⟩ := print_mid_of (P := Try.prog) (Value.int .u8) 0 22 5 .i64 .i64 Try.underlying22 hi048 hsz48 A0 c0 l0 8 (wrap64 (8 + x5_1)) (by omega) (by first | omega | exact of_decide_eq_true (by first | (with_reducible assumption) | assumption)) (of_decide_eq_true (by first | (with_reducible assumption) | assumption)) HC0.out; have HR136 := Aside0.mk (Kd.C_of_reads (h1 := fun _ => rfl) (hA48 _ (Kd.reads_of_C HR0.out))); have HC136 := Aside0.mk hC48; clear hA48 hC48 hi048 hsz48) | ((with_reducible refine gate_builtin (b := .append) (xs := #[.tmp 33, .tmp 37]) rfl ?_); (try (refine gate_guard (by rfl) ?_; dsimp only)); at_builtin; refine Kd.R_append_rows (Kd.int .u8) (w0 := w) w.heap.size rfl (.tmp 33) (.tmp 37) 22 5 (.int .u8 0) 1 rfl Try.underlying22 info5 rfl (by decide) (by omega) v134 y133 ((l0.take ((wrap64 (8 + x5_1)) : Int).toNat).drop 8) _ _ _ (fun _ => True) (fun _ => False) rfl rfl ?aO ?aR (fun _ _ h => h) (fun _ h => h.elim) ?aF ?aB ?aS ?aL ?_; (case aR => first | (rw [← show ((l0.take ((wrap64 (8 + x5_1)) : Int).toNat).drop 8).length = ((wrap64 (8 + x5_1)).toNat - 8) from (by rw [List.length_drop, List.length_take]; have h_ : ((wrap64 (8 + x5_1)) : Int) ≤ (l0.length : Int) := of_decide_eq_true (by first | (with_reducible assumption) | assumption); omega)]; repeat (first | exact (Kd.C_below HR136.out HB.out) | (with_reducible refine Kd.C_alloc ?_ _) | (with_reducible refine Kd.C_drewN ?_ _) | (with_reducible refine Kd.C_drew ?_))) | (repeat (first | exact (Kd.C_below HR136.out HB.out) | (with_reducible refine Kd.C_alloc ?_ _) | (with_reducible refine Kd.C_drewN ?_ _) | (with_reducible refine Kd.C_drew ?_)))); (case aB => exact (by repeat (first | (with_reducible first | exact HB.out | apply below_alloc | apply pw_below_drewN | apply below_drew1) | exact HB.out))); (case aF => exact (fun _ _ => trivial)); (case aO => exact (by (with_reducible repeat (first | apply Kd.R_alloc | apply Kd.R_drewN | apply Kd.R_drew)); exact HO135.out)); (case aS => exact (below_size (by repeat (first | (with_reducible first | exact HB.out | apply below_alloc | apply pw_below_drewN | apply below_drew1) | exact HB.out)))); (case aL => have := LMc11.out; have hlx_ := (show ((l0.take ((wrap64 (8 + x5_1)) : Int).toNat).drop 8).length = ((wrap64 (8 + x5_1)).toNat - 8) from (by rw [List.length_drop, List.length_take]; have h_ : ((wrap64 (8 + x5_1)) : Int) ≤ (l0.length : Int) := of_decide_eq_true (by first | (with_reducible assumption) | assumption); omega)); omega); intro v138 w49 ho hb hg hat; rw [← Ny137.out] at ho; have n0_ := Aside0.mk (hb); have n1_ := Aside0.mk (ho); clear HB; clear HO135; have HB := n0_; have HO139 := n1_; clear n0_ n1_; clear ho hb hg hat) | ((with_reducible refine gate_dst (N := 39) rfl ?_); (try (refine gate_guard (by rfl) ?_; dsimp only)); refine Kd.R_lit (Kd.int .u8) _ 5 ?hg (N := 39) ?hd (xs := ([] : List Int)) (inner := []) (ok := fun _ => True) (okp := fun _ => True) ?hr ?hp (fun _ hk => hk) trivial (Below.refl _ _) (Nat.le_refl _) (by simp) ?_; (case hd => rfl); (case hg => rfl); (case hr => first | (go_simp; done) | (go_simp; rfl)); (case hp => exact (Reps.none _ _)); intro v141 w50 ho51 hb hg_ hnew_; clear hg_ hnew_; (first | rw [← Ny140.out] at ho51 | (simp only [Int.reduceToNat] at ho51; rw [← Ny140.out] at ho51)); have n0_ := Aside0.mk (Kd.R_elder' (by (with_reducible repeat (first | apply Kd.R_alloc | apply Kd.R_drewN | apply Kd.R_drew)); exact HO139.out) (Kd.R_base ho51) hb); have n1_ := Aside0.mk (Kd.R_lower (Kd.R_new' ho51 (Kd.R_lt (by (with_reducible repeat (first | apply Kd.R_alloc | apply Kd.R_drewN | apply Kd.R_drew)); exact HO139.out))) (below_size (by repeat (first | (with_reducible first | exact HB.out | apply below_alloc | apply pw_below_drewN | apply below_drew1) | exact HB.out)))); have n2_ := Aside0.mk (below_step (by repeat (first | (with_reducible first | exact HB.out | apply below_alloc | apply pw_below_drewN | apply below_drew1) | exact HB.out)) hb); clear HO139; clear HB; have HO139 := n0_; have HO142 := n1_; have HB := n2_; clear n0_ n1_ n2_; clear hb ho51; obtain ⟨i052, hi052, _, hsz52, _⟩ := info_parts info5; obtain ⟨hcut52, hA52, hC52⟩ := print_take_of (P := Try.prog) (Value.int .u8) 0 22 5 .i64 Try.underlying22 hi052 hsz52 A0 c0 l0 4 (by omega) (of_decide_eq_true (by first | (with_reducible assumption) | assumption)) HC0.out; have HR143 := Aside0.mk (Kd.C_of_reads (h1 := fun _ => rfl) (hA52 _ (Kd.reads_of_C HR0.out))); have HC143 := Aside0.mk hC52; clear hA52 hC52 hi052 hsz52) | ((with_reducible refine gate_builtin (b := .append) (xs := #[.tmp 39, .tmp 41]) rfl ?_); (try (refine gate_guard (by rfl) ?_; dsimp only)); at_builtin; refine Kd.R_append_rows (Kd.int .u8) (w0 := w) w.heap.size rfl (.tmp 39) (.tmp 41) 22 5 (.int .u8 0) 1 rfl Try.underlying22 info5 rfl (by decide) (by omega) v141 y140 (l0.take 4) _ _ _ (fun k_ => some k_ ≠ (v138 : Value).ownBlock) (fun _ => False) rfl rfl ?aO ?aR (fun _ _ h => h) (fun _ h => h.elim) ?aF ?aB ?aS ?aL ?_; (case aR => first | (rw [← List.length_take]; repeat (first | exact (Kd.C_below HR143.out HB.out) | (with_reducible refine Kd.C_alloc ?_ _) | (with_reducible refine Kd.C_drewN ?_ _) | (with_reducible refine Kd.C_drew ?_))) | (rw [← show (l0.take 4).length = 4 from (by rw [List.length_take]; have h_ : (4 : Int) ≤ (l0.length : Int) := of_decide_eq_true (by first | (with_reducible assumption) | assumption); omega)]; repeat (first | exact (Kd.C_below HR143.out HB.out) | (with_reducible refine Kd.C_alloc ?_ _) | (with_reducible refine Kd.C_drewN ?_ _) | (with_reducible refine Kd.C_drew ?_))) | (repeat (first | exact (Kd.C_below HR143.out HB.out) | (with_reducible refine Kd.C_alloc ?_ _) | (with_reducible refine Kd.C_drewN ?_ _) | (with_reducible refine Kd.C_drew ?_)))); (case aB => exact (by repeat (first | (with_reducible first | exact HB.out | apply below_alloc | apply pw_below_drewN | apply below_drew1) | exact HB.out))); (case aF => exact (fun k_ hk => Kd.fresh' (Kd.R_lt (by (with_reducible repeat (first | apply Kd.R_alloc | apply Kd.R_drewN | apply Kd.R_drew)); exact HO139.out)) k_ hk)); (case aO => exact (by (with_reducible repeat (first | apply Kd.R_alloc | apply Kd.R_drewN | apply Kd.R_drew)); exact Kd.R_mono HO142.out (fun _ hk => hk.2))); (case aS => exact (below_size (by repeat (first | (with_reducible first | exact HB.out | apply below_alloc | apply pw_below_drewN | apply below_drew1) | exact HB.out)))); (case aL => have := LMc13.out; have hlx_ := (show (l0.take 4).length = 4 from (by rw [List.length_take]; have h_ : (4 : Int) ≤ (l0.length : Int) := of_decide_eq_true (by first | (with_reducible assumption) | assumption); omega)); omega); intro v145 w53 ho hb hg hat; rw [← Ny144.out] at ho; have n0_ := Aside0.mk (Kd.R_after (ok := (fun _ => True)) (by (with_reducible repeat (first | apply Kd.R_alloc | apply Kd.R_drewN | apply Kd.R_drew)); exact HO139.out) hg hat); have n1_ := Aside0.mk (hb); have n2_ := Aside0.mk (ho); clear HO139; clear HB; clear HO142; have HO139 := n0_; have HB := n1_; have HO146 := n2_; clear n0_ n1_ n2_; clear ho hb hg hat; obtain ⟨Ao55, co55, eo55⟩ := Kd.R_slice HO139.out; subst eo55) | ((with_reducible refine gate_builtin (b := .append) (xs := #[.tmp 42, .tmp 43]) rfl ?_); (try (refine gate_guard (by rfl) ?_; dsimp only)); at_builtin; refine Kd.R_append_rows (Kd.int .u8) (w0 := w) w.heap.size rfl (.tmp 42) (.tmp 43) 22 5 (.int .u8 0) 1 rfl Try.underlying22 info5 rfl (by decide) (by omega) v145 y144 y137 _ _ _ (fun k_ => some k_ ≠ (.slice Ao55 y137.length co55 : Value).ownBlock) (fun _ => False) rfl rfl ?aO ?aR (fun _ _ h => h) (fun _ h => h.elim) ?aF ?aB ?aS ?aL ?_; (case aR => repeat (first | exact (Kd.R_reads' HO139.out).2.2 | (with_reducible refine Kd.C_alloc ?_ _) | (with_reducible refine Kd.C_drewN ?_ _) | (with_reducible refine Kd.C_drew ?_))); (case aB => exact (by repeat (first | (with_reducible first | exact HB.out | apply below_alloc | apply pw_below_drewN | apply below_drew1) | exact HB.out))); (case aF => exact (fun k_ hk => Kd.fresh' (Kd.R_lt (by (with_reducible repeat (first | apply Kd.R_alloc | apply Kd.R_drewN | apply Kd.R_drew)); exact HO139.out)) k_ hk)); (case aO => exact (by (with_reducible repeat (first | apply Kd.R_alloc | apply Kd.R_drewN | apply Kd.R_drew)); exact HO146.out)); (case aS => exact (below_size (by repeat (first | (with_reducible first | exact HB.out | apply below_alloc | apply pw_below_drewN | apply below_drew1) | exact HB.out)))); (case aL => have := LMc14.out; omega); intro v148 w54 ho hb hg hat; rw [← Ny147.out] at ho; have n0_ := Aside0.mk (Kd.R_after (ok := (fun _ => True)) (by (with_reducible repeat (first | apply Kd.R_alloc | apply Kd.R_drewN | apply Kd.R_drew)); exact HO139.out) hg hat); have n1_ := Aside0.mk (hb); have n2_ := Aside0.mk (ho); clear HO139; clear HB; clear HO146; have HO139 := n0_; have HB := n1_; have HO149 := n2_; clear n0_ n1_ n2_; clear ho hb hg hat; obtain ⟨Ao56, co56, eo56⟩ := Kd.R_slice HO149.out; subst eo56) | ((with_reducible refine gate_callee (f := 16) rfl ?_); refine goesL_ (some 45) rfl rfl Try.func16 (by kernel_rfl) rfl #[.slice Ao56 y147.length co56] rfl (by (try simp only [List.map_toArray, List.map_cons, List.map_nil]); first | done | rfl | (simp only [List.length_drop, List.length_take]; rfl)) ?_; (with_reducible refine (weighhouseref01_Sum.calls kj5 _ _ y147 t150 _ ?side1 ?side2 A15.out).mono ?_); (case side1 => repeat (first | exact (Kd.R_reads' HO149.out).2.2 | (with_reducible refine Kd.C_alloc ?_ _) | (with_reducible refine Kd.C_drewN ?_ _) | (with_reducible refine Kd.C_drew ?_))); (case side2 => exact (Kd.R_reads' HO149.out).2.1); rintro e w' ⟨rfl, ⟨nd, rfl⟩⟩; refine ⟨_, rfl, ?_⟩; have p151 : 0 ≤ (4 : Int) := (by omega); have q151 : 4 < (l0.length : Int) := of_decide_eq_true (by first | (with_reducible assumption) | assumption); obtain ⟨ad151, e151, hx151_0⟩ := Kd.at_int HR0.out 4 p151 q151; cases e151; (try simp only [show (4 : Int).toNat = 4 from rfl, Nat.reduceMul, Nat.reduceEqDiff, Go.Addr.add, ↓reduceIte] at hx151_0); have qi151 : (4 < l0.length) = True := eq_true (by omega); (try rw [show ((4 : Int)).toNat = 4 from rfl] at hx151_0); replace hx151_0 := (HB.out.cell (World.block_lt_of_cell? w _ hx151_0)).trans hx151_0; replace p151 := eq_true p151; replace q151 := eq_true q151; have p152 : 0 ≤ (5 : Int) := (by omega); have q152 : 5 < (l0.length : Int) := of_decide_eq_true (by first | (with_reducible assumption) | assumption); obtain ⟨ad152, e152, hx152_0⟩ := Kd.at_int HR0.out 5 p152 q152; obtain rfl : ad151 = ad152 := (by injection e152); (try simp only [show (5 : Int).toNat = 5 from rfl, Nat.reduceMul, Nat.reduceEqDiff, Go.Addr.add, ↓reduceIte] at hx152_0); have qi152 : (5 < l0.length) = True := eq_true (by omega); (try rw [show ((5 : Int)).toNat = 5 from rfl] at hx152_0); replace hx152_0 := (HB.out.cell (World.block_lt_of_cell? w _ hx152_0)).trans hx152_0; replace p152 := eq_true p152; replace q152 := eq_true q152; have p153 : 0 ≤ (6 : Int) := (by omega); have q153 : 6 < (l0.length : Int) := of_decide_eq_true (by first | (with_reducible assumption) | assumption); obtain ⟨ad153, e153, hx153_0⟩ := Kd.at_int HR0.out 6 p153 q153; obtain rfl : ad151 = ad153 := (by injection e153); (try simp only [show (6 : Int).toNat = 6 from rfl, Nat.reduceMul, Nat.reduceEqDiff, Go.Addr.add, ↓reduceIte] at hx153_0); have qi153 : (6 < l0.length) = True := eq_true (by omega); (try rw [show ((6 : Int)).toNat = 6 from rfl] at hx153_0); replace hx153_0 := (HB.out.cell (World.block_lt_of_cell? w _ hx153_0)).trans hx153_0; replace p153 := eq_true p153; replace q153 := eq_true q153))
                                        go_ret3
                                        exact ⟨_, by first | rfl | (simp [errW_none, errW_some] <;> rfl) | (simp [*, errW_none, errW_some] <;> rfl), by first | exact Kd.R_nil _ _ _ _ _ | exact Kd.N_nil _ _ _ _ _ | exact Kd.V_nil _ _ _ _ _ | exact Kd.Q_nil _ _ _ _ _ | exact Kd.S_nil _ _ _ _ _, by repeat (first | (with_reducible first | exact HB.out | apply below_alloc | apply pw_below_drewN | apply below_drew1) | exact HB.out)⟩
                                    · rw [if_neg c20] at H
                                      exact absurd H (by simp)
                                  · rw [if_neg c19] at H
                                    have c19b0 : ((rd l0 5) == ((t150 / 256) % 256)) = false := beq_eq_false_iff_ne.mpr c19
                                    have c19b1 : ((rd l0 5) != ((t150 / 256) % 256)) = true := bne_iff_ne.mpr c19
                                    simp only [Option.some.injEq, Prod.mk.injEq] at H
                                    obtain ⟨rfl, rfl, rfl⟩ := H
                                    go_wp2_with (first | ((with_reducible refine gate_dst (N := 33) rfl ?_); (try (refine gate_guard (by rfl) ?_; dsimp only)); refine Kd.R_lit (Kd.int .u8) _ 5 ?hg (N := 33) ?hd (xs := ([] : List Int)) (inner := []) (ok := fun _ => True) (okp := fun _ => True) ?hr ?hp (fun _ hk => hk) trivial (Below.refl _ _) (Nat.le_refl _) (by simp) ?_; (case hd => rfl); (case hg => rfl); (case hr => first | (go_simp; done) | (go_simp; rfl)); (case hp => exact (Reps.none _ _)); intro v134 w57 ho58 hb hg_ hnew_; clear hg_ hnew_; (first | rw [← Ny133.out] at ho58 | (simp only [Int.reduceToNat] at ho58; rw [← Ny133.out] at ho58)); have n0_ := Aside0.mk (Kd.R_lower ho58 (below_size (by repeat (first | (with_reducible first | exact HB.out | apply below_alloc | apply pw_below_drewN | apply below_drew1) | exact HB.out)))); have n1_ := Aside0.mk (below_step (by repeat (first | (with_reducible first | exact HB.out | apply below_alloc | apply pw_below_drewN | apply below_drew1) | exact HB.out)) hb); clear HB; have HO135 := n0_; have HB := n1_; clear n0_ n1_; clear hb ho58; obtain ⟨i059, hi059, _, hsz59, _⟩ := info_parts info5; obtain ⟨A59, hcut59, hA59, hC59⟩ := print_mid_of (P := Try.prog) (Value.int .u8) 0 22 5 .i64 .i64 Try.underlying22 hi059 hsz59 A0 c0 l0 8 (wrap64 (8 + x5_1)) (by omega) (by first | omega | exact of_decide_eq_true (by first | (with_reducible assumption) | assumption)) (of_decide_eq_true (by first | (with_reducible assumption) | assumption)) HC0.out; have HR136 := Aside0.mk (Kd.C_of_reads (h1 := fun _ => rfl) (hA59 _ (Kd.reads_of_C HR0.out))); have HC136 := Aside0.mk hC59; clear hA59 hC59 hi059 hsz59) | ((with_reducible refine gate_builtin (b := .append) (xs := #[.tmp 33, .tmp 37]) rfl ?_); (try (refine gate_guard (by rfl) ?_; dsimp only)); at_builtin; refine Kd.R_append_rows (Kd.int .u8) (w0 := w) w.heap.size rfl (.tmp 33) (.tmp 37) 22 5 (.int .u8 0) 1 rfl Try.underlying22 info5 rfl (by decide) (by omega) v134 y133 ((l0.take ((wrap64 (8 + x5_1)) : Int).toNat).drop 8) _ _ _ (fun _ => True) (fun _ => False) rfl rfl ?aO ?aR (fun _ _ h => h) (fun _ h => h.elim) ?aF ?aB ?aS ?aL ?_; (case aR => first | (rw [← show ((l0.take ((wrap64 (8 + x5_1)) : Int).toNat).drop 8).length = ((wrap64 (8 + x5_1)).toNat - 8) from (by rw [List.length_drop, List.length_take]; have h_ : ((wrap64 (8 + x5_1)) : Int) ≤ (l0.length : Int) := of_decide_eq_true (by first | (with_reducible assumption) | assumption); omega)]; repeat (first | exact (Kd.C_below HR136.out HB.out) | (with_reducible refine Kd.C_alloc ?_ _) | (with_reducible refine Kd.C_drewN ?_ _) | (with_reducible refine Kd.C_drew ?_))) | (repeat (first | exact (Kd.C_below HR136.out HB.out) | (with_reducible refine Kd.C_alloc ?_ _) | (with_reducible refine Kd.C_drewN ?_ _) | (with_reducible refine Kd.C_drew ?_)))); (case aB => exact (by repeat (first | (with_reducible first | exact HB.out | apply below_alloc | apply pw_below_drewN | apply below_drew1) | exact HB.out))); (case aF => exact (fun _ _ => trivial)); (case aO => exact (by (with_reducible repeat (first | apply Kd.R_alloc | apply Kd.R_drewN | apply Kd.R_drew)); exact HO135.out)); (case aS => exact (below_size (by repeat (first | (with_reducible first | exact HB.out | apply below_alloc | apply pw_below_drewN | apply below_drew1) | exact HB.out)))); (case aL => have := LMc11.out; have hlx_ := (show ((l0.take ((wrap64 (8 + x5_1)) : Int).toNat).drop 8).length = ((wrap64 (8 + x5_1)).toNat - 8) from (by rw [List.length_drop, List.length_take]; have h_ : ((wrap64 (8 + x5_1)) : Int) ≤ (l0.length : Int) := of_decide_eq_true (by first | (with_reducible assumption) | assumption); omega)); omega); intro v138 w60 ho hb hg hat; rw [← Ny137.out] at ho; have n0_ := Aside0.mk (hb); have n1_ := Aside0.mk (ho); clear HB; clear HO135; have HB := n0_; have HO139 := n1_; clear n0_ n1_; clear ho hb hg hat) | ((with_reducible refine gate_dst (N := 39) rfl ?_); (try (refine gate_guard (by rfl) ?_; dsimp only)); refine Kd.R_lit (Kd.int .u8) _ 5 ?hg (N := 39) ?hd (xs := ([] : List Int)) (inner := []) (ok := fun _ => True) (okp := fun _ => True) ?hr ?hp (fun _ hk => hk) trivial (Below.refl _ _) (Nat.le_refl _) (by simp) ?_; (case hd => rfl); (case hg => rfl); (case hr => first | (go_simp; done) | (go_simp; rfl)); (case hp => exact (Reps.none _ _)); intro v141 w61 ho62 hb hg_ hnew_; clear hg_ hnew_; (first | rw [← Ny140.out] at ho62 | (simp only [Int.reduceToNat] at ho62; rw [← Ny140.out] at ho62)); have n0_ := Aside0.mk (Kd.R_elder' (by (with_reducible repeat (first | apply Kd.R_alloc | apply Kd.R_drewN | apply Kd.R_drew)); exact HO139.out) (Kd.R_base ho62) hb); have n1_ := Aside0.mk (Kd.R_lower (Kd.R_new' ho62 (Kd.R_lt (by (with_reducible repeat (first | apply Kd.R_alloc | apply Kd.R_drewN | apply Kd.R_drew)); exact HO139.out))) (below_size (by repeat (first | (with_reducible first | exact HB.out | apply below_alloc | apply pw_below_drewN | apply below_drew1) | exact HB.out)))); have n2_ := Aside0.mk (below_step (by repeat (first | (with_reducible first | exact HB.out | apply below_alloc | apply pw_below_drewN | apply below_drew1) | exact HB.out)) hb); clear HO139; clear HB; have HO139 := n0_; have HO142 := n1_; have HB := n2_; clear n0_ n1_ n2_; clear hb ho62; obtain ⟨i063, hi063, _, hsz63, _⟩ := info_parts info5; obtain ⟨hcut63, hA63, hC63⟩ := print_take_of (P := Try.prog) (Value.int .u8) 0 22 5 .i64 Try.underlying22 hi063 hsz63 A0 c0 l0 4 (by omega) (of_decide_eq_true (by first | (with_reducible assumption) | assumption)) HC0.out; have HR143 := Aside0.mk (Kd.C_of_reads (h1 := fun _ => rfl) (hA63 _ (Kd.reads_of_C HR0.out))); have HC143 := Aside0.mk hC63; clear hA63 hC63 hi063 hsz63) | ((with_reducible refine gate_builtin (b := .append) (xs := #[.tmp 39, .tmp 41]) rfl ?_); (try (refine gate_guard (by rfl) ?_; dsimp only)); at_builtin; refine Kd.R_append_rows (Kd.int .u8) (w0 := w) w.heap.size rfl (.tmp 39) (.tmp 41) 22 5 (.int .u8 0) 1 rfl Try.underlying22 info5 rfl (by decide) (by omega) v141 y140 (l0.take 4) _ _ _ (fun k_ => some k_ ≠ (v138 : Value).ownBlock) (fun _ => False) rfl rfl ?aO ?aR (fun _ _ h => h) (fun _ h => h.elim) ?aF ?aB ?aS ?aL ?_; (case aR => first | (rw [← List.length_take]; repeat (first | exact (Kd.C_below HR143.out HB.out) | (with_reducible refine Kd.C_alloc ?_ _) | (with_reducible refine Kd.C_drewN ?_ _) | (with_reducible refine Kd.C_drew ?_))) | (rw [← show (l0.take 4).length = 4 from (by rw [List.length_take]; have h_ : (4 : Int) ≤ (l0.length : Int) := of_decide_eq_true (by first | (with_reducible assumption) | assumption); omega)]; repeat (first | exact (Kd.C_below HR143.out HB.out) | (with_reducible refine Kd.C_alloc ?_ _) | (with_reducible refine Kd.C_drewN ?_ _) | (with_reducible refine Kd.C_drew ?_))) | (repeat (first | exact (Kd.C_below HR143.out HB.out) | (with_reducible refine Kd.C_alloc ?_ _) | (with_reducible refine Kd.C_drewN ?_ _) | (with_reducible refine Kd.C_drew ?_)))); (case aB => exact (by repeat (first | (with_reducible first | exact HB.out | apply below_alloc | apply pw_below_drewN | apply below_drew1) | exact HB.out))); (case aF => exact (fun k_ hk => Kd.fresh' (Kd.R_lt (by (with_reducible repeat (first | apply Kd.R_alloc | apply Kd.R_drewN | apply Kd.R_drew)); exact HO139.out)) k_ hk)); (case aO => exact (by (with_reducible repeat (first | apply Kd.R_alloc | apply Kd.R_drewN | apply Kd.R_drew)); exact Kd.R_mono HO142.out (fun _ hk => hk.2))); (case aS => exact (below_size (by repeat (first | (with_reducible first | exact HB.out | apply below_alloc | apply pw_below_drewN | apply below_drew1) | exact HB.out)))); (case aL => have := LMc13.out; have hlx_ := (show (l0.take 4).length = 4 from (by rw [List.length_take]; have h_ : (4 : Int) ≤ (l0.length : Int) := of_decide_eq_true (by first | (with_reducible assumption) | assumption); omega)); omega); intro v145 w64 ho hb hg hat; rw [← Ny144.out] at ho; have n0_ := Aside0.mk (Kd.R_after (ok := (fun _ => True)) (by (with_reducible repeat (first | apply Kd.R_alloc | apply Kd.R_drewN | apply Kd.R_drew)); exact HO139.out) hg hat); have n1_ := Aside0.mk (hb); have n2_ := Aside0.mk (ho); clear HO139; clear HB; clear HO142; have HO139 := n0_; have HB := n1_; have HO146 := n2_; clear n0_ n1_ n2_; clear ho hb hg hat; obtain ⟨Ao66, co66, eo66⟩ := Kd.R_slice HO139.out; subst eo66) | ((with_reducible refine gate_builtin (b := .append) (xs := #[.tmp 42, .tmp 43]) rfl ?_); (try (refine gate_guard (by rfl) ?_; dsimp only)); at_builtin; refine Kd.R_append_rows (Kd.int .u8) (w0 := w) w.heap.size rfl (.tmp 42) (.tmp 43) 22 5 (.int .u8 0) 1 rfl Try.underlying22 info5 rfl (by decide) (by omega) v145 y144 y137 _ _ _ (fun k_ => some k_ ≠ (.slice Ao66 y137.length co66 : Value).ownBlock) (fun _ => False) rfl rfl ?aO ?aR (fun _ _ h => h) (fun _ h => h.elim) ?aF ?aB ?aS ?aL ?_; (case aR => repeat (first | exact (Kd.R_reads' HO139.out).2.2 | (with_reducible refine Kd.C_alloc ?_ _) | (with_reducible refine Kd.C_drewN ?_ _) | (with_reducible refine Kd.C_drew ?_))); (case aB => exact (by repeat (first | (with_reducible first | exact HB.out | apply below_alloc | apply pw_below_drewN | apply below_drew1) | exact HB.out))); (case aF => exact (fun k_ hk => Kd.fresh' (Kd.R_lt (by (with_reducible repeat (first | apply Kd.R_alloc | apply Kd.R_drewN | apply Kd.R_drew)); exact HO139.out)) k_ hk)); (case aO => exact (by (with_reducible repeat (first | apply Kd.R_alloc | apply Kd.R_drewN | apply Kd.R_drew)); exact HO146.out)); (case aS => exact (below_size (by repeat (first | (with_reducible first | exact HB.out | apply below_alloc | apply pw_below_drewN | apply below_drew1) | exact HB.out)))); (case aL => have := LMc14.out; omega); intro v148 w65 ho hb hg hat; rw [← Ny147.out] at ho; have n0_ := Aside0.mk (Kd.R_after (ok := (fun _ => True)) (by (with_reducible repeat (first | apply Kd.R_alloc | apply Kd.R_drewN | apply Kd.R_drew)); exact HO139.out) hg hat); have n1_ := Aside0.mk (hb); have n2_ := Aside0.mk (ho); clear HO139; clear HB; clear HO146; have HO139 := n0_; have HB := n1_; have HO149 := n2_; clear n0_ n1_ n2_; clear ho hb hg hat; obtain ⟨Ao67, co67, eo67⟩ := Kd.R_slice HO149.out; subst eo67) | ((with_reducible refine gate_callee (f := 16) rfl ?_); refine goesL_ (some 45) rfl rfl Try.func16 (by kernel_rfl) rfl #[.slice Ao67 y147.length co67] rfl (by (try simp only [List.map_toArray, List.map_cons, List.map_nil]); first | done | rfl | (simp only [List.length_drop, List.length_take]; rfl)) ?_; (with_reducible refine (weighhouseref01_Sum.calls kj5 _ _ y147 t150 _ ?side1 ?side2 A15.out).mono ?_); (case side1 => repeat (first | exact (Kd.R_reads' HO149.out).2.2 | (with_reducible refine Kd.C_alloc ?_ _) | (with_reducible refine Kd.C_drewN ?_ _) | (with_reducible refine Kd.C_drew ?_))); (case side2 => exact (Kd.R_reads' HO149.out).2.1); rintro e w' ⟨rfl, ⟨nd, rfl⟩⟩; refine ⟨_, rfl, ?_⟩; have p151 : 0 ≤ (4 : Int) := (by omega); have q151 : 4 < (l0.length : Int) := of_decide_eq_true (by first | (with_reducible assumption) | assumption); obtain ⟨ad151, e151, hx151_0⟩ := Kd.at_int HR0.out 4 p151 q151; cases e151; (try simp only [show (4 : Int).toNat = 4 from rfl, Nat.reduceMul, Nat.reduceEqDiff, Go.Addr.add, ↓reduceIte] at hx151_0); have qi151 : (4 < l0.length) = True := eq_true (by omega); (try rw [show ((4 : Int)).toNat = 4 from rfl] at hx151_0); replace hx151_0 := (HB.out.cell (World.block_lt_of_cell? w _ hx151_0)).trans hx151_0; replace p151 := eq_true p151; replace q151 := eq_true q151; have p152 : 0 ≤ (5 : Int) := (by omega); have q152 : 5 < (l0.length : Int) := of_decide_eq_true (by first | (with_reducible assumption) | assumption); obtain ⟨ad152, e152, hx152_0⟩ := Kd.at_int HR0.out 5 p152 q152; obtain rfl : ad151 = ad152 := (by injection e152); (try simp only [show (5 : Int).toNat = 5 from rfl, Nat.reduceMul, Nat.reduceEqDiff, Go.Addr.add, ↓reduceIte] at hx152_0); have qi152 : (5 < l0.length) = True := eq_true (by omega); (try rw [show ((5 : Int)).toNat = 5 from rfl] at hx152_0); replace hx152_0 := (HB.out.cell (World.block_lt_of_cell? w _ hx152_0)).trans hx152_0; replace p152 := eq_true p152; replace q152 := eq_true q152))
                                    go_ret3
                                    exact ⟨_, by first | rfl | (simp [errW_none, errW_some] <;> rfl) | (simp [*, errW_none, errW_some] <;> rfl), by first | exact Kd.R_nil _ _ _ _ _ | exact Kd.N_nil _ _ _ _ _ | exact Kd.V_nil _ _ _ _ _ | exact Kd.Q_nil _ _ _ _ _ | exact Kd.S_nil _ _ _ _ _, by repeat (first | (with_reducible first | exact HB.out | apply below_alloc | apply pw_below_drewN | apply below_drew1) | exact HB.out)⟩
                                · rw [if_neg c18] at H
                                  exact absurd H (by simp)
                              · rw [if_neg c17] at H
                                have c17b0 : ((rd l0 4) == ((t150) % 256)) = false := beq_eq_false_iff_ne.mpr c17
                                have c17b1 : ((rd l0 4) != ((t150) % 256)) = true := bne_iff_ne.mpr c17
                                simp only [Option.some.injEq, Prod.mk.injEq] at H
                                obtain ⟨rfl, rfl, rfl⟩ := H
                                go_wp2_with (first | ((with_reducible refine gate_dst (N := 33) rfl ?_); (try (refine gate_guard (by rfl) ?_; dsimp only)); refine Kd.R_lit (Kd.int .u8) _ 5 ?hg (N := 33) ?hd (xs := ([] : List Int)) (inner := []) (ok := fun _ => True) (okp := fun _ => True) ?hr ?hp (fun _ hk => hk) trivial (Below.refl _ _) (Nat.le_refl _) (by simp) ?_; (case hd => rfl); (case hg => rfl); (case hr => first | (go_simp; done) | (go_simp; rfl)); (case hp => exact (Reps.none _ _)); intro v134 w68 ho69 hb hg_ hnew_; clear hg_ hnew_; (first | rw [← Ny133.out] at ho69 | (simp only [Int.reduceToNat] at ho69; rw [← Ny133.out] at ho69)); have n0_ := Aside0.mk (Kd.R_lower ho69 (below_size (by repeat (first | (with_reducible first | exact HB.out | apply below_alloc | apply pw_below_drewN | apply below_drew1) | exact HB.out)))); have n1_ := Aside0.mk (below_step (by repeat (first | (with_reducible first | exact HB.out | apply below_alloc | apply pw_below_drewN | apply below_drew1) | exact HB.out)) hb); clear HB; have HO135 := n0_; have HB := n1_; clear n0_ n1_; clear hb ho69; obtain ⟨i070, hi070, _, hsz70, _⟩ := info_parts info5; obtain ⟨A70, hcut70, hA70, hC70⟩ := print_mid_of (P := Try.prog) (Value.int .u8) 0 22 5 .i64 .i64 Try.underlying22 hi070 hsz70 A0 c0 l0 8 (wrap64 (8 + x5_1)) (by omega) (by first | omega | exact of_decide_eq_true (by first | (with_reducible assumption) | assumption)) (of_decide_eq_true (by first | (with_reducible assumption) | assumption)) HC0.out; have HR136 := Aside0.mk (Kd.C_of_reads (h1 := fun _ => rfl) (hA70 _ (Kd.reads_of_C HR0.out))); have HC136 := Aside0.mk hC70; clear hA70 hC70 hi070 hsz70) | ((with_reducible refine gate_builtin (b := .append) (xs := #[.tmp 33, .tmp 37]) rfl ?_); (try (refine gate_guard (by rfl) ?_; dsimp only)); at_builtin; refine Kd.R_append_rows (Kd.int .u8) (w0 := w) w.heap.size rfl (.tmp 33) (.tmp 37) 22 5 (.int .u8 0) 1 rfl Try.underlying22 info5 rfl (by decide) (by omega) v134 y133 ((l0.take ((wrap64 (8 + x5_1)) : Int).toNat).drop 8) _ _ _ (fun _ => True) (fun _ => False) rfl rfl ?aO ?aR (fun _ _ h => h) (fun _ h => h.elim) ?aF ?aB ?aS ?aL ?_; (case aR => first | (rw [← show ((l0.take ((wrap64 (8 + x5_1)) : Int).toNat).drop 8).length = ((wrap64 (8 + x5_1)).toNat - 8) from (by rw [List.length_drop, List.length_take]; have h_ : ((wrap64 (8 + x5_1)) : Int) ≤ (l0.length : Int) := of_decide_eq_true (by first | (with_reducible assumption) | assumption); omega)]; repeat (first | exact (Kd.C_below HR136.out HB.out) | (with_reducible refine Kd.C_alloc ?_ _) | (with_reducible refine Kd.C_drewN ?_ _) | (with_reducible refine Kd.C_drew ?_))) | (repeat (first | exact (Kd.C_below HR136.out HB.out) | (with_reducible refine Kd.C_alloc ?_ _) | (with_reducible refine Kd.C_drewN ?_ _) | (with_reducible refine Kd.C_drew ?_)))); (case aB => exact (by repeat (first | (with_reducible first | exact HB.out | apply below_alloc | apply pw_below_drewN | apply below_drew1) | exact HB.out))); (case aF => exact (fun _ _ => trivial)); (case aO => exact (by (with_reducible repeat (first | apply Kd.R_alloc | apply Kd.R_drewN | apply Kd.R_drew)); exact HO135.out)); (case aS => exact (below_size (by repeat (first | (with_reducible first | exact HB.out | apply below_alloc | apply pw_below_drewN | apply below_drew1) | exact HB.out)))); (case aL => have := LMc11.out; have hlx_ := (show ((l0.take ((wrap64 (8 + x5_1)) : Int).toNat).drop 8).length = ((wrap64 (8 + x5_1)).toNat - 8) from (by rw [List.length_drop, List.length_take]; have h_ : ((wrap64 (8 + x5_1)) : Int) ≤ (l0.length : Int) := of_decide_eq_true (by first | (with_reducible assumption) | assumption); omega)); omega); intro v138 w71 ho hb hg hat; rw [← Ny137.out] at ho; have n0_ := Aside0.mk (hb); have n1_ := Aside0.mk (ho); clear HB; clear HO135; have HB := n0_; have HO139 := n1_; clear n0_ n1_; clear ho hb hg hat) | ((with_reducible refine gate_dst (N := 39) rfl ?_); (try (refine gate_guard (by rfl) ?_; dsimp only)); refine Kd.R_lit (Kd.int .u8) _ 5 ?hg (N := 39) ?hd (xs := ([] : List Int)) (inner := []) (ok := fun _ => True) (okp := fun _ => True) ?hr ?hp (fun _ hk => hk) trivial (Below.refl _ _) (Nat.le_refl _) (by simp) ?_; (case hd => rfl); (case hg => rfl); (case hr => first | (go_simp; done) | (go_simp; rfl)); (case hp => exact (Reps.none _ _)); intro v141 w72 ho73 hb hg_ hnew_; clear hg_ hnew_; (first | rw [← Ny140.out] at ho73 | (simp only [Int.reduceToNat] at ho73; rw [← Ny140.out] at ho73)); have n0_ := Aside0.mk (Kd.R_elder' (by (with_reducible repeat (first | apply Kd.R_alloc | apply Kd.R_drewN | apply Kd.R_drew)); exact HO139.out) (Kd.R_base ho73) hb); have n1_ := Aside0.mk (Kd.R_lower (Kd.R_new' ho73 (Kd.R_lt (by (with_reducible repeat (first | apply Kd.R_alloc | apply Kd.R_drewN | apply Kd.R_drew)); exact HO139.out))) (below_size (by repeat (first | (with_reducible first | exact HB.out | apply below_alloc | apply pw_below_drewN | apply below_drew1) | exact HB.out)))); have n2_ := Aside0.mk (below_step (by repeat (first | (with_reducible first | exact HB.out | apply below_alloc | apply pw_below_drewN | apply below_drew1) | exact HB.out)) hb); clear HO139; clear HB; have HO139 := n0_; have HO142 := n1_; have HB := n2_; clear n0_ n1_ n2_; clear hb ho73; obtain ⟨i074, hi074, _, hsz74, _⟩ := info_parts info5; obtain ⟨hcut74, hA74, hC74⟩ := print_take_of (P := Try.prog) (Value.int .u8) 0 22 5 .i64 Try.underlying22 hi074 hsz74 A0 c0 l0 4 (by omega) (of_decide_eq_true (by first | (with_reducible assumption) | assumption)) HC0.out; have HR143 := Aside0.mk (Kd.C_of_reads (h1 := fun _ => rfl) (hA74 _ (Kd.reads_of_C HR0.out))); have HC143 := Aside0.mk hC74; clear hA74 hC74 hi074 hsz74) | ((with_reducible refine gate_builtin (b := .append) (xs := #[.tmp 39, .tmp 41]) rfl ?_); (try (refine gate_guard (by rfl) ?_; dsimp only)); at_builtin; refine Kd.R_append_rows (Kd.int .u8) (w0 := w) w.heap.size rfl (.tmp 39) (.tmp 41) 22 5 (.int .u8 0) 1 rfl Try.underlying22 info5 rfl (by decide) (by omega) v141 y140 (l0.take 4) _ _ _ (fun k_ => some k_ ≠ (v138 : Value).ownBlock) (fun _ => False) rfl rfl ?aO ?aR (fun _ _ h => h) (fun _ h => h.elim) ?aF ?aB ?aS ?aL ?_; (case aR => first | (rw [← List.length_take]; repeat (first | exact (Kd.C_below HR143.out HB.out) | (with_reducible refine Kd.C_alloc ?_ _) | (with_reducible refine Kd.C_drewN ?_ _) | (with_reducible refine Kd.C_drew ?_))) | (rw [← show (l0.take 4).length = 4 from (by rw [List.length_take]; have h_ : (4 : Int) ≤ (l0.length : Int) := of_decide_eq_true (by first | (with_reducible assumption) | assumption); omega)]; repeat (first | exact (Kd.C_below HR143.out HB.out) | (with_reducible refine Kd.C_alloc ?_ _) | (with_reducible refine Kd.C_drewN ?_ _) | (with_reducible refine Kd.C_drew ?_))) | (repeat (first | exact (Kd.C_below HR143.out HB.out) | (with_reducible refine Kd.C_alloc ?_ _) | (with_reducible refine Kd.C_drewN ?_ _) | (with_reducible refine Kd.C_drew ?_)))); (case aB => exact (by repeat (first | (with_reducible first | exact HB.out | apply below_alloc | apply pw_below_drewN | apply below_drew1) | exact HB.out))); (case aF => exact (fun k_ hk => Kd.fresh' (Kd.R_lt (by (with_reducible repeat (first | apply Kd.R_alloc | apply Kd.R_drewN | apply Kd.R_drew)); exact HO139.out)) k_ hk)); (case aO => exact (by (with_reducible repeat (first | apply Kd.R_alloc | apply Kd.R_drewN | apply Kd.R_drew)); exact Kd.R_mono HO142.out (fun _ hk => hk.2))); (case aS => exact (below_size (by repeat (first | (with_reducible first | exact HB.out | apply below_alloc | apply pw_below_drewN | apply below_drew1) | exact HB.out)))); (case aL => have := LMc13.out; have hlx_ := (show (l0.take 4).length = 4 from (by rw [List.length_take]; have h_ : (4 : Int) ≤ (l0.length : Int) := of_decide_eq_true (by first | (with_reducible assumption) | assumption); omega)); omega); intro v145 w75 ho hb hg hat; rw [← Ny144.out] at ho; have n0_ := Aside0.mk (Kd.R_after (ok := (fun _ => True)) (by (with_reducible repeat (first | apply Kd.R_alloc | apply Kd.R_drewN | apply Kd.R_drew)); exact HO139.out) hg hat); have n1_ := Aside0.mk (hb); have n2_ := Aside0.mk (ho); clear HO139; clear HB; clear HO142; have HO139 := n0_; have HB := n1_; have HO146 := n2_; clear n0_ n1_ n2_; clear ho hb hg hat; obtain ⟨Ao77, co77, eo77⟩ := Kd.R_slice HO139.out; subst eo77) | ((with_reducible refine gate_builtin (b := .append) (xs := #[.tmp 42, .tmp 43]) rfl ?_); (try (refine gate_guard (by rfl) ?_; dsimp only)); at_builtin; refine Kd.R_append_rows (Kd.int .u8) (w0 := w) w.heap.size rfl (.tmp 42) (.tmp 43) 22 5 (.int .u8 0) 1 rfl Try.underlying22 info5 rfl (by decide) (by omega) v145 y144 y137 _ _ _ (fun k_ => some k_ ≠ (.slice Ao77 y137.length co77 : Value).ownBlock) (fun _ => False) rfl rfl ?aO ?aR (fun _ _ h => h) (fun _ h => h.elim) ?aF ?aB ?aS ?aL ?_; (case aR => repeat (first | exact (Kd.R_reads' HO139.out).2.2 | (with_reducible refine Kd.C_alloc ?_ _) | (with_reducible refine Kd.C_drewN ?_ _) | (with_reducible refine Kd.C_drew ?_))); (case aB => exact (by repeat (first | (with_reducible first | exact HB.out | apply below_alloc | apply pw_below_drewN | apply below_drew1) | exact HB.out))); (case aF => exact (fun k_ hk => Kd.fresh' (Kd.R_lt (by (with_reducible repeat (first | apply Kd.R_alloc | apply Kd.R_drewN | apply Kd.R_drew)); exact HO139.out)) k_ hk)); (case aO => exact (by (with_reducible repeat (first | apply Kd.R_alloc | apply Kd.R_drewN | apply Kd.R_drew)); exact HO146.out)); (case aS => exact (below_size (by repeat (first | (with_reducible first | exact HB.out | apply below_alloc | apply pw_below_drewN | apply below_drew1) | exact HB.out)))); (case aL => have := LMc14.out; omega); intro v148 w76 ho hb hg hat; rw [← Ny147.out] at ho; have n0_ := Aside0.mk (Kd.R_after (ok := (fun _ => True)) (by (with_reducible repeat (first | apply Kd.R_alloc | apply Kd.R_drewN | apply Kd.R_drew)); exact HO139.out) hg hat); have n1_ := Aside0.mk (hb); have n2_ := Aside0.mk (ho); clear HO139; clear HB; clear HO146; have HO139 := n0_; have HB := n1_; have HO149 := n2_; clear n0_ n1_ n2_; clear ho hb hg hat; obtain ⟨Ao78, co78, eo78⟩ := Kd.R_slice HO149.out; subst eo78) | ((with_reducible refine gate_callee (f := 16) rfl ?_); refine goesL_ (some 45) rfl rfl Try.func16 (by kernel_rfl) rfl #[.slice Ao78 y147.length co78] rfl (by (try simp only [List.map_toArray, List.map_cons, List.map_nil]); first | done | rfl | (simp only [List.length_drop, List.length_take]; rfl)) ?_; (with_reducible refine (weighhouseref01_Sum.calls kj5 _ _ y147 t150 _ ?side1 ?side2 A15.out).mono ?_); (case side1 => repeat (first | exact (Kd.R_reads' HO149.out).2.2 | (with_reducible refine Kd.C_alloc ?_ _) | (with_reducible refine Kd.C_drewN ?_ _) | (with_reducible refine Kd.C_drew ?_))); (case side2 => exact (Kd.R_reads' HO149.out).2.1); rintro e w' ⟨rfl, ⟨nd, rfl⟩⟩; refine ⟨_, rfl, ?_⟩; have p151 : 0 ≤ (4 : Int) := (by omega); have q151 : 4 < (l0.length : Int) := of_decide_eq_true (by first | (with_reducible assumption) | assumption); obtain ⟨ad151, e151, hx151_0⟩ := Kd.at_int HR0.out 4 p151 q151; cases e151; (try simp only [show (4 : Int).toNat = 4 from rfl, Nat.reduceMul, Nat.reduceEqDiff, Go.Addr.add, ↓reduceIte] at hx151_0); have qi151 : (4 < l0.length) = True := eq_true (by omega); (try rw [show ((4 : Int)).toNat = 4 from rfl] at hx151_0); replace hx151_0 := (HB.out.cell (World.block_lt_of_cell? w _ hx151_0)).trans hx151_0; replace p151 := eq_true p151; replace q151 := eq_true q151))
                                go_ret3
                                exact ⟨_, by first | rfl | (simp [errW_none, errW_some] <;> rfl) | (simp [*, errW_none, errW_some] <;> rfl), by first | exact Kd.R_nil _ _ _ _ _ | exact Kd.N_nil _ _ _ _ _ | exact Kd.V_nil _ _ _ _ _ | exact Kd.Q_nil _ _ _ _ _ | exact Kd.S_nil _ _ _ _ _, by repeat (first | (with_reducible first | exact HB.out | apply below_alloc | apply pw_below_drewN | apply below_drew1) | exact HB.out)⟩
                            · rw [if_neg c16] at H
                              exact absurd H (by simp)
                          · rw [if_neg c14] at H
                            exact absurd H (by simp)
                        · rw [if_neg c13] at H
                          exact absurd H (by simp)
                      · rw [if_neg c12] at H
                        exact absurd H (by simp)
                    · rw [if_neg c11] at H
                      exact absurd H (by simp)
                  · rw [if_neg c10] at H
                    exact absurd H (by simp)
                · rw [if_neg c9] at H
                  exact absurd H (by simp)

end Go.Proofs.Ytjkimfjhfncldaa.Q
end

section
-- written by hprint.py (a program of these sessions) out of the translation; Lean checks it
namespace Go.Proofs.Ytjkimfjhfncldaa.Q
open Go.RowKit Go.Proofs.YtjkimfjhfncldaaW.Hb Go.Proofs.YtjkimfjhfncldaaW.PrintWords Go.Proofs.YtjkimfjhfncldaaW.PrintLast Go.Proofs.YtjkimfjhfncldaaW.PrintMore
attribute [local go_sem] max2_int min2_int max_two min_two max_three min_three max_four min_four   -- for this text's walks alone
set_option linter.unusedVariables false
set_option linter.unusedSimpArgs false

/-! ### weighhouseref01_Frames: function 21 -/
def weighhouseref01_Frames.l0 : Nat → List Int → List (List Int) → Int → Option ((List (List Int)) × Int)
  | 0, _, _, _ => none
  | k + 1, x0, x4, x5 => if 0 ≤ x5 then (if x5 ≤ (x0.length : Int) then ((weighhouseref01_one.f k (x0.drop (x5 : Int).toNat)).bind fun bt156 => (if bt156.2.2 = true then (if x4.length < 5864062014805 then (weighhouseref01_Frames.l0 k x0 (x4 ++ [bt156.1]) (wrap64 (x5 + bt156.2.1))) else (none)) else (some (x4, x5)))) else (none)) else (none)
def weighhouseref01_Frames.f (k : Nat) (l0 : List Int) : Option ((List (List Int)) × Int) := weighhouseref01_Frames.l0 k l0 ([] : List (List Int)) 0
theorem weighhouseref01_Frames.mono_l : ∀ k, (∀ y0 y1 y2, LeO (weighhouseref01_Frames.l0 k y0 y1 y2) (weighhouseref01_Frames.l0 (k + 1) y0 y1 y2))
  | 0 => fun _ _ _ r h => by simp [weighhouseref01_Frames.l0] at h
  | k + 1 => by
    have ih0 := weighhouseref01_Frames.mono_l k
    · intro y0 y1 y2
      unfold weighhouseref01_Frames.l0
      repeat' first
      | (with_reducible exact ih0 _ _ _)
      | (with_reducible exact weighhouseref01_one.mono _ _)
      | (with_reducible exact LeO.refl _)
      | (with_reducible exact LeO.none _)
      | (with_reducible refine LeO.ite ?_ ?_)
      | (with_reducible refine LeO.bind ?_ (fun _ => ?_))
      | exact ih0 _ _ _
      | exact weighhouseref01_one.mono _ _
      | exact LeO.none _
      | refine LeO.ite ?_ ?_
      | refine LeO.bind ?_ (fun _ => ?_)
theorem weighhouseref01_Frames.mono : ∀ a0 k, LeO (weighhouseref01_Frames.f k a0) (weighhouseref01_Frames.f (k + 1) a0) := by
  intro a0 k
  have ih0 := weighhouseref01_Frames.mono_l k
  unfold weighhouseref01_Frames.f
  repeat' first
      | (with_reducible exact ih0 _ _ _)
      | (with_reducible exact weighhouseref01_one.mono _ _)
      | (with_reducible exact LeO.refl _)
      | (with_reducible exact LeO.none _)
      | (with_reducible refine LeO.ite ?_ ?_)
      | (with_reducible refine LeO.bind ?_ (fun _ => ?_))
      | exact ih0 _ _ _
      | exact weighhouseref01_one.mono _ _
      | exact LeO.none _
      | refine LeO.ite ?_ ?_
      | refine LeO.bind ?_ (fun _ => ?_)
set_option maxHeartbeats 8000000 in
set_option maxRecDepth 100000 in
theorem weighhouseref01_Frames.calls (k : Nat) (A0 : Option Addr) (c0 : Nat) (l0 : List Int) (r1 : List (List Int)) (r2 : Int) (w : World) (hr0 : Kd.C (Kd.int .u8) w A0 l0.length l0) (hc0 : l0.length ≤ c0) (h : weighhouseref01_Frames.f k l0 = some (r1, r2)) :
    Calls Try.prog 21 #[.slice A0 l0.length c0] w fun e w' => ∃ v0_ : Value, e = .returned (.tuple #[v0_, .int .i64 r2]) ∧ Kd.S (Kd.slice 5 (Kd.int .u8)) 22 w' w.heap.size (fun _ => True) v0_ r1 ∧ Below w.heap.size w w' := by
  have HR0 := Aside0.mk hr0
  have HC0 := Aside0.mk hc0
  clear hr0 hc0
  have HB := Aside0.mk (Below.refl w.heap.size w)
  have H : (weighhouseref01_Frames.l0 k l0 ([] : List (List Int)) 0) = some (r1, r2) := h
  clear h
  have H' := Aside0.mk H
  clear H
  go_enter Try.func21, Try.ntmps21
  go_wp2
  go_loopg [4, 5] k (fun kq v4 v5 w' => ∃ (x4_1 : List (List Int)) (x5_1 : Int), v5 = .int .i64 x5_1 ∧ Aside0 (weighhouseref01_Frames.l0 kq l0 x4_1 x5_1 = some (r1, r2)) ∧ Aside0 (kq ≤ k) ∧ Aside0 (Kd.S (Kd.slice 5 (Kd.int .u8)) 22 w' w.heap.size (fun _ => True) v4 x4_1) ∧ Aside0 (Below w.heap.size w w'))
  case atStart => exact ⟨(([] : List (List Int))), (0), (by first | rfl | (simp; done) | (simp [*]; done)), H', ⟨Nat.le_refl _⟩, ⟨by first | exact Kd.S_nil _ _ _ _ _ | exact Kd.N_nil _ _ _ _ _ | exact Kd.V_nil _ _ _ _ _ | exact Kd.Q_nil _ _ _ _ _ | exact Kd.R_nil _ _ _ _ _⟩, ⟨by repeat (first | (with_reducible first | exact HB.out | apply below_alloc | apply pw_below_drewN | apply below_drew1) | exact HB.out)⟩⟩
  case round =>
    clear H'
    obtain ⟨x4_1, x5_1, rfl, HA, HK1, HO_4, HB⟩ := hrel
    cases gk with
    | zero => exact absurd HA.out (by simp [weighhouseref01_Frames.l0])
    | succ k1 =>
      have H := HA.out
      clear HA
      simp only [weighhouseref01_Frames.l0] at H
      by_cases c2 : 0 ≤ x5_1
      · rw [if_pos c2] at H
        have c2b0 := eq_true c2
        have c2b1 : decide (0 ≤ x5_1) = true := decide_eq_true c2
        clear c2
        by_cases c3 : x5_1 ≤ (l0.length : Int)
        · rw [if_pos c3] at H
          have c3b0 := eq_true c3
          have c3b1 : decide (x5_1 ≤ (l0.length : Int)) = true := decide_eq_true c3
          clear c3
          replace H := Option.bind_eq_some_iff.mp H
          obtain ⟨⟨t156, t157, t158⟩, A40, H⟩ := H
          replace H : (if t158 = true then (if x4_1.length < 5864062014805 then (weighhouseref01_Frames.l0 k1 l0 (x4_1 ++ [t156]) (wrap64 (x5_1 + t157))) else (none)) else (some (x4_1, x5_1))) = some (r1, r2) := H
          have A4 := Aside0.mk A40
          clear A40
          by_cases c5 : t158 = true
          · subst c5
            have H1 : (if x4_1.length < 5864062014805 then (weighhouseref01_Frames.l0 k1 l0 (x4_1 ++ [t156]) (wrap64 (x5_1 + t157))) else (none)) = some (r1, r2) := by rw [if_pos rfl] at H; exact H
            clear H
            have H := H1
            clear H1
            by_cases c6 : x4_1.length < 5864062014805
            · rw [if_pos c6] at H
              have LMc6 := Aside0.mk c6
              clear c6
              obtain ⟨y161, hy161⟩ : ∃ y_ : List (List Int), y_ = (x4_1 ++ [t156]) := ⟨_, rfl⟩
              replace H : (weighhouseref01_Frames.l0 k1 l0 y161 (wrap64 (x5_1 + t157))) = some (r1, r2) := by first | (rw [hy161]; with_reducible exact H) | (have H2_ := (Option.bind_some _ _).symm.trans H; rw [hy161]; with_reducible exact H2_) | (have H2_ := (Option.bind_some _ _).symm.trans H; with_reducible exact H2_) | with_reducible exact H | (rw [hy161]; exact H) | exact H
              have Ny161 := Aside0.mk hy161
              clear hy161
              have H' := Aside0.mk H
              clear H
              obtain ⟨i07, hi07, _, hsz7, _⟩ := info_parts info5
              obtain ⟨A7, hcut7, hA7, hC7⟩ := print_drop_of (P := Try.prog) (Value.int .u8) 0 22 5 .i64 Try.underlying22 hi07 hsz7 A0 c0 l0 x5_1 (of_decide_eq_true (by first | (with_reducible assumption) | assumption)) (of_decide_eq_true (by first | (with_reducible assumption) | assumption)) HC0.out
              have HR155 := Aside0.mk (Kd.C_of_reads (h1 := fun _ => rfl) (hA7 _ (Kd.reads_of_C HR0.out)))
              have HC155 := Aside0.mk hC7
              clear hA7 hC7 hi07 hsz7
              go_wp2_with (first | ((with_reducible refine gate_callee (f := 50) rfl ?_); refine goesL_ (some 13) rfl rfl Try.func50 (by kernel_rfl) rfl #[.slice A7 (l0.drop (x5_1 : Int).toNat).length (c0 - x5_1.toNat)] rfl (by (try simp only [List.map_toArray, List.map_cons, List.map_nil]); first | done | (rw [show (l0.drop (x5_1 : Int).toNat).length = (l0.length - x5_1.toNat) from List.length_drop] <;> rfl) | rfl | (simp only [List.length_drop, List.length_take]; rfl)) ?_; (with_reducible refine (weighhouseref01_one.calls k1 _ _ (l0.drop (x5_1 : Int).toNat) t156 t157 true _ ?side1 ?side2 A4.out).mono ?_); (case side1 => repeat (first | exact (Kd.C_below HR155.out HB.out) | (with_reducible refine Kd.C_alloc ?_ _) | (with_reducible refine Kd.C_drewN ?_ _) | (with_reducible refine Kd.C_drew ?_))); (case side2 => exact HC155.out); rintro e w8 ⟨v159, rfl, ho0, hb⟩; refine ⟨_, rfl, ?_⟩; have n0_ := Aside0.mk (Kd.S_elder' (by (with_reducible repeat (first | apply Kd.S_alloc | apply Kd.S_drewN | apply Kd.S_drew)); exact HO_4.out) (Kd.R_base ho0) hb); have n1_ := Aside0.mk (Kd.R_lower ho0 (below_size (by repeat (first | (with_reducible first | exact HB.out | apply below_alloc | apply pw_below_drewN | apply below_drew1) | exact HB.out)))); have n2_ := Aside0.mk (below_step (by repeat (first | (with_reducible first | exact HB.out | apply below_alloc | apply pw_below_drewN | apply below_drew1) | exact HB.out)) hb); clear HO_4; clear HB; have HO_4 := n0_; have HO160 := n1_; have HB := n2_; clear n0_ n1_ n2_; (try clear hb); (try clear hb2); (try clear hk); (try clear hi); (try clear ho0); obtain ⟨Ao10, co10, eo10⟩ := Kd.R_slice HO160.out; subst eo10) | ((with_reducible refine gate_builtin (b := .append) (xs := #[.tmp 21, .tmp 23]) rfl ?_); at_builtin; refine Kd.S_append (Kd.slice 5 (Kd.int .u8)) (w0 := w) w.heap.size rfl (.tmp 21) (.tmp 23) 35 22 (.slice none 0 0) 24 rfl Try.underlying35 info22 rfl (by decide) (by omega) u4 x4_1 t156 [.slice Ao10 t156.length co10] (fun _ => True) (fun k_ => some k_ = (.slice Ao10 t156.length co10 : Value).ownBlock) rfl rfl ?aP (fun k_ hk_ => ((Kd.R_mono (ok' := fun k_ => ((fun _ => True)) k_ ∧ some k_ ≠ (u4 : Value).ownBlock) (Kd.R_apart' (HO160.out) (Kd.S_typed HO_4.out) (by decide)) (fun k_ hk => ⟨trivial, hk.2⟩))).1 k_ hk_.symm) ?aF ?aO ?aB ?aS ?aL ?_; (case aP => exact Kd.M_row (Kd.R_mono (Kd.R_tight rfl (Kd.R_mono (ok' := fun k_ => ((fun _ => True)) k_ ∧ some k_ ≠ (u4 : Value).ownBlock) (Kd.R_apart' (HO160.out) (Kd.S_typed HO_4.out) (by decide)) (fun k_ hk => ⟨trivial, hk.2⟩))) (fun _ h_ => h_))); (case aB => exact (by repeat (first | (with_reducible first | exact HB.out | apply below_alloc | apply pw_below_drewN | apply below_drew1) | exact HB.out))); (case aF => exact (fun _ _ => trivial)); (case aO => exact (by (with_reducible repeat (first | apply Kd.S_alloc | apply Kd.S_drewN | apply Kd.S_drew)); exact Kd.S_mono HO_4.out (fun k_ hk => ⟨trivial, fun e_ => hk.2 e_⟩))); (case aS => exact (below_size (by repeat (first | (with_reducible first | exact HB.out | apply below_alloc | apply pw_below_drewN | apply below_drew1) | exact HB.out)))); (case aL => have := LMc6.out; omega); intro v162 w9 ho hb hg hat; rw [← Ny161.out] at ho; have n0_ := Aside0.mk (hb); have n1_ := Aside0.mk (ho); clear HB; clear HO_4; clear HO160; have HB := n0_; have HO163 := n1_; clear n0_ n1_; clear ho hb hg hat))
              go_roundg k1
              case measure => have := HK1.out; omega
              case rel => exact ⟨(y161), (wrap64 (x5_1 + t157)), (by first | rfl | (simp; done) | (simp [*]; done)), H', ⟨by have := HK1.out; omega⟩, ⟨by (with_reducible repeat (first | apply Kd.S_alloc | apply Kd.S_drewN | apply Kd.S_drew)); exact HO163.out⟩, ⟨by repeat (first | (with_reducible first | exact HB.out | apply below_alloc | apply pw_below_drewN | apply below_drew1) | exact HB.out)⟩⟩
            · rw [if_neg c6] at H
              exact absurd H (by simp)
          · replace c5 := Bool.eq_false_iff.mpr c5
            subst c5
            have H1 : (some (x4_1, x5_1)) = some (r1, r2) := by rw [if_neg (show ¬ (false = true) by decide)] at H; exact H
            clear H
            have H := H1
            clear H1
            simp only [Option.some.injEq, Prod.mk.injEq] at H
            obtain ⟨rfl, rfl⟩ := H
            obtain ⟨i011, hi011, _, hsz11, _⟩ := info_parts info5
            obtain ⟨A11, hcut11, hA11, hC11⟩ := print_drop_of (P := Try.prog) (Value.int .u8) 0 22 5 .i64 Try.underlying22 hi011 hsz11 A0 c0 l0 x5_1 (of_decide_eq_true (by first | (with_reducible assumption) | assumption)) (of_decide_eq_true (by first | (with_reducible assumption) | assumption)) HC0.out
            have HR155 := Aside0.mk (Kd.C_of_reads (h1 := fun _ => rfl) (hA11 _ (Kd.reads_of_C HR0.out)))
            have HC155 := Aside0.mk hC11
            clear hA11 hC11 hi011 hsz11
            go_wp2_with (first | ((with_reducible refine gate_callee (f := 50) rfl ?_); refine goesL_ (some 13) rfl rfl Try.func50 (by kernel_rfl) rfl #[.slice A11 (l0.drop (x5_1 : Int).toNat).length (c0 - x5_1.toNat)] rfl (by (try simp only [List.map_toArray, List.map_cons, List.map_nil]); first | done | (rw [show (l0.drop (x5_1 : Int).toNat).length = (l0.length - x5_1.toNat) from List.length_drop] <;> rfl) | rfl | (simp only [List.length_drop, List.length_take]; rfl)) ?_; (with_reducible refine (weighhouseref01_one.calls k1 _ _ (l0.drop (x5_1 : Int).toNat) t156 t157 false _ ?side1 ?side2 A4.out).mono ?_); (case side1 => repeat (first | exact (Kd.C_below HR155.out HB.out) | (with_reducible refine Kd.C_alloc ?_ _) | (with_reducible refine Kd.C_drewN ?_ _) | (with_reducible refine Kd.C_drew ?_))); (case side2 => exact HC155.out); rintro e w12 ⟨v159, rfl, ho0, hb⟩; refine ⟨_, rfl, ?_⟩; have n0_ := Aside0.mk (Kd.S_elder' (by (with_reducible repeat (first | apply Kd.S_alloc | apply Kd.S_drewN | apply Kd.S_drew)); exact HO_4.out) (Kd.R_base ho0) hb); have n1_ := Aside0.mk (Kd.R_lower ho0 (below_size (by repeat (first | (with_reducible first | exact HB.out | apply below_alloc | apply pw_below_drewN | apply below_drew1) | exact HB.out)))); have n2_ := Aside0.mk (below_step (by repeat (first | (with_reducible first | exact HB.out | apply below_alloc | apply pw_below_drewN | apply below_drew1) | exact HB.out)) hb); clear HO_4; clear HB; have HO_4 := n0_; have HO160 := n1_; have HB := n2_; clear n0_ n1_ n2_; (try clear hb); (try clear hb2); (try clear hk); (try clear hi); (try clear ho0)))
            go_ret2
            exact ⟨_, by first | rfl | (simp [errW_none, errW_some] <;> rfl) | (simp [*, errW_none, errW_some] <;> rfl), by (with_reducible repeat (first | apply Kd.S_alloc | apply Kd.S_drewN | apply Kd.S_drew)); exact Kd.S_mono HO_4.out (fun _ hk => trivial), by repeat (first | (with_reducible first | exact HB.out | apply below_alloc | apply pw_below_drewN | apply below_drew1) | exact HB.out)⟩
        · rw [if_neg c3] at H
          exact absurd H (by simp)
      · rw [if_neg c2] at H
        exact absurd H (by simp)

end Go.Proofs.Ytjkimfjhfncldaa.Q
end

section
-- written by hprint.py (a program of these sessions) out of the translation; Lean checks it
namespace Go.Proofs.Ytjkimfjhfncldaa.Q
open Go.RowKit Go.Proofs.YtjkimfjhfncldaaW.Hb Go.Proofs.YtjkimfjhfncldaaW.PrintWords Go.Proofs.YtjkimfjhfncldaaW.PrintLast Go.Proofs.YtjkimfjhfncldaaW.PrintMore
attribute [local go_sem] max2_int min2_int max_two min_two max_three min_three max_four min_four   -- for this text's walks alone
set_option linter.unusedVariables false
set_option linter.unusedSimpArgs false

/-! ### weighhouselaw01_WireFrames: function 4, by hand -/
theorem rowLend {T T' : Nat} {W : World} {base : Nat} {ok : Nat → Prop} {A : Option Addr} {n cap : Nat} {L : List (List Int)} (h : Kd.S (Kd.slice T (Kd.int .u8)) T' W base ok (.slice A n cap) L) (i : Nat) (x : List Int) (hx : L[i]? = some x) :
    ∃ g A2 c2, A = some ⟨g, 0, none⟩ ∧ W.cell? ⟨g, i, none⟩ = some (.slice A2 x.length c2) ∧ (Kd.int .u8).C W A2 x.length x := by
  have hn := (Kd.S_reads' h).1
  have hil : i < L.length := (List.getElem?_eq_some_iff.1 hx).1
  obtain ⟨g, cp, hv, _⟩ := Kd.S_form h (by omega)
  injection hv with h1 h2 h3
  subst h1 h2 h3
  obtain ⟨oki, c, hcl, ⟨v, rfl, hR⟩, hcc, _⟩ := Kd.S_lend h [] (i : Int) (by omega) (by omega)
  rw [Int.toNat_natCast] at hR hcc
  rw [List.getD_eq_getElem?_getD, hx] at hR
  obtain ⟨A2, c2, rfl, hc2, hC⟩ := Kd.R_reads hR
  refine ⟨g, A2, c2, rfl, ?_, hC⟩
  have := hcc 0 _ rfl
  have e : i * (Kd.slice T (Kd.int .u8)).sz + 0 = i := by show i * 1 + 0 = i; omega
  rw [e] at this
  exact this
theorem rowStore {T T' : Nat} {W : World} {base : Nat} {ok : Nat → Prop} {A : Option Addr} {n cap : Nat} {L : List (List Int)} (h : Kd.S (Kd.slice T (Kd.int .u8)) T' W base ok (.slice A n cap) L) (i k : Nat) (x : List Int) (hx : L[i]? = some x) (hk : k < x.length) :
    ∃ g g2 c2 z, A = some ⟨g, 0, none⟩ ∧ W.cell? ⟨g, i, none⟩ = some (.slice (some ⟨g2, 0, none⟩) x.length c2) ∧ W.cell? ⟨g2, k, none⟩ = some (.int .u8 z) ∧ W.frozen? ⟨g2, k, none⟩ = false ∧ ok g2 ∧ base ≤ g2 ∧
      ∀ u : Int, Kd.S (Kd.slice T (Kd.int .u8)) T' (W.setCell ⟨g2, k, none⟩ (.int .u8 u)) base ok (.slice A n cap) (L.set i (x.set k u)) := by
  have hn := (Kd.S_reads' h).1
  have hil : i < L.length := (List.getElem?_eq_some_iff.1 hx).1
  obtain ⟨g, cp, hv, _⟩ := Kd.S_form h (by omega)
  injection hv with h1 h2 h3
  subst h1 h2 h3
  obtain ⟨oki, c, hcl, ⟨v, rfl, hR⟩, hcc, hoki, hback⟩ := Kd.S_borrow h [] (i : Int) (by omega) (by omega)
  rw [Int.toNat_natCast] at hR hcc
  rw [List.getD_eq_getElem?_getD, hx] at hR
  replace hR : (Kd.int .u8).R T W base oki v x := hR
  obtain ⟨g2, c2, rfl, hb2, hl2, _⟩ := Kd.R_form hR (by omega)
  have hcel := Kd.R_celln (0 : Int) hR (k : Int) (by omega) (by omega)
  rw [Int.toNat_natCast] at hcel
  have ho2 : oki g2 := hR.1 g2 (by simp [Value.ownBlock])
  refine ⟨g, g2, c2, _, rfl, ?_, hcel.1, hcel.2, (hoki g2 ho2).1, hb2, fun u => ?_⟩
  · have := hcc 0 _ rfl
    have e : i * (Kd.slice T (Kd.int .u8)).sz + 0 = i := by show i * 1 + 0 = i; omega
    rw [e, Addr.add_lit, Nat.zero_add] at this
    exact this
  · have hp := Kd.R_putg hR (k : Int) u
    rw [Int.toNat_natCast] at hp
    exact hback hp.2 (by rintro _ ⟨⟩; exact ho2) ⟨_, rfl, hp.1⟩
def RowsFrom (L L' : List (List Int)) (i : Nat) : Prop := L'.length = L.length ∧ ∀ j, i ≤ j → L'[j]? = L[j]?
def RowsAt (L L' : List (List Int)) (i m : Nat) : Prop := RowsFrom L L' (i + 1) ∧ ∃ x, L'[i]? = some x ∧ x.length = m
theorem RowsAt.set {L L' : List (List Int)} {i m : Nat} (h : RowsAt L L' i m) {x' : List Int} (hx : x'.length = m) : RowsAt L (L'.set i x') i m := by
  obtain ⟨⟨h1, h2⟩, x, h3, h4⟩ := h
  have hi : i < L'.length := (List.getElem?_eq_some_iff.1 h3).1
  exact ⟨⟨by rw [List.length_set]; exact h1, fun j hj => by rw [List.getElem?_set_ne (by omega)]; exact h2 j hj⟩, x', by rw [List.getElem?_set_self hi], hx⟩
def weighhouselaw01_WireFrames.f (k : Nat) (l0 : List Int) : Option Bool := (wire_Frames.f k l0).bind fun p => (weighhouseref01_Frames.f k l0).bind fun q => if (decide ((l0.length + 2) * 1 ≤ 140737488355328) && decide (p = q)) = true then some true else none
set_option maxRecDepth 100000 in
set_option maxHeartbeats 4000000 in
theorem weighhouselaw01_WireFrames.calls (k : Nat) (A0 : Option Addr) (c0 : Nat) (l0 : List Int) (r : Bool) (w : World) (hr0 : Kd.C (Kd.int .u8) w A0 l0.length l0) (hc0 : l0.length ≤ c0) (h : weighhouselaw01_WireFrames.f k l0 = some r) :
    Calls Try.prog 4 #[.slice A0 l0.length c0] w fun e w' => e = .returned (.bool r) ∧ Below w.heap.size w w' := by
  unfold weighhouselaw01_WireFrames.f at h
  obtain ⟨⟨L, e⟩, ha, h⟩ := Option.bind_eq_some_iff.1 h
  obtain ⟨q, hb, h⟩ := Option.bind_eq_some_iff.1 h
  split at h
  rotate_left
  · cases h
  rename_i hall
  obtain rfl := Option.some.inj h
  simp only [Bool.and_eq_true, decide_eq_true_eq] at hall
  obtain ⟨hl, rfl⟩ := hall
  have HR := Aside0.mk hr0
  have HA := Aside0.mk ha
  have HB := Aside0.mk hb
  have HL := Aside0.mk hl
  have HTK := Aside0.mk (show (l0 ++ [77, 78]).take l0.length = l0 by simp)
  have HLN := Aside0.mk (show (l0 ++ [77, 78]).length = l0.length + 2 by simp)
  clear h hr0 ha hb hl
  go_enter Try.func4, Try.ntmps4
  go_upto_region 2 with (go_at_call 12; (with_reducible refine (lentRoom A0 c0 l0 w HR.out hc0 HL.out).mono ?_); rintro e w1 ⟨A1, c1, rfl, hR1, hB1⟩; obtain ⟨_, hcc1, hC1⟩ := Kd.R_reads' hR1; have HCF := Aside0.mk (show (Kd.int .u8).C w1 A1 (l0.length + 2) (l0 ++ [77, 78]) from by rw [HLN.out] at hC1; exact hC1); have HC1 := Aside0.mk (show (Kd.int .u8).C w1 A1 l0.length l0 from by have h2 := Kd.C_take (m := l0.length) hC1 (by have := HLN.out; omega); rw [HTK.out] at h2; exact h2); have HB1 := Aside0.mk hB1; clear hR1 hB1 hC1)
  have hc1 : l0.length ≤ c1 := by omega
  have HCC1 := Aside0.mk hcc1
  clear hcc1
  go_upto_region 3 with (go_at_call 20; (with_reducible refine (wire_Frames.calls k A1 c1 l0 L e w1 HC1.out hc1 HA.out).mono ?_); rintro e2 w2 ⟨v2, rfl, hS2, hB2⟩; have HS2 := Aside0.mk hS2; have HB2 := Aside0.mk hB2; have HB2w := Aside0.mk (HB1.out.trans (hB2.mono HB1.out.size)); clear hS2 hB2)
  go_upto_region 4 with (go_at_call 21; (with_reducible refine (weighhouseref01_Frames.calls k A0 c0 l0 L e w2 (Kd.C_below HR.out HB2w.out) hc0 HB.out).mono ?_); rintro e3 w3 ⟨v3, rfl, hS3, hB3⟩; have HS3 := Aside0.mk (Kd.S_mono (ok' := fun k => w2.heap.size ≤ k) (Kd.S_bound hS3) (fun k hk => hk.2.1)); have HS23 := Aside0.mk (Kd.S_below (Kd.S_mono (ok' := fun k => k < w2.heap.size) (Kd.S_bound HS2.out) (fun k hk => hk.2.2.1)) hB3); have HB3 := Aside0.mk (HB2.out.trans (hB3.mono HB2.out.size)); clear hS3 hB3)
  obtain ⟨A2, c2, rfl⟩ := Kd.S_slice HS23.out
  obtain ⟨A3, c3, rfl⟩ := Kd.S_slice HS3.out
  have HSZ := Aside0.mk HB1.out.size
  have HSZ2 := Aside0.mk HB2.out.size
  obtain ⟨n, hn⟩ : ∃ n, L.length = n := ⟨_, rfl⟩
  rw [hn] at HS23 HS3 ⊢
  have HN := Aside0.mk hn
  clear hn HS2 HB2 HB2w HA HB
  go_wp2
  go_loopw [8] (fun v wr => ∃ (i : Nat) (L' : List (List Int)), i ≤ n ∧ v = .int .i64 i ∧ Aside0 (RowsFrom L L' i) ∧ Aside0 (Kd.S (Kd.slice 5 (Kd.int .u8)) 22 wr w1.heap.size (fun k => k < w2.heap.size) (.slice A2 n c2) L') ∧ Aside0 (Kd.S (Kd.slice 5 (Kd.int .u8)) 22 wr w2.heap.size (fun k => w2.heap.size ≤ k) (.slice A3 n c3) L) ∧ Aside0 (Below w1.heap.size w1 wr)) (fun v _ => n - (intOf v).toNat)
  case atStart => exact ⟨0, L, Nat.zero_le _, rfl, ⟨⟨rfl, fun _ _ => rfl⟩⟩, HS23, HS3, HB3⟩
  case round =>
    clear HS23 HS3 HB3
    obtain ⟨i, L', hi, rfl, HF, HSr, HMr, HBr⟩ := hrel
    by_cases hlt : i < n
    · obtain ⟨x, hx⟩ : ∃ x, L[i]? = some x := ⟨_, List.getElem?_eq_getElem (by have := HN.out; omega)⟩
      have hx' : L'[i]? = some x := by rw [HF.out.2 i (Nat.le_refl _)]; exact hx
      have hxm : x.length ≤ 9223372036854775807 := by
        obtain ⟨_, _, _, _, _, hC⟩ := rowLend HSr.out i x hx'
        exact hC.2.1
      have hlti : (i : Int) < (n : Int) := by omega
      have hnm : n ≤ 9223372036854775807 := by
        obtain ⟨_, _, _, _, hC⟩ := Kd.S_reads HMr.out
        have := hC.2.1
        have := HN.out
        omega
      go_upto_region 9 with (fail)
      have HSd := Aside0.mk (Kd.S_drew HSr.out)
      have HMd := Aside0.mk (Kd.S_drew HMr.out)
      have HBd := Aside0.mk (HBr.out.drew)
      obtain ⟨gL, AL, cL, rfl, hcl, hCL⟩ := rowLend HSd.out i x hx'
      obtain ⟨gM, AM, cM, rfl, hcm, hCM⟩ := rowLend HMd.out i x hx
      have hcv1 := Kd.C_string (P := Try.prog) (src := 22) (dst := 9) (e := 5) (c := cL) Try.underlying22 Try.underlying5 Try.underlying9 hCL
      have hcv2 := Kd.C_string (P := Try.prog) (src := 22) (dst := 9) (e := 5) (c := cM) Try.underlying22 Try.underlying5 Try.underlying9 hCM
      obtain ⟨sB, hsB⟩ : ∃ sB, strOfNums x = sB := ⟨_, rfl⟩
      rw [hsB] at hcv1 hcv2
      have HX := Aside0.mk hx'
      have HF2 := Aside0.mk (show RowsAt L L' i x.length from ⟨⟨HF.out.1, fun j hj => HF.out.2 j (by omega)⟩, x, hx', rfl⟩)
      clear hsB hCL hCM hx hx' HSr HMr HBr HF
      refine start_ (n := 11) (S := fun w' => w' = wr.drew ∧ w'.cell? ⟨gL, i, none⟩ = some (.slice AL x.length cL) ∧ w'.cell? ⟨gM, i, none⟩ = some (.slice AM x.length cM)) (ds := []) #[false, false, false, false, false, false, false, false, false, false, false] (by kernel_rfl) rfl rfl ⟨rfl, hcl, hcm⟩ (fun hHeld => ?_)
      generalize wr.drew = wd at HSd HMd HBd hcl hcm hcv1 hcv2 hHeld ⊢
      refine pure_ (i := 0) (N := some 38) (v := ?_) (a' := ?_) #[true, false, false, false, false, false, false, false, false, false, false] rfl rfl (by kernel_rfl) (fun _ _ _ h => h) (Or.inl ⟨by rfl, ?_⟩) ?_ ?_
      rotate_left
      · intro w'
        go_simp
        with_reducible rfl
      rotate_left
      · simp only [Act.put, List.setIfInBounds_toArray, List.set_cons_zero, List.set_cons_succ, i64_w, i32_w]
        rfl
      refine pure_ (i := 1) (N := some 39) (v := ?_) (a' := ?_) #[true, true, false, false, false, false, false, false, false, false, false] rfl rfl (by kernel_rfl) (fun _ _ _ h => h) (Or.inl ⟨by rfl, ?_⟩) ?_ ?_
      rotate_left
      · intro w'
        go_simp
        with_reducible rfl
      rotate_left
      · simp only [Act.put, List.setIfInBounds_toArray, List.set_cons_zero, List.set_cons_succ, i64_w, i32_w]
        rfl
      refine pure_ (i := 2) (N := some 40) (v := ?_) (a' := ?_) #[true, true, true, false, false, false, false, false, false, false, false] rfl rfl (by kernel_rfl) (fun _ _ _ h => h) (Or.inl ⟨by rfl, ?_⟩) ?_ ?_
      rotate_left
      · intro w'
        go_simp
        with_reducible rfl
      rotate_left
      · simp only [Act.put, List.setIfInBounds_toArray, List.set_cons_zero, List.set_cons_succ, i64_w, i32_w]
        rfl
      refine pure_ (i := 5) (N := some 43) (v := ?_) (a' := ?_) #[true, true, true, false, false, true, false, false, false, false, false] rfl rfl (by kernel_rfl) (fun _ _ _ h => h) (Or.inl ⟨by rfl, ?_⟩) ?_ ?_
      rotate_left
      · intro w'
        go_simp
        with_reducible rfl
      rotate_left
      · simp only [Act.put, List.setIfInBounds_toArray, List.set_cons_zero, List.set_cons_succ, i64_w, i32_w]
        rfl
      refine pure_ (i := 6) (N := some 44) (v := ?_) (a' := ?_) #[true, true, true, false, false, true, true, false, false, false, false] rfl rfl (by kernel_rfl) (fun _ _ _ h => h) (Or.inl ⟨by rfl, ?_⟩) ?_ ?_
      rotate_left
      · intro w'
        go_simp
        with_reducible rfl
      rotate_left
      · simp only [Act.put, List.setIfInBounds_toArray, List.set_cons_zero, List.set_cons_succ, i64_w, i32_w]
        rfl
      refine pure_ (i := 7) (N := some 45) (v := ?_) (a' := ?_) #[true, true, true, false, false, true, true, true, false, false, false] rfl rfl (by kernel_rfl) (fun _ _ _ h => h) (Or.inl ⟨by rfl, ?_⟩) ?_ ?_
      rotate_left
      · intro w'
        go_simp
        with_reducible rfl
      rotate_left
      · simp only [Act.put, List.setIfInBounds_toArray, List.set_cons_zero, List.set_cons_succ, i64_w, i32_w]
        rfl
      refine take_ (i := 3) (N := some 41) (v := ?_) (a' := ?_) #[true, true, true, true, false, true, true, true, false, false, false] rfl rfl (by kernel_rfl) (fun _ _ _ h => h) (Or.inl ⟨by rfl, ?_⟩) hHeld ?_ ?_
      rotate_left
      · rintro w' ⟨s0, s1, s2⟩
        go_simp
        with_reducible rfl
      rotate_left
      · simp only [Act.put, List.setIfInBounds_toArray, List.set_cons_zero, List.set_cons_succ, i64_w, i32_w]
        rfl
      refine take_ (i := 4) (N := some 42) (v := ?_) (a' := ?_) #[true, true, true, true, true, true, true, true, false, false, false] rfl rfl (by kernel_rfl) (fun _ _ _ h => h) (Or.inl ⟨by rfl, ?_⟩) hHeld ?_ ?_
      rotate_left
      · rintro w' ⟨s0, s1, s2⟩
        go_simp
        with_reducible rfl
      rotate_left
      · simp only [Act.put, List.setIfInBounds_toArray, List.set_cons_zero, List.set_cons_succ, i64_w, i32_w]
        rfl
      refine take_ (i := 8) (N := some 46) (v := ?_) (a' := ?_) #[true, true, true, true, true, true, true, true, true, false, false] rfl rfl (by kernel_rfl) (fun _ _ _ h => h) (Or.inl ⟨by rfl, ?_⟩) hHeld ?_ ?_
      rotate_left
      · rintro w' ⟨s0, s1, s2⟩
        go_simp
        with_reducible rfl
      rotate_left
      · simp only [Act.put, List.setIfInBounds_toArray, List.set_cons_zero, List.set_cons_succ, i64_w, i32_w]
        rfl
      refine take_ (i := 9) (N := some 47) (v := ?_) (a' := ?_) #[true, true, true, true, true, true, true, true, true, true, false] rfl rfl (by kernel_rfl) (fun _ _ _ h => h) (Or.inl ⟨by rfl, ?_⟩) hHeld ?_ ?_
      rotate_left
      · rintro w' ⟨s0, s1, s2⟩
        go_simp
        with_reducible rfl
      rotate_left
      · simp only [Act.put, List.setIfInBounds_toArray, List.set_cons_zero, List.set_cons_succ, i64_w, i32_w]
        rfl
      refine pure_ (i := 10) (N := some 48) (v := ?_) (a' := ?_) #[true, true, true, true, true, true, true, true, true, true, true] rfl rfl (by kernel_rfl) (fun _ _ _ h => h) (Or.inl ⟨by rfl, ?_⟩) ?_ ?_
      rotate_left
      · intro w'
        go_simp
        with_reducible rfl
      rotate_left
      · simp only [Act.put, List.setIfInBounds_toArray, List.set_cons_zero, List.set_cons_succ, i64_w, i32_w]
        rfl
      refine done_ (by kernel_rfl) ?_
      clear hHeld hcl hcm hcv1 hcv2
      go_wp2
      obtain ⟨m, hm⟩ : ∃ m, x.length = m := ⟨_, rfl⟩
      rw [hm] at HF2 hxm
      clear hm HX
      go_loopw [9] (fun v wl => ∃ (j : Nat) (L2 : List (List Int)), j ≤ m ∧ v = .int .i64 j ∧ Aside0 (RowsAt L L2 i m) ∧ Aside0 (Kd.S (Kd.slice 5 (Kd.int .u8)) 22 wl w1.heap.size (fun k => k < w2.heap.size) (.slice (some ⟨gL, 0, none⟩) n c2) L2) ∧ Aside0 (Kd.S (Kd.slice 5 (Kd.int .u8)) 22 wl w2.heap.size (fun k => w2.heap.size ≤ k) (.slice (some ⟨gM, 0, none⟩) n c3) L) ∧ Aside0 (Below w1.heap.size w1 wl)) (fun v _ => m - (intOf v).toNat)
      case atStart => exact ⟨0, L', Nat.zero_le _, rfl, HF2, HSd, HMd, HBd⟩
      case round =>
        clear HF2 HSd HMd HBd
        obtain ⟨j, L2, hj, rfl, HF3, HS4, HM4, HB4⟩ := hrel
        obtain ⟨y, hy, hym⟩ := HF3.out.2
        by_cases hjm : j < m
        · obtain ⟨g, A5, c5, eg, hc0_, _⟩ := rowLend HS4.out i y hy
          injection eg with eg
          injection eg with eg _
          subst eg
          rw [hym] at hc0_
          have hjm' : (j : Int) < (m : Int) := by omega
          go_upto_region 14 with (fail)
          have HS5 := Aside0.mk (Kd.S_drew HS4.out)
          have HM5 := Aside0.mk (Kd.S_drew HM4.out)
          have HB5 := Aside0.mk HB4.out.drew
          obtain ⟨g, g2, c4, z, eg, hc1_, hc2_, hc3_, ho4, hb4, hst⟩ := rowStore HS5.out i j y hy (by omega)
          injection eg with eg
          injection eg with eg _
          subst eg
          have HST := Aside0.mk hst
          have HO4 := Aside0.mk ho4
          have HY := Aside0.mk hym
          rw [hym] at hc1_
          clear hst ho4 hy hym hc0_ HS4 HM4 HB4
          refine start_ (n := 15) (S := fun w' => w'.cell? ⟨gL, i, none⟩ = some (.slice (some ⟨g2, 0, none⟩) m c4) ∧ w'.cell? ⟨g2, j, none⟩ = some (.int .u8 z)) (ds := [14]) #[false, false, false, false, false, false, false, false, false, false, false, false, false, false, false] (by kernel_rfl) rfl rfl ⟨hc1_, hc2_⟩ (fun hHeld => ?_)
          generalize wr.drew = wd at HS5 HM5 HB5 hc1_ hc2_ hc3_ HST hHeld ⊢
          refine pure_ (i := 0) (N := some 58) (v := ?_) (a' := ?_) #[true, false, false, false, false, false, false, false, false, false, false, false, false, false, false] rfl rfl (by kernel_rfl) (fun _ _ _ h => h) (Or.inl ⟨by rfl, ?_⟩) ?_ ?_
          rotate_left
          · intro w'
            go_simp
            with_reducible rfl
          rotate_left
          · simp only [Act.put, List.setIfInBounds_toArray, List.set_cons_zero, List.set_cons_succ, i64_w, i32_w]
            rfl
          refine pure_ (i := 1) (N := some 59) (v := ?_) (a' := ?_) #[true, true, false, false, false, false, false, false, false, false, false, false, false, false, false] rfl rfl (by kernel_rfl) (fun _ _ _ h => h) (Or.inl ⟨by rfl, ?_⟩) ?_ ?_
          rotate_left
          · intro w'
            go_simp
            with_reducible rfl
          rotate_left
          · simp only [Act.put, List.setIfInBounds_toArray, List.set_cons_zero, List.set_cons_succ, i64_w, i32_w]
            rfl
          refine pure_ (i := 2) (N := some 60) (v := ?_) (a' := ?_) #[true, true, true, false, false, false, false, false, false, false, false, false, false, false, false] rfl rfl (by kernel_rfl) (fun _ _ _ h => h) (Or.inl ⟨by rfl, ?_⟩) ?_ ?_
          rotate_left
          · intro w'
            go_simp
            with_reducible rfl
          rotate_left
          · simp only [Act.put, List.setIfInBounds_toArray, List.set_cons_zero, List.set_cons_succ, i64_w, i32_w]
            rfl
          refine pure_ (i := 4) (N := some 62) (v := ?_) (a' := ?_) #[true, true, true, false, true, false, false, false, false, false, false, false, false, false, false] rfl rfl (by kernel_rfl) (fun _ _ _ h => h) (Or.inl ⟨by rfl, ?_⟩) ?_ ?_
          rotate_left
          · intro w'
            go_simp
            with_reducible rfl
          rotate_left
          · simp only [Act.put, List.setIfInBounds_toArray, List.set_cons_zero, List.set_cons_succ, i64_w, i32_w]
            rfl
          refine pure_ (i := 5) (N := some 63) (v := ?_) (a' := ?_) #[true, true, true, false, true, true, false, false, false, false, false, false, false, false, false] rfl rfl (by kernel_rfl) (fun _ _ _ h => h) (Or.inl ⟨by rfl, ?_⟩) ?_ ?_
          rotate_left
          · intro w'
            go_simp
            with_reducible rfl
          rotate_left
          · simp only [Act.put, List.setIfInBounds_toArray, List.set_cons_zero, List.set_cons_succ, i64_w, i32_w]
            rfl
          refine pure_ (i := 6) (N := some 64) (v := ?_) (a' := ?_) #[true, true, true, false, true, true, true, false, false, false, false, false, false, false, false] rfl rfl (by kernel_rfl) (fun _ _ _ h => h) (Or.inl ⟨by rfl, ?_⟩) ?_ ?_
          rotate_left
          · intro w'
            go_simp
            with_reducible rfl
          rotate_left
          · simp only [Act.put, List.setIfInBounds_toArray, List.set_cons_zero, List.set_cons_succ, i64_w, i32_w]
            rfl
          refine pure_ (i := 7) (N := some 65) (v := ?_) (a' := ?_) #[true, true, true, false, true, true, true, true, false, false, false, false, false, false, false] rfl rfl (by kernel_rfl) (fun _ _ _ h => h) (Or.inl ⟨by rfl, ?_⟩) ?_ ?_
          rotate_left
          · intro w'
            go_simp
            with_reducible rfl
          rotate_left
          · simp only [Act.put, List.setIfInBounds_toArray, List.set_cons_zero, List.set_cons_succ, i64_w, i32_w]
            rfl
          refine pure_ (i := 9) (N := some 67) (v := ?_) (a' := ?_) #[true, true, true, false, true, true, true, true, false, true, false, false, false, false, false] rfl rfl (by kernel_rfl) (fun _ _ _ h => h) (Or.inl ⟨by rfl, ?_⟩) ?_ ?_
          rotate_left
          · intro w'
            go_simp
            with_reducible rfl
          rotate_left
          · simp only [Act.put, List.setIfInBounds_toArray, List.set_cons_zero, List.set_cons_succ, i64_w, i32_w]
            rfl
          refine take_ (i := 3) (N := some 61) (v := ?_) (a' := ?_) #[true, true, true, true, true, true, true, true, false, true, false, false, false, false, false] rfl rfl (by kernel_rfl) (fun _ _ _ h => h) (Or.inl ⟨by rfl, ?_⟩) hHeld ?_ ?_
          rotate_left
          · rintro w' ⟨s0, s1⟩
            go_simp
            with_reducible rfl
          rotate_left
          · simp only [Act.put, List.setIfInBounds_toArray, List.set_cons_zero, List.set_cons_succ, i64_w, i32_w]
            rfl
          refine take_ (i := 8) (N := some 66) (v := ?_) (a' := ?_) #[true, true, true, true, true, true, true, true, true, true, false, false, false, false, false] rfl rfl (by kernel_rfl) (fun _ _ _ h => h) (Or.inl ⟨by rfl, ?_⟩) hHeld ?_ ?_
          rotate_left
          · rintro w' ⟨s0, s1⟩
            go_simp
            with_reducible rfl
          rotate_left
          · simp only [Act.put, List.setIfInBounds_toArray, List.set_cons_zero, List.set_cons_succ, i64_w, i32_w]
            rfl
          refine pure_ (i := 10) (N := some 68) (v := ?_) (a' := ?_) #[true, true, true, true, true, true, true, true, true, true, true, false, false, false, false] rfl rfl (by kernel_rfl) (fun _ _ _ h => h) (Or.inl ⟨by rfl, ?_⟩) ?_ ?_
          rotate_left
          · intro w'
            go_simp
            with_reducible rfl
          rotate_left
          · simp only [Act.put, List.setIfInBounds_toArray, List.set_cons_zero, List.set_cons_succ, i64_w, i32_w]
            rfl
          refine take_ (i := 11) (N := some 69) (v := ?_) (a' := ?_) #[true, true, true, true, true, true, true, true, true, true, true, true, false, false, false] rfl rfl (by kernel_rfl) (fun _ _ _ h => h) (Or.inl ⟨by rfl, ?_⟩) hHeld ?_ ?_
          rotate_left
          · rintro w' ⟨s0, s1⟩
            go_simp
            with_reducible rfl
          rotate_left
          · simp only [Act.put, List.setIfInBounds_toArray, List.set_cons_zero, List.set_cons_succ, i64_w, i32_w]
            rfl
          refine pure_ (i := 12) (N := some 70) (v := ?_) (a' := ?_) #[true, true, true, true, true, true, true, true, true, true, true, true, true, false, false] rfl rfl (by kernel_rfl) (fun _ _ _ h => h) (Or.inl ⟨by rfl, ?_⟩) ?_ ?_
          rotate_left
          · intro w'
            go_simp
            with_reducible rfl
          rotate_left
          · simp only [Act.put, List.setIfInBounds_toArray, List.set_cons_zero, List.set_cons_succ, i64_w, i32_w]
            rfl
          refine pure_ (i := 13) (N := some 71) (v := ?_) (a' := ?_) #[true, true, true, true, true, true, true, true, true, true, true, true, true, true, false] rfl rfl (by kernel_rfl) (fun _ _ _ h => h) (Or.inl ⟨by rfl, ?_⟩) ?_ ?_
          rotate_left
          · intro w'
            go_simp
            with_reducible rfl
          rotate_left
          · simp only [Act.put, List.setIfInBounds_toArray, List.set_cons_zero, List.set_cons_succ, i64_w, i32_w]
            rfl
          refine last_ (i := 14) (N := none) #[true, true, true, true, true, true, true, true, true, true, true, true, true, true, true] rfl rfl (by kernel_rfl) (by decide) (fun K hK => ?_)
          refine skip_ (w1 := ?_) (by rfl) rfl ?_ ?_
          rotate_left
          · go_simp
            rfl
          refine hK.out _ _ ?_
          clear hK K
          refine done_ (by kernel_rfl) ?_
          clear hHeld hc1_ hc2_ hc3_
          go_wp2
          go_roundw
          case rel => exact ⟨j + 1, _, by omega, by go_num, ⟨HF3.out.set (by rw [List.length_set]; exact HY.out)⟩, ⟨HST.out _⟩, ⟨Kd.S_far HM5.out (fun k hk he => by have := HO4.out; have e : k = g2 := he; omega) _⟩, ⟨HB5.out.setCell hb4 _⟩⟩
          case measure => simp [intOf]; omega
        · obtain ⟨g, A5, c5, eg, hc1_, _⟩ := rowLend HS4.out i y hy
          injection eg with eg
          injection eg with eg _
          subst eg
          rw [hym] at hc1_
          have hjm' : ¬ (j : Int) < (m : Int) := by omega
          clear hy hym
          go_wp2
          go_roundw
          case rel => exact ⟨i + 1, L2, by omega, by go_num, ⟨HF3.out.1⟩, HS4, HM4, HB4⟩
          case measure => simp [intOf]; omega
    · have hlti : ¬ (i : Int) < (n : Int) := by omega
      go_wp2_with (first | (go_at_call 18; (with_reducible refine (weighhouselaw01_Stays.calls A1 c1 l0 A0 c0 _ (Kd.C_below HCF.out HBr.out) HCC1.out (Kd.C_below HR.out (HB1.out.trans (HBr.out.mono HSZ.out))) hc0).mono ?_); rintro e5 w5 ⟨rfl, hB5⟩; have HB5 := Aside0.mk ((HB1.out.trans (HBr.out.mono HSZ.out)).trans (hB5.mono (Nat.le_trans HSZ.out HBr.out.size))); clear hB5) | (go_at_call 19; (with_reducible refine (weighhouselaw01_knows.calls true _ rfl).mono ?_); rintro e6 w6 ⟨rfl, hB6⟩; have HB6 := Aside0.mk (HB5.out.trans (hB6.mono HB5.out.size)); clear hB6))
      go_ret
      exact ⟨rfl, HB6.out⟩


end Go.Proofs.Ytjkimfjhfncldaa.Q
end

section
/- what the readings of the parameters of WireFrames give -/
set_option linter.unusedVariables false
set_option linter.unusedSimpArgs false
namespace Go.Proofs.Ytjkimfjhfncldaa.OpWireFrames
open Go.RowKit Go.Proofs.YtjkimfjhfncldaaW.PrintWords Go.Proofs.YtjkimfjhfncldaaW.Hb Go.Proofs.YtjkimfjhfncldaaW.Ho Go.Proofs.YtjkimfjhfncldaaW.Hu Go.Proofs.Ytjkimfjhfncldaa.Q

theorem opens_slice' {P : Program} {t : TypeId} {α : Type} {d : Kd α} {e B : Nat} {Q : α → Prop} (ht : P.underlying t = some (.slice e)) (hs : P.cellsOf e = d.sz) (hB : P.bytesOf e = B) (hp : Opens P d e Q) :
    Opens P (Kd.slice e d) t (fun xs => xs.length * B ≤ reachBytes ∧ xs.length ≤ maxLen ∧ ∀ x ∈ xs, Q x) := by
  subst hB
  exact opens_slice ht hs hp
end Go.Proofs.Ytjkimfjhfncldaa.OpWireFrames
end

section
/- the pure statement of WireFrames -/
namespace Go.Proofs.Ytjkimfjhfncldaa.PuWireFrames
open Go.RowKit Go.Proofs.YtjkimfjhfncldaaW.PrintWords Go.Proofs.YtjkimfjhfncldaaW.Hb Go.Proofs.YtjkimfjhfncldaaW.Ho Go.Proofs.Ytjkimfjhfncldaa.Q Go.Proofs.Ytjkimfjhfncldaa.OpWireFrames
def Pure : Prop := ∀ (x0 : List (Int)), ((x0).length * 1 ≤ reachBytes ∧ (x0).length ≤ maxLen ∧ ∀ y ∈ (x0), (Lit.int .u8 (y)).wf = true) → (((x0).map (fun z => 1)).sum + 1) ≤ 1048576 → ∃ k, weighhouselaw01_WireFrames.f k x0 = some true
end Go.Proofs.Ytjkimfjhfncldaa.PuWireFrames
end

section
namespace Go.Proofs.Ytjkimfjhfncldaa.Th
open Go.RowKit Go.Proofs.Ytjkimfjhfncldaa.Q Go.Proofs.YtjkimfjhfncldaaW.PrintWords Go.Proofs.YtjkimfjhfncldaaW.PrintLast

/-! ### CRC-32 over natural numbers -/
def poly : Nat := 3988292384
def stp (n : Nat) : Nat := (n / 2) ^^^ (if n % 2 = 1 then poly else 0)
theorem stp_lt {n : Nat} (h : n < 4294967296) : stp n < 4294967296 := by
  unfold stp poly
  have : n / 2 < 2 ^ 32 := by omega
  exact Nat.xor_lt_two_pow (n := 32) this (by split <;> omega)
theorem stp_top {n : Nat} (h : n < 4294967296) : (stp n).testBit 31 = decide (n % 2 = 1) := by
  unfold stp
  rw [Nat.testBit_xor]
  have h1 : (n / 2).testBit 31 = false := Nat.testBit_lt_two_pow (by omega)
  rw [h1]
  by_cases e : n % 2 = 1
  · rw [if_pos e, decide_eq_true e]
    decide
  · rw [if_neg e, decide_eq_false e]
    decide
theorem stp_inj {m n : Nat} (hm : m < 4294967296) (hn : n < 4294967296) (h : stp m = stp n) : m = n := by
  have ht : decide (m % 2 = 1) = decide (n % 2 = 1) := by rw [← stp_top hm, ← stp_top hn, h]
  have h2 : m % 2 = n % 2 := by
    by_cases e : m % 2 = 1 <;> by_cases e' : n % 2 = 1 <;> simp [e, e'] at ht ⊢ <;> omega
  unfold stp at h
  rw [h2] at h
  have h3 : m / 2 = n / 2 := by
    have := congrArg (fun z => z ^^^ (if n % 2 = 1 then poly else 0)) h
    simpa [Nat.xor_assoc] using this
  omega
def stps : Nat → Nat → Nat
  | 0, n => n
  | k + 1, n => stps k (stp n)
theorem stps_lt : ∀ k {n : Nat}, n < 4294967296 → stps k n < 4294967296
  | 0, _, h => h
  | k + 1, _, h => stps_lt k (stp_lt h)
theorem stps_inj : ∀ k {m n : Nat}, m < 4294967296 → n < 4294967296 → stps k m = stps k n → m = n
  | 0, _, _, _, _, h => h
  | k + 1, _, _, hm, hn, h => stp_inj hm hn (stps_inj k (stp_lt hm) (stp_lt hn) h)
def byt (c : Nat) (b : Int) : Nat := stps 8 (c ^^^ b.toNat)
def IsB (b : Int) : Prop := 0 ≤ b ∧ b ≤ 255
theorem xor_lt {c : Nat} {b : Int} (hc : c < 4294967296) (hb : IsB b) : c ^^^ b.toNat < 4294967296 := Nat.xor_lt_two_pow (n := 32) hc (by have := hb.2; omega)
theorem byt_lt {c : Nat} {b : Int} (hc : c < 4294967296) (hb : IsB b) : byt c b < 4294967296 := stps_lt 8 (xor_lt hc hb)
theorem byt_inj {c d : Nat} {b : Int} (hc : c < 4294967296) (hd : d < 4294967296) (hb : IsB b) (h : byt c b = byt d b) : c = d := by
  have := stps_inj 8 (xor_lt hc hb) (xor_lt hd hb) h
  have := congrArg (fun z => z ^^^ b.toNat) this
  simpa [Nat.xor_assoc] using this
theorem byt_inj_b {c : Nat} {a b : Int} (hc : c < 4294967296) (ha : IsB a) (hb : IsB b) (h : byt c a = byt c b) : a = b := by
  have := stps_inj 8 (xor_lt hc ha) (xor_lt hc hb) h
  have := congrArg (fun z => c ^^^ z) this
  have h2 : a.toNat = b.toNat := by simpa [← Nat.xor_assoc] using this
  have := ha.1
  have := hb.1
  omega
def crc (c : Nat) (l : List Int) : Nat := l.foldl byt c
theorem crc_lt : ∀ (l : List Int) {c : Nat}, c < 4294967296 → (∀ x ∈ l, IsB x) → crc c l < 4294967296
  | [], _, h, _ => h
  | x :: l, _, h, hl => crc_lt l (byt_lt h (hl x (by simp))) (fun y hy => hl y (by simp [hy]))
theorem crc_inj : ∀ (l : List Int) {c d : Nat}, c < 4294967296 → d < 4294967296 → (∀ x ∈ l, IsB x) → crc c l = crc d l → c = d
  | [], _, _, _, _, _, h => h
  | x :: l, _, _, hc, hd, hl, h => byt_inj hc hd (hl x (by simp)) (crc_inj l (byt_lt hc (hl x (by simp))) (byt_lt hd (hl x (by simp))) (fun y hy => hl y (by simp [hy])) h)
theorem crc_append (c : Nat) (l m : List Int) : crc c (l ++ m) = crc (crc c l) m := List.foldl_append
/-- One byte that is another one: another sum. -/
theorem crc_set (l : List Int) (k : Nat) (hk : k < l.length) (b : Int) (c : Nat) (hc : c < 4294967296) (hl : ∀ x ∈ l, IsB x) (hb : IsB b) (hne : b ≠ l[k]) : crc c (l.set k b) ≠ crc c l := by
  intro h
  have e1 : l = l.take k ++ (l[k] :: l.drop (k + 1)) := by rw [List.getElem_cons_drop]; exact (List.take_append_drop k l).symm
  have e2 : l.set k b = l.take k ++ (b :: l.drop (k + 1)) := by rw [List.set_eq_take_append_cons_drop, if_pos hk]
  rw [e2] at h
  conv at h => rhs; rw [e1]
  rw [crc_append, crc_append] at h
  have ht : ∀ x ∈ l.take k, IsB x := fun x hx => hl x (List.mem_of_mem_take hx)
  have hd : ∀ x ∈ l.drop (k + 1), IsB x := fun x hx => hl x (List.mem_of_mem_drop hx)
  have hk' : IsB l[k] := hl _ (List.getElem_mem hk)
  have hc' := crc_lt _ hc ht
  exact hne (byt_inj_b hc' hb hk' (crc_inj _ (byt_lt hc' hb) (byt_lt hc' hk') hd h))
end Go.Proofs.Ytjkimfjhfncldaa.Th
end

section
namespace Go.Proofs.Ytjkimfjhfncldaa.Th
open Go.RowKit Go.Proofs.Ytjkimfjhfncldaa.Q Go.Proofs.YtjkimfjhfncldaaW.PrintWords Go.Proofs.YtjkimfjhfncldaaW.PrintLast
theorem w64 {n : Int} (h1 : -9223372036854775808 ≤ n) (h2 : n ≤ 9223372036854775807) : wrap64 n = n := by unfold wrap64; omega
theorem wrap_u32 (n : Int) : IntKind.u32.wrap n = n % 4294967296 := by simp [IntKind.wrap, IntKind.bits, IntKind.signed]
theorem bits_xor_u32_nat (a b : Nat) (ha : a < 4294967296) (hb : b < 4294967296) : Go.bits .xor .u32 (a : Int) (b : Int) = ((a ^^^ b : Nat) : Int) := by
  have hx : a ^^^ b < 2 ^ 32 := Nat.xor_lt_two_pow (by omega) (by omega)
  have h1 : (BitVec.ofInt 32 (a : Int)).toNat = a := by
    rw [BitVec.ofInt_natCast, BitVec.toNat_ofNat]; exact Nat.mod_eq_of_lt (by omega)
  have h2 : (BitVec.ofInt 32 (b : Int)).toNat = b := by
    rw [BitVec.ofInt_natCast, BitVec.toNat_ofNat]; exact Nat.mod_eq_of_lt (by omega)
  show IntKind.u32.wrap ((BitVec.ofInt 32 (a : Int) ^^^ BitVec.ofInt 32 (b : Int)).toNat : Int) = _
  rw [BitVec.toNat_xor, h1, h2, wrap_u32]
  omega
theorem bits_and_u32 (a b : Nat) (ha : a < 4294967296) (hb : b < 4294967296) : Go.bits .and .u32 (a : Int) (b : Int) = ((a &&& b : Nat) : Int) := by
  have hx : a &&& b < 2 ^ 32 := Nat.lt_of_le_of_lt Nat.and_le_left (by omega)
  have h1 : (BitVec.ofInt 32 (a : Int)).toNat = a := by
    rw [BitVec.ofInt_natCast, BitVec.toNat_ofNat]; exact Nat.mod_eq_of_lt (by omega)
  have h2 : (BitVec.ofInt 32 (b : Int)).toNat = b := by
    rw [BitVec.ofInt_natCast, BitVec.toNat_ofNat]; exact Nat.mod_eq_of_lt (by omega)
  show IntKind.u32.wrap ((BitVec.ofInt 32 (a : Int) &&& BitVec.ofInt 32 (b : Int)).toNat : Int) = _
  rw [BitVec.toNat_and, h1, h2, wrap_u32]
  omega
theorem step_eq (n : Nat) (hn : n < 4294967296) : Go.bits .xor .u32 ((n : Int) / 2) (Go.bits .and .u32 3988292384 ((-(Go.bits .and .u32 (n : Int) 1)) % 4294967296)) = (stp n : Int) := by
  have h1 : Go.bits .and .u32 (n : Int) 1 = ((n % 2 : Nat) : Int) := by
    have := bits_and_u32 n 1 hn (by omega)
    rw [Nat.and_one_is_mod] at this
    exact this
  rw [h1]
  have hd : ((n : Int) / 2) = ((n / 2 : Nat) : Int) := by omega
  rw [hd]
  unfold stp
  by_cases e : n % 2 = 1
  · rw [if_pos e, e]
    have h2 : (-((1 : Nat) : Int)) % 4294967296 = ((4294967295 : Nat) : Int) := by decide
    rw [h2]
    have h3 := bits_and_u32 3988292384 4294967295 (by omega) (by omega)
    rw [show (3988292384 &&& 4294967295 : Nat) = poly by decide] at h3
    have h4 : Go.bits .and .u32 3988292384 ((4294967295 : Nat) : Int) = (poly : Int) := h3
    rw [h4]
    exact bits_xor_u32_nat _ _ (by omega) (by decide)
  · have e0 : n % 2 = 0 := by omega
    rw [if_neg e, e0]
    have h3 := bits_and_u32 3988292384 0 (by omega) (by omega)
    have h2 : (-((0 : Nat) : Int)) % 4294967296 = ((0 : Nat) : Int) := by decide
    rw [h2]
    have h4 : Go.bits .and .u32 3988292384 ((0 : Nat) : Int) = ((0 : Nat) : Int) := by simpa using h3
    rw [h4]
    exact bits_xor_u32_nat _ _ (by omega) (by decide)
theorem not_eq (n : Nat) (hn : n < 4294967296) : Go.bits .xor .u32 (-1) (n : Int) = ((4294967295 ^^^ n : Nat) : Int) := by
  have hx : 4294967295 ^^^ n < 2 ^ 32 := Nat.xor_lt_two_pow (by omega) (by omega)
  have h2 : (BitVec.ofInt 32 (n : Int)).toNat = n := by
    rw [BitVec.ofInt_natCast, BitVec.toNat_ofNat]; exact Nat.mod_eq_of_lt (by omega)
  have h1 : (BitVec.ofInt 32 (-1 : Int)).toNat = 4294967295 := by decide
  show IntKind.u32.wrap ((BitVec.ofInt 32 (-1 : Int) ^^^ BitVec.ofInt 32 (n : Int)).toNat : Int) = _
  rw [BitVec.toNat_xor, h1, h2, wrap_u32]
  omega
/-- The sum, as a number. -/
def sumN (l : List Int) : Nat := 4294967295 ^^^ crc 4294967295 l
theorem sumN_lt {l : List Int} (hl : ∀ x ∈ l, IsB x) : sumN l < 4294967296 := Nat.xor_lt_two_pow (n := 32) (by omega) (crc_lt l (by omega) hl)
theorem sumN_inj {l m : List Int} (h : sumN l = sumN m) : crc 4294967295 l = crc 4294967295 m := by
  have := congrArg (fun z => 4294967295 ^^^ z) h
  simpa [sumN, ← Nat.xor_assoc] using this
theorem l1_run (l : List Int) (x7 x8 : Int) : ∀ (j k n : Nat), n < 4294967296 → j ≤ 8 → wire_Sum.l1 (k + j + 1) (n : Int) l x7 x8 ((8 - j : Nat) : Int) = wire_Sum.l0 k (stps j n : Int) l x7 (wrap64 (x8 + 1))
  | 0, k, n, hn, _ => by
    rw [wire_Sum.l1]
    simp [stps]
  | j + 1, k, n, hn, hj => by
    rw [wire_Sum.l1, if_pos (by omega), step_eq n hn]
    have e : wrap64 (((8 - (j + 1) : Nat) : Int) + 1) = ((8 - j : Nat) : Int) := by
      have : (((8 - (j + 1) : Nat) : Int) + 1) = ((8 - j : Nat) : Int) := by omega
      rw [this]
      exact w64 (by omega) (by omega)
    rw [e]
    exact l1_run l x7 x8 j k (stp n) (stp_lt hn) (by omega)
theorem rd_getElem (l : List Int) (i : Nat) (hi : i < l.length) : rd l (i : Int) = l[i] := by
  simp [rd, List.getD_eq_getElem?_getD, hi]
theorem l0_run (l : List Int) (hl : ∀ x ∈ l, IsB x) (hm : l.length < 9223372036854775807) : ∀ (m i k c : Nat), i + m = l.length → c < 4294967296 → wire_Sum.l0 (k + 10 * m + 1) (c : Int) l (l.length : Int) (i : Int) = some ((4294967295 ^^^ crc c (l.drop i) : Nat) : Int)
  | 0, i, k, c, hi, hc => by
    rw [wire_Sum.l0, if_neg (by omega), not_eq c hc, List.drop_eq_nil_of_le (by omega)]
    rfl
  | m + 1, i, k, c, hi, hc => by
    have hil : i < l.length := by omega
    have hb : IsB l[i] := hl _ (List.getElem_mem hil)
    rw [show k + 10 * (m + 1) + 1 = ((k + 10 * m + 1) + 8 + 1) + 1 by omega, wire_Sum.l0, if_pos (by omega), if_pos (by omega), if_pos (by omega), rd_getElem l i hil]
    have h1 : l[i] % 4294967296 = ((l[i].toNat : Nat) : Int) := by have := hb.1; have := hb.2; omega
    rw [h1, bits_xor_u32_nat c _ hc (by have := hb.2; omega)]
    have h2 := l1_run l (l.length : Int) (i : Int) 8 (k + 10 * m + 1) (c ^^^ l[i].toNat) (xor_lt hc hb) (Nat.le_refl 8)
    have h3 : ((8 - 8 : Nat) : Int) = 0 := by decide
    rw [h3] at h2
    rw [h2]
    have e : wrap64 ((i : Int) + 1) = ((i + 1 : Nat) : Int) := by
      have : ((i : Int) + 1) = ((i + 1 : Nat) : Int) := by omega
      rw [this]
      exact w64 (by omega) (by omega)
    rw [e, l0_run l hl hm m (i + 1) k (stps 8 (c ^^^ l[i].toNat)) (by omega) (byt_lt hc hb)]
    rw [List.drop_eq_getElem_cons hil]
    rfl
theorem Sum_eq (l : List Int) (hl : ∀ x ∈ l, IsB x) (hm : l.length < 9223372036854775807) (k : Nat) : wire_Sum.f (k + 10 * l.length + 1) l = some (sumN l : Int) := by
  have := l0_run l hl hm l.length 0 k 4294967295 (by omega) (by omega)
  exact this
end Go.Proofs.Ytjkimfjhfncldaa.Th
end

section
namespace Go.Proofs.Ytjkimfjhfncldaa.Th
open Go.RowKit Go.Proofs.Ytjkimfjhfncldaa.Q Go.Proofs.YtjkimfjhfncldaaW.PrintWords Go.Proofs.YtjkimfjhfncldaaW.PrintLast
theorem rev4 (a b c d : Int) (k : Nat) : slices_Reverse_byte_byte.f (k + 3) [a, b, c, d] = some [d, c, b, a] := by
  unfold slices_Reverse_byte_byte.f
  simp [slices_Reverse_byte_byte.l0, rd, w64]
theorem wrap_u64 (n : Int) : IntKind.u64.wrap n = n % 18446744073709551616 := by simp [IntKind.wrap, IntKind.bits, IntKind.signed]
theorem big4 (n : Nat) : bigL (n : Int) 4 = [(n : Int) / 16777216 % 256, (n : Int) / 65536 % 256, (n : Int) / 256 % 256, (n : Int) % 256] := by
  simp [bigL, bigB, List.range_succ]
def lit4 (n : Nat) : List Int := [(n : Int) % 256, (n : Int) / 256 % 256, (n : Int) / 65536 % 256, (n : Int) / 16777216 % 256]
theorem little_eq (n : Nat) (hn : n < 4294967296) (k : Nat) : wire_little.f (k + 3) (n : Int) = some (lit4 n) := by
  unfold wire_little.f wire_big.f
  have h1 : IntKind.u64.wrap (n : Int) = (n : Int) := by rw [wrap_u64]; omega
  rw [h1, if_pos ⟨by omega, by omega, by omega, by unfold u64top; omega⟩]
  show ((slices_Reverse_byte_byte.f (k + 3) (bigL (n : Int) 4)).bind fun t => some t) = _
  rw [big4, rev4]
  rfl
theorem lit4_inj {m n : Nat} (hm : m < 4294967296) (hn : n < 4294967296) (h : lit4 m = lit4 n) : m = n := by
  simp only [lit4, List.cons.injEq] at h
  omega
theorem big4_inj {m n : Nat} (hm : m < 4294967296) (hn : n < 4294967296) (h : bigL (m : Int) 4 = bigL (n : Int) 4) : m = n := by
  rw [big4, big4] at h
  simp only [List.cons.injEq] at h
  omega
theorem big4_B (n : Nat) : ∀ x ∈ bigL (n : Int) 4, IsB x := by
  rw [big4]
  intro x hx
  simp only [List.mem_cons, List.not_mem_nil, or_false] at hx
  unfold IsB
  omega
theorem lit4_B (n : Nat) : ∀ x ∈ lit4 n, IsB x := by
  intro x hx
  simp only [lit4, List.mem_cons, List.not_mem_nil, or_false] at hx
  unfold IsB
  omega
theorem flen_eq (l : List Int) (hl : ∀ x ∈ l, IsB x) (hn : l.length ≤ 1048576) (k : Nat) : wire_Frame.f (k + 10 * (l.length + 4) + 3) l = some (bigL (l.length : Int) 4 ++ (lit4 (sumN (bigL (l.length : Int) 4 ++ l)) ++ l), 0) := by
  have hB : ∀ x ∈ bigL (l.length : Int) 4 ++ l, IsB x := fun x hx => (List.mem_append.1 hx).elim (big4_B _ x) (hl x)
  have hlen : (bigL (l.length : Int) 4 ++ l).length = l.length + 4 := by rw [List.length_append, bigL_len]; omega
  unfold wire_Frame.f
  rw [if_neg (by omega)]
  have h1 := Sum_eq _ hB (by omega) (k + 2)
  rw [hlen, show k + 2 + 10 * (l.length + 4) + 1 = k + 10 * (l.length + 4) + 3 by omega] at h1
  rw [h1]
  simp only [Option.bind_some]
  rw [little_eq _ (sumN_lt hB)]
  simp only [Option.bind_some]
  rw [if_pos (by simp [lit4])]
end Go.Proofs.Ytjkimfjhfncldaa.Th
end

section
namespace Go.Proofs.Ytjkimfjhfncldaa.Th
open Go.RowKit Go.Proofs.Ytjkimfjhfncldaa.Q Go.Proofs.YtjkimfjhfncldaaW.PrintWords Go.Proofs.YtjkimfjhfncldaaW.PrintLast
def numN (n : Nat) (l : List Int) : Nat := l.foldl (fun n b => n * 256 + b.toNat) n
theorem or_byte (n b : Nat) (hb : b < 256) : (n * 256) ||| b = n * 256 + b := by
  have h : n * 256 = n <<< 8 := by rw [Nat.shiftLeft_eq]
  rw [h]
  exact (Nat.shiftLeft_add_eq_or_of_lt (by omega) n).symm
set_option maxRecDepth 10000 in
theorem num_step (n : Nat) (b : Int) (hb : IsB b) (hn : n * 256 + 255 < 18446744073709551616) : Go.bits .or .u64 (IntKind.u64.wrap ((n : Int) * 256)) (IntKind.u64.wrap b) = ((n * 256 + b.toNat : Nat) : Int) := by
  have h0 := hb.1
  have h1 := hb.2
  have e1 : IntKind.u64.wrap ((n : Int) * 256) = ((n * 256 : Nat) : Int) := by rw [wrap_u64]; omega
  have e2 : IntKind.u64.wrap b = ((b.toNat : Nat) : Int) := by rw [wrap_u64]; omega
  rw [e1, e2, bits_or_u64_nat _ _ (by omega) (by omega), or_byte _ _ (by omega)]
theorem num_run (l : List Int) (hl : ∀ x ∈ l, IsB x) (hm : l.length < 9223372036854775807) : ∀ (m i k n : Nat), i + m = l.length → (n + 1) * 256 ^ m ≤ 18446744073709551616 → wire_number.l0 (k + m + 1) (n : Int) l (l.length : Int) (i : Int) = some ((numN n (l.drop i) : Nat) : Int)
  | 0, i, k, n, hi, hn => by
    rw [wire_number.l0, if_neg (by omega), List.drop_eq_nil_of_le (by omega)]
    rfl
  | m + 1, i, k, n, hi, hn => by
    have hil : i < l.length := by omega
    have hb : IsB l[i] := hl _ (List.getElem_mem hil)
    have hp : 0 < 256 ^ m := Nat.pow_pos (by omega)
    have hn1 : (n + 1) * 256 * 256 ^ m ≤ 18446744073709551616 := by rw [Nat.mul_assoc, Nat.mul_comm 256, ← Nat.pow_succ]; exact hn
    have hn2 : (n + 1) * 256 ≤ 18446744073709551616 := Nat.le_trans (Nat.le_mul_of_pos_right _ (by omega)) hn1
    rw [show k + (m + 1) + 1 = (k + m + 1) + 1 by omega, wire_number.l0, if_pos (by omega), if_pos (by omega), if_pos (by omega), rd_getElem l i hil, num_step n _ hb (by omega)]
    have e : wrap64 ((i : Int) + 1) = ((i + 1 : Nat) : Int) := by rw [w64 (by omega) (by omega)]; omega
    have hbt : l[i].toNat ≤ 255 := by have := hb.2; omega
    rw [e, num_run l hl hm m (i + 1) k (n * 256 + l[i].toNat) (by omega) (Nat.le_trans (Nat.mul_le_mul_right _ (by omega)) hn1), List.drop_eq_getElem_cons hil]
    rfl
theorem number_eq (l : List Int) (hl : ∀ x ∈ l, IsB x) (h4 : l.length ≤ 8) (k : Nat) : wire_number.f (k + l.length + 1) l = some (numN 0 l : Int) := by
  have hp : 256 ^ l.length ≤ 256 ^ 8 := Nat.pow_le_pow_right (by omega) h4
  exact num_run l hl (by omega) l.length 0 k 0 (by omega) (by omega)
theorem numN_big4 (n : Nat) (hn : n < 4294967296) : numN 0 (bigL (n : Int) 4) = n := by
  rw [big4]
  simp only [numN, List.foldl_cons, List.foldl_nil]
  omega
theorem numN_four (a b c d : Int) : numN 0 [a, b, c, d] = ((a.toNat * 256 + b.toNat) * 256 + c.toNat) * 256 + d.toNat := by
  simp [numN]
/-- Four bytes are their number's. -/
theorem four_big (l : List Int) (hl : ∀ x ∈ l, IsB x) (h4 : l.length = 4) : numN 0 l < 4294967296 ∧ l = bigL ((numN 0 l : Nat) : Int) 4 := by
  match l, h4 with
  | [a, b, c, d], _ =>
    have ha := hl a (by simp)
    have hb := hl b (by simp)
    have hc := hl c (by simp)
    have hd := hl d (by simp)
    unfold IsB at ha hb hc hd
    rw [numN_four, big4]
    refine ⟨by omega, ?_⟩
    simp only [List.cons.injEq, and_true]
    omega
theorem eq_run (l m : List Int) (hm : l.length = m.length) (hx : l.length < 9223372036854775807) : ∀ (j i k : Nat), i + j = l.length → slices_Equal_byte_byte.l0 (k + j + 1) l m (l.length : Int) (i : Int) = some (decide (l.drop i = m.drop i))
  | 0, i, k, hi => by
    rw [slices_Equal_byte_byte.l0, if_neg (by omega), List.drop_eq_nil_of_le (by omega), List.drop_eq_nil_of_le (by omega)]
    rfl
  | j + 1, i, k, hi => by
    have h1 : i < l.length := by omega
    have h2 : i < m.length := by omega
    rw [show k + (j + 1) + 1 = (k + j + 1) + 1 by omega, slices_Equal_byte_byte.l0, if_pos (by omega), if_pos (by omega), if_pos (by omega), if_pos (by omega), rd_getElem l i h1, rd_getElem m i h2]
    have e : wrap64 ((i : Int) + 1) = ((i + 1 : Nat) : Int) := by rw [w64 (by omega) (by omega)]; omega
    rw [e, eq_run l m hm hx j (i + 1) k (by omega), List.drop_eq_getElem_cons h1, List.drop_eq_getElem_cons h2]
    by_cases e1 : l[i] = m[i]
    · rw [if_pos e1, e1]; simp only [List.cons.injEq, true_and]
    · rw [if_neg e1]; simp only [List.cons.injEq, e1, false_and, decide_false]
theorem equal_eq (l m : List Int) (hx : l.length < 9223372036854775807) (k : Nat) : slices_Equal_byte_byte.f (k + l.length + 1) l m = some (decide (l = m)) := by
  unfold slices_Equal_byte_byte.f
  by_cases e : (l.length : Int) = (m.length : Int)
  · rw [if_pos e]
    exact eq_run l m (by omega) hx l.length 0 k (by omega)
  · rw [if_neg e, decide_eq_false (by rintro rfl; exact e rfl)]
end Go.Proofs.Ytjkimfjhfncldaa.Th
end

section
namespace Go.Proofs.Ytjkimfjhfncldaa.Th
open Go.RowKit Go.Proofs.Ytjkimfjhfncldaa.Q Go.Proofs.YtjkimfjhfncldaaW.PrintWords Go.Proofs.YtjkimfjhfncldaaW.PrintLast
def mB : Nat := 1048576
theorem mB_eq : mB = 1048576 := rfl
/-- The frame that bytes begin with. -/
def frm1 (r : List Int) : Option (List Int) :=
  if r.length < 8 then none else if mB < numN 0 (r.take 4) then none else if r.length < 8 + numN 0 (r.take 4) then none
  else if lit4 (sumN (r.take 4 ++ (r.take (8 + numN 0 (r.take 4))).drop 8)) = (r.take 8).drop 4 then some ((r.take (8 + numN 0 (r.take 4))).drop 8) else none
def frs : Nat → List Int → Nat → List (List Int) × Nat
  | 0, _, e => ([], e)
  | m + 1, b, e => match frm1 (b.drop e) with
    | none => ([], e)
    | some x => (x :: (frs m b (e + 8 + x.length)).1, (frs m b (e + 8 + x.length)).2)
theorem frm1_len {r x : List Int} (h : frm1 r = some x) : 8 + x.length ≤ r.length ∧ x.length = numN 0 (r.take 4) := by
  unfold frm1 at h
  split at h
  · cases h
  · split at h
    · cases h
    · split at h
      · cases h
      · split at h
        · cases h
          simp
          omega
        · cases h
theorem take_B {l : List Int} (hl : ∀ x ∈ l, IsB x) (n : Nat) : ∀ x ∈ l.take n, IsB x := fun x hx => hl x (List.mem_of_mem_take hx)
theorem drop_B {l : List Int} (hl : ∀ x ∈ l, IsB x) (n : Nat) : ∀ x ∈ l.drop n, IsB x := fun x hx => hl x (List.mem_of_mem_drop hx)
set_option maxRecDepth 10000 in
theorem frames_step (b : List Int) (hb : ∀ x ∈ b, IsB x) (hlen : b.length ≤ 140737488351232) (k e : Nat) (l : List (List Int)) (hK : 10 * (b.length + 4) + 20 ≤ k) (he : e ≤ b.length) (hl : (l.length + 1) * 24 ≤ 140737488355328) :
    wire_Frames.l0 (k + 1) b l e = match frm1 (b.drop e) with
      | none => some (l, (e : Int))
      | some x => wire_Frames.l0 k b (l ++ [x]) (e + 8 + x.length) := by
  rewrite [wire_Frames.l0, if_neg (by omega)]
  obtain ⟨r, hr⟩ : ∃ r, r = b.drop e := ⟨_, rfl⟩
  have hrl : r.length = b.length - e := by rw [hr]; simp
  have hrB : ∀ x ∈ r, IsB x := by rw [hr]; exact drop_B hb e
  rewrite [← hr]
  clear hr
  by_cases h8 : r.length < 8
  · rewrite [if_pos h8]
    unfold frm1
    rewrite [if_pos h8]
    rfl
  rewrite [if_neg h8]
  have h4 : (r.take 4).length = 4 := by rw [List.length_take]; omega
  have hq := four_big (r.take 4) (take_B hrB 4) h4
  have hnum := number_eq (r.take 4) (take_B hrB 4) (by omega) (k - 5)
  rewrite [h4, show k - 5 + 4 + 1 = k by omega] at hnum
  rewrite [hnum]
  clear hnum
  rewrite [Option.bind_some]
  obtain ⟨n, hn⟩ : ∃ n, n = numN 0 (r.take 4) := ⟨_, rfl⟩
  rewrite [← hn] at hq ⊢
  have hw : wrap64 (n : Int) = (n : Int) := w64 (by omega) (by omega)
  rewrite [hw]
  clear hw
  have hmb := mB_eq
  by_cases h1 : mB < n
  · have h1' : (1048576 : Int) < (n : Int) := by omega
    rewrite [if_pos h1']
    unfold frm1
    rewrite [if_neg h8, ← hn, if_pos h1]
    rfl
  have h1' : ¬ (1048576 : Int) < (n : Int) := by omega
  rewrite [if_neg h1']
  by_cases h2 : r.length < 8 + n
  · have h2' : ((r.length : Nat) : Int) - 8 < (n : Int) := by omega
    rewrite [if_pos h2']
    unfold frm1
    rewrite [if_neg h8, ← hn, if_neg h1, if_pos h2]
    rfl
  have h2' : ¬ ((r.length : Nat) : Int) - 8 < (n : Int) := by omega
  have h3' : ¬ (n : Int) < 0 := by omega
  rewrite [if_neg h2', if_neg h3']
  have ht : (8 + (n : Int)).toNat = 8 + n := by omega
  rewrite [ht]
  obtain ⟨x, hx⟩ : ∃ x, x = (r.take (8 + n)).drop 8 := ⟨_, rfl⟩
  have hxl : x.length = n := by rw [hx]; simp; omega
  have hxB : ∀ z ∈ x, IsB z := by rw [hx]; exact drop_B (take_B hrB _) _
  rewrite [← hx]
  have hB : ∀ z ∈ r.take 4 ++ x, IsB z := fun z hz => (List.mem_append.1 hz).elim (take_B hrB 4 z) (hxB z)
  have hsl : (r.take 4 ++ x).length = 4 + n := by rw [List.length_append, h4, hxl]
  have hS := Sum_eq (r.take 4 ++ x) hB (by omega) (k - (10 * (4 + n) + 1))
  rewrite [hsl, show k - (10 * (4 + n) + 1) + 10 * (4 + n) + 1 = k by omega] at hS
  rewrite [hS]
  clear hS
  rewrite [Option.bind_some]
  have hL := little_eq (sumN (r.take 4 ++ x)) (sumN_lt hB) (k - 3)
  rewrite [show k - 3 + 3 = k by omega] at hL
  rewrite [hL]
  clear hL
  rewrite [Option.bind_some]
  have hE := equal_eq (lit4 (sumN (r.take 4 ++ x))) ((r.take 8).drop 4) (by simp [lit4]) (k - 5)
  rewrite [show (lit4 (sumN (r.take 4 ++ x))).length = 4 from rfl, show k - 5 + 4 + 1 = k by omega] at hE
  rewrite [hE]
  clear hE
  rewrite [Option.bind_some]
  have hfm : frm1 r = if lit4 (sumN (r.take 4 ++ x)) = (r.take 8).drop 4 then some x else none := by
    unfold frm1
    rewrite [if_neg h8, ← hn, if_neg h1, if_neg h2, ← hx]
    rfl
  by_cases h5 : lit4 (sumN (r.take 4 ++ x)) = (r.take 8).drop 4
  · rewrite [if_pos (decide_eq_true h5), if_pos hl, hfm, if_pos h5]
    have hee : (n : Int).toNat = x.length := by omega
    rewrite [hee]
    rfl
  · rewrite [if_neg (by rw [decide_eq_false h5]; decide), hfm, if_neg h5]
    rfl
theorem frames_run (b : List Int) (hb : ∀ x ∈ b, IsB x) (hlen : b.length ≤ 140737488351232) (K : Nat) (hK : 10 * (b.length + 4) + 20 ≤ K) : ∀ (m e : Nat) (l : List (List Int)), e ≤ b.length → b.length < e + 8 * m + 8 → (l.length + m + 1) * 24 ≤ 140737488355328 → wire_Frames.l0 (K + m + 1) b l e = some (l ++ (frs (m + 1) b e).1, (((frs (m + 1) b e).2 : Nat) : Int)) := by
  intro m
  induction m with
  | zero =>
    intro e l he hm hl
    rewrite [frames_step b hb hlen (K + 0) e l (by omega) he hl, frs]
    have : frm1 (b.drop e) = none := by
      unfold frm1
      rw [if_pos (by rw [List.length_drop]; omega)]
    rewrite [this]
    simp
  | succ m ih =>
    intro e l he hm hl
    rewrite [frames_step b hb hlen (K + (m + 1)) e l (by omega) he (Nat.le_trans (Nat.mul_le_mul_right 24 (by omega)) hl), frs]
    cases hf : frm1 (b.drop e) with
    | none => simp
    | some x =>
      have hxl := frm1_len hf
      rewrite [List.length_drop] at hxl
      have := ih (e + 8 + x.length) (l ++ [x]) (by omega) (by omega) (by rw [List.length_append, List.length_singleton]; exact Nat.le_trans (Nat.mul_le_mul_right 24 (by omega)) hl)
      simp only [show K + (m + 1) = K + m + 1 by omega]
      rewrite [this]
      simp only [List.append_assoc, List.singleton_append]
end Go.Proofs.Ytjkimfjhfncldaa.Th
end

section
namespace Go.Proofs.Ytjkimfjhfncldaa.Th
open Go.RowKit Go.Proofs.Ytjkimfjhfncldaa.Q Go.Proofs.YtjkimfjhfncldaaW.PrintWords Go.Proofs.YtjkimfjhfncldaaW.PrintLast
theorem sh32 (n : Int) (k : Nat) (hk : k ≤ 31) : shr .u32 n (k : Int) = n / 2 ^ k := by
  unfold shr
  rw [Int.toNat_natCast, show IntKind.u32.bits = 32 from rfl, Nat.min_eq_left (by omega)]
theorem xor_half (n q : Nat) : (n ^^^ q) / 2 = n / 2 ^^^ q / 2 := by
  have := Nat.shiftRight_xor_distrib (a := n) (b := q) (i := 1)
  simpa [Nat.shiftRight_eq_div_pow] using this
/-- A step of the sum, the byte's bits taken in one by one. -/
theorem stp_xor (n q : Nat) : stp (n ^^^ q) = (if n % 2 ^^^ q % 2 = 1 then n / 2 ^^^ poly else n / 2) ^^^ q / 2 := by
  unfold stp
  rw [xor_half]
  have h : (n ^^^ q) % 2 = n % 2 ^^^ q % 2 := by
    have := Nat.xor_mod_two_pow (a := n) (b := q) (n := 1)
    simpa using this
  rw [h]
  split
  · rw [Nat.xor_assoc, Nat.xor_comm (q / 2), Nat.xor_assoc]
  · rw [Nat.xor_zero]
theorem bit_eq (n q : Nat) (hn : n < 4294967296) (hq : q < 4294967296) : Go.bits .xor .u32 (Go.bits .and .u32 (n : Int) 1) (Go.bits .and .u32 (q : Int) 1) = ((n % 2 ^^^ q % 2 : Nat) : Int) := by
  have h1 := bits_and_u32 n 1 hn (by omega)
  have h2 := bits_and_u32 q 1 hq (by omega)
  rw [Nat.and_one_is_mod] at h1 h2
  have h1' : Go.bits .and .u32 (n : Int) 1 = ((n % 2 : Nat) : Int) := h1
  have h2' : Go.bits .and .u32 (q : Int) 1 = ((q % 2 : Nat) : Int) := h2
  rw [h1', h2']
  exact bits_xor_u32_nat _ _ (by omega) (by omega)
theorem l1_end (k : Nat) (l : List Int) (x3 x4 x5 : Int) (h : ¬ x5 < 8) : weighhouseref01_Sum.l1 (k + 1) l x3 x4 x5 = weighhouseref01_Sum.l0 k l x3 (wrap64 (x4 + 1)) := by
  rw [weighhouseref01_Sum.l1, if_neg h]
theorem l1_step (k : Nat) (l : List Int) (x3 x4 x5 d y z : Int) (h : x5 < 8) (h0 : 0 ≤ x4) (h1 : x4 < (l.length : Int)) (hw : IntKind.u64.wrap x5 = x5) (hw0 : 0 ≤ x5) (hy : wrap64 (x5 + 1) = y) (hd : Go.bits .xor .u32 (Go.bits .and .u32 x3 1) (Go.bits .and .u32 (shr .u32 ((rd l x4) % 4294967296) x5) 1) = d) (hz : (if d = 1 then Go.bits .xor .u32 (x3 / 2) 3988292384 else x3 / 2) = z) : weighhouseref01_Sum.l1 (k + 1) l x3 x4 x5 = weighhouseref01_Sum.l1 k l z x4 y := by
  rw [weighhouseref01_Sum.l1, if_pos h, if_pos h0, if_pos h1, hw, if_pos hw0, hd, hy, ← hz]
  split <;> rfl
theorem bit_at (l : List Int) (i m : Nat) (hil : i < l.length) (hb : IsB l[i]) (hm : m ≤ 31) : shr .u32 ((rd l (i : Int)) % 4294967296) ((m : Nat) : Int) = ((l[i].toNat / 2 ^ m : Nat) : Int) := by
  rw [rd_getElem l i hil, sh32 _ _ hm]
  obtain ⟨x, hx⟩ : ∃ x, x = l[i] := ⟨_, rfl⟩
  rw [← hx] at hb ⊢
  have hlb := hb.1
  have hub := hb.2
  have h1 : x % 4294967296 = ((x.toNat : Nat) : Int) := by omega
  rw [h1]
  simp
theorem r1_step (l : List Int) (i : Nat) (hil : i < l.length) (hb : IsB l[i]) (m k n : Nat) (hn : n < 4294967296) (hm : m < 8) : ∃ z : Nat, z < 4294967296 ∧ stp (n ^^^ l[i].toNat / 2 ^ m) = z ^^^ l[i].toNat / 2 ^ (m + 1) ∧ weighhouseref01_Sum.l1 (k + 1) l (n : Int) (i : Int) ((m : Nat) : Int) = weighhouseref01_Sum.l1 k l (z : Int) (i : Int) (((m + 1 : Nat)) : Int) := by
  have hs := bit_at l i m hil hb (by omega)
  have hub : l[i].toNat ≤ 255 := by
    have h1 := hb.1
    have h2 := hb.2
    omega
  obtain ⟨x, hx⟩ : ∃ x, x = l[i].toNat := ⟨_, rfl⟩
  rw [← hx] at hs hub ⊢
  have hq : x / 2 ^ m < 4294967296 := Nat.lt_of_le_of_lt (Nat.div_le_self _ _) (by omega)
  have hqq : x / 2 ^ m / 2 = x / 2 ^ (m + 1) := by rw [Nat.div_div_eq_div_mul, Nat.pow_succ]
  obtain ⟨q, hqe⟩ : ∃ q, q = x / 2 ^ m := ⟨_, rfl⟩
  rw [← hqe] at hs hq hqq ⊢
  rw [stp_xor, hqq]
  have a1 : ((m : Nat) : Int) < 8 := by omega
  have a2 : 0 ≤ (i : Int) := by omega
  have a3 : (i : Int) < (l.length : Int) := by omega
  have a4 : 0 ≤ ((m : Nat) : Int) := by omega
  have a5 : n / 2 < 2 ^ 32 := by omega
  have hd : ((n : Int) / 2) = ((n / 2 : Nat) : Int) := by omega
  have hw : IntKind.u64.wrap ((m : Nat) : Int) = ((m : Nat) : Int) := by
    rw [show IntKind.u64.wrap ((m : Nat) : Int) = ((m : Nat) : Int) % 18446744073709551616 by simp [IntKind.wrap, IntKind.bits, IntKind.signed]]
    omega
  have hx1 : wrap64 (((m : Nat) : Int) + 1) = ((m + 1 : Nat) : Int) := by
    rw [w64 (by omega) (by omega)]
    omega
  have hp : Go.bits .xor .u32 ((n / 2 : Nat) : Int) 3988292384 = ((n / 2 ^^^ poly : Nat) : Int) := by
    have hpc : (3988292384 : Int) = ((poly : Nat) : Int) := by
      unfold poly
      omega
    rw [hpc]
    exact bits_xor_u32_nat (n / 2) poly a5 (by unfold poly; omega)
  have hbt := bit_eq n q hn hq
  obtain ⟨z, hz⟩ : ∃ z : Nat, z = (if n % 2 ^^^ q % 2 = 1 then n / 2 ^^^ poly else n / 2) := ⟨_, rfl⟩
  rw [← hz]
  refine ⟨z, ?_, rfl, ?_⟩
  · rw [hz]
    split
    · exact Nat.xor_lt_two_pow (n := 32) a5 (by unfold poly; omega)
    · exact a5
  · refine l1_step k l (n : Int) (i : Int) ((m : Nat) : Int) ((n % 2 ^^^ q % 2 : Nat) : Int) ((m + 1 : Nat) : Int) (z : Int) a1 a2 a3 hw a4 hx1 (by rw [hs]; exact hbt) ?_
    rw [hz, hd, hp]
    obtain ⟨d, hde⟩ : ∃ d, d = n % 2 ^^^ q % 2 := ⟨_, rfl⟩
    rw [← hde]
    clear hw hx1 hp hbt hs
    by_cases e : d = 1
    · rw [if_pos e, if_pos (by rw [e]; rfl)]
    · rw [if_neg e, if_neg (by omega)]
theorem r1_run (l : List Int) (i : Nat) (hil : i < l.length) (hb : IsB l[i]) (k : Nat) : ∀ (j m n : Nat), m + j = 8 → n < 4294967296 → weighhouseref01_Sum.l1 (k + j + 1) l (n : Int) (i : Int) ((m : Nat) : Int) = weighhouseref01_Sum.l0 k l ((stps j (n ^^^ l[i].toNat / 2 ^ m) : Nat) : Int) (wrap64 ((i : Int) + 1)) := by
  intro j
  induction j with
  | zero =>
    intro m n hm hn
    obtain rfl : m = 8 := by omega
    have h0 : l[i].toNat / 2 ^ 8 = 0 := Nat.div_eq_of_lt (by have := hb.2; omega)
    rw [h0, Nat.xor_zero, Nat.add_zero, l1_end k l _ _ _ (by omega), stps]
  | succ j ih =>
    intro m n hm hn
    obtain ⟨z, hz, hst, hl⟩ := r1_step l i hil hb m (k + j + 1) n hn (by omega)
    rw [show k + (j + 1) + 1 = (k + j + 1) + 1 by omega, hl, ih (m + 1) z (by omega) hz, stps, hst]
theorem r0_run (l : List Int) (hl : ∀ x ∈ l, IsB x) (hm : l.length < 9223372036854775807) : ∀ (m i k c : Nat), i + m = l.length → c < 4294967296 → weighhouseref01_Sum.l0 (k + 10 * m + 1) l (c : Int) (i : Int) = some ((4294967295 ^^^ crc c (l.drop i) : Nat) : Int)
  | 0, i, k, c, hi, hc => by
    rw [weighhouseref01_Sum.l0, if_neg (by omega), List.drop_eq_nil_of_le (by omega)]
    have := bits_xor_u32_nat c 4294967295 hc (by omega)
    rw [Nat.xor_comm] at this
    exact congrArg some this
  | m + 1, i, k, c, hi, hc => by
    have hil : i < l.length := by omega
    have hb : IsB l[i] := hl _ (List.getElem_mem hil)
    rw [show k + 10 * (m + 1) + 1 = ((k + 10 * m + 1) + 8 + 1) + 1 by omega, weighhouseref01_Sum.l0, if_pos (by omega)]
    have h2 := r1_run l i hil hb (k + 10 * m + 1) 8 0 c rfl hc
    rw [Nat.pow_zero, Nat.div_one] at h2
    have h3 : ((0 : Nat) : Int) = 0 := rfl
    rw [h3] at h2
    rw [h2]
    have e : wrap64 ((i : Int) + 1) = ((i + 1 : Nat) : Int) := by
      have : ((i : Int) + 1) = ((i + 1 : Nat) : Int) := by omega
      rw [this]
      exact w64 (by omega) (by omega)
    rw [e, r0_run l hl hm m (i + 1) k (stps 8 (c ^^^ l[i].toNat)) (by omega) (byt_lt hc hb)]
    rw [List.drop_eq_getElem_cons hil]
    rfl
/-- The document's sum is the same number. -/
theorem refSum_eq (l : List Int) (hl : ∀ x ∈ l, IsB x) (hm : l.length < 9223372036854775807) (k : Nat) : weighhouseref01_Sum.f (k + 10 * l.length + 1) l = some (sumN l : Int) := r0_run l hl hm l.length 0 k 4294967295 (by omega) (by omega)
end Go.Proofs.Ytjkimfjhfncldaa.Th
end

section
namespace Go.Proofs.Ytjkimfjhfncldaa.Th
open Go.RowKit Go.Proofs.Ytjkimfjhfncldaa.Q Go.Proofs.YtjkimfjhfncldaaW.PrintWords Go.Proofs.YtjkimfjhfncldaaW.PrintLast
theorem one_step (k : Nat) (r : List Int) (x5 x6 y z : Int) (h : x6 < 4) (h0 : 0 ≤ x6) (h1 : x6 < (r.length : Int)) (hy : wrap64 ((wrap64 (256 * x5)) + (wrap64 (rd r x6))) = y) (hz : wrap64 (x6 + 1) = z) : weighhouseref01_one.l0 (k + 1) r x5 x6 = weighhouseref01_one.l0 k r y z := by
  rewrite [weighhouseref01_one.l0, if_pos h, if_pos h0, if_pos h1, hy, hz]
  rfl
theorem one_end (k : Nat) (r : List Int) (x5 x6 m : Int) (h : ¬ x6 < 4) (hm : wrap64 ((r.length : Int) - 8) = m) : weighhouseref01_one.l0 (k + 1) r x5 x6 = weighhouseref01_one.j1 k r x5 (decide (x5 > 1048576) || decide (x5 > m)) := by
  rewrite [weighhouseref01_one.l0, if_neg h, hm]
  by_cases h2 : x5 > 1048576
  · rewrite [if_pos h2, decide_eq_true h2]
    rfl
  · rewrite [if_neg h2, decide_eq_false h2]
    rfl
theorem one_no (k : Nat) (r : List Int) (x5 : Int) : weighhouseref01_one.j1 (k + 1) r x5 true = some ([], 0, false) := by
  rewrite [weighhouseref01_one.j1, if_pos rfl]
  rfl
/-- The bytes' number, byte by byte. -/
theorem one_num (r : List Int) (hr : ∀ x ∈ r, IsB x) (h4 : 4 ≤ r.length) (hm : r.length ≤ 140737488355328) (k : Nat) : weighhouseref01_one.l0 (k + 5) r 0 0 = weighhouseref01_one.j1 k r (numN 0 (r.take 4) : Int) (decide ((numN 0 (r.take 4) : Int) > 1048576) || decide ((numN 0 (r.take 4) : Int) > (r.length : Int) - 8)) := by
  obtain ⟨a, b, c, d, t, rfl⟩ : ∃ a b c d t, r = a :: b :: c :: d :: t := by
    match r, h4 with
    | a :: b :: c :: d :: t, _ => exact ⟨a, b, c, d, t, rfl⟩
  have ha := hr a (by simp)
  have hb := hr b (by simp)
  have hc := hr c (by simp)
  have hd := hr d (by simp)
  obtain ⟨R, hR⟩ : ∃ R, R = a :: b :: c :: d :: t := ⟨_, rfl⟩
  have hn : numN 0 (R.take 4) = ((a.toNat * 256 + b.toNat) * 256 + c.toNat) * 256 + d.toNat := by
    rw [hR]
    exact numN_four a b c d
  have ra : rd R 0 = a := by rw [hR]; rfl
  have rb : rd R 1 = b := by rw [hR]; rfl
  have rc : rd R 2 = c := by rw [hR]; rfl
  have rdd : rd R 3 = d := by rw [hR]; rfl
  rw [← hR] at h4 hm ⊢
  clear hR hr
  obtain ⟨n, hnn⟩ : ∃ n, n = numN 0 (R.take 4) := ⟨_, rfl⟩
  rw [← hnn] at hn ⊢
  unfold IsB at ha hb hc hd
  have w1 : wrap64 ((wrap64 (256 * 0)) + (wrap64 (rd R 0))) = a := by
    rw [ra, w64 (n := 256 * 0) (by omega) (by omega), w64 (n := a) (by omega) (by omega), w64 (by omega) (by omega)]
    omega
  have w2 : wrap64 ((wrap64 (256 * a)) + (wrap64 (rd R 1))) = 256 * a + b := by
    rw [rb, w64 (n := 256 * a) (by omega) (by omega), w64 (n := b) (by omega) (by omega), w64 (by omega) (by omega)]
  have w3 : wrap64 ((wrap64 (256 * (256 * a + b))) + (wrap64 (rd R 2))) = 256 * (256 * a + b) + c := by
    rw [rc, w64 (n := 256 * (256 * a + b)) (by omega) (by omega), w64 (n := c) (by omega) (by omega), w64 (by omega) (by omega)]
  have w4 : wrap64 ((wrap64 (256 * (256 * (256 * a + b) + c))) + (wrap64 (rd R 3))) = (n : Int) := by
    rw [rdd, w64 (n := 256 * (256 * (256 * a + b) + c)) (by omega) (by omega), w64 (n := d) (by omega) (by omega), w64 (by omega) (by omega)]
    omega
  have v1 : wrap64 (0 + 1) = 1 := w64 (by omega) (by omega)
  have v2 : wrap64 (1 + 1) = 2 := w64 (by omega) (by omega)
  have v3 : wrap64 (2 + 1) = 3 := w64 (by omega) (by omega)
  have v4 : wrap64 (3 + 1) = 4 := w64 (by omega) (by omega)
  have vm : wrap64 ((R.length : Int) - 8) = (R.length : Int) - 8 := w64 (by omega) (by omega)
  have l0 : (0 : Int) < (R.length : Int) ∧ (1 : Int) < (R.length : Int) ∧ (2 : Int) < (R.length : Int) ∧ (3 : Int) < (R.length : Int) := by
    clear w1 w2 w3 w4 v1 v2 v3 v4 vm
    omega
  rewrite [show k + 5 = k + 4 + 1 from rfl, one_step (k + 4) R 0 0 a 1 (by decide) (by decide) l0.1 w1 v1, show k + 4 = k + 3 + 1 from rfl, one_step (k + 3) R a 1 _ 2 (by decide) (by decide) l0.2.1 w2 v2, show k + 3 = k + 2 + 1 from rfl, one_step (k + 2) R _ 2 _ 3 (by decide) (by decide) l0.2.2.1 w3 v3, show k + 2 = k + 1 + 1 from rfl, one_step (k + 1) R _ 3 _ 4 (by decide) (by decide) l0.2.2.2 w4 v4, one_end k R _ 4 _ (by decide) vm]
  rfl
theorem cut_four (r : List Int) (h : 8 ≤ r.length) : (r.take 8).drop 4 = [rd r 4, rd r 5, rd r 6, rd r 7] := by
  match r, h with
  | _ :: _ :: _ :: _ :: _ :: _ :: _ :: _ :: _, _ => rfl
theorem one_j1 (r : List Int) (hr : ∀ x ∈ r, IsB x) (hm : r.length ≤ 1048576) (n K : Nat) (h2 : 8 + n ≤ r.length) (hK : 10 * (r.length + 4) + 1 ≤ K) : weighhouseref01_one.j1 (K + 1) r (n : Int) false = some (if lit4 (sumN (r.take 4 ++ (r.take (8 + n)).drop 8)) = (r.take 8).drop 4 then ((r.take (8 + n)).drop 8, ((8 + n : Nat) : Int), true) else ([], 0, false)) := by
  have hx4 : (r.take 4).length = 4 := by rw [List.length_take]; omega
  have hxn : ((r.take (8 + n)).drop 8).length = n := by rw [List.length_drop, List.length_take]; omega
  have hB : ∀ x ∈ r.take 4 ++ (r.take (8 + n)).drop 8, IsB x := fun x hx => (List.mem_append.1 hx).elim (take_B hr 4 x) (drop_B (take_B hr _) 8 x)
  have hsl : (r.take 4 ++ (r.take (8 + n)).drop 8).length = 4 + n := by rw [List.length_append, hx4, hxn]
  have hS := refSum_eq _ hB (by omega) (K - (10 * (4 + n) + 1))
  rewrite [hsl, show K - (10 * (4 + n) + 1) + 10 * (4 + n) + 1 = K by omega] at hS
  rewrite [cut_four r (by omega)]
  have hw : wrap64 (8 + (n : Int)) = ((8 + n : Nat) : Int) := by rw [w64 (by omega) (by omega)]; omega
  rewrite [weighhouseref01_one.j1, if_neg (by decide), Option.bind_some, hw, if_pos (by omega), if_pos (by omega), Int.toNat_natCast]
  obtain ⟨x, hx⟩ : ∃ x, x = (r.take (8 + n)).drop 8 := ⟨_, rfl⟩
  rewrite [← hx] at hS hxn hsl ⊢
  obtain ⟨q, hq⟩ : ∃ q, q = r.take 4 := ⟨_, rfl⟩
  rewrite [← hq] at hS hx4 hsl ⊢
  obtain ⟨c, hc⟩ : ∃ c, c = sumN (q ++ x) := ⟨_, rfl⟩
  rewrite [← hc] at hS ⊢
  rewrite [if_pos (by rw [List.length_nil, hxn]; omega), Option.bind_some, Option.bind_some, List.nil_append, if_pos (by omega), if_pos (by rw [List.length_nil, hx4]; omega), Option.bind_some, List.nil_append, if_pos (by rw [hx4, hxn]; omega), hS, Option.bind_some, if_pos (by omega), if_pos (show (5 : Int) < _ by omega), if_pos (show (6 : Int) < _ by omega), if_pos (show (7 : Int) < _ by omega)]
  unfold lit4
  by_cases e4 : rd r 4 = (c : Int) % 256
  · rewrite [if_pos e4]
    by_cases e5 : rd r 5 = (c : Int) / 256 % 256
    · rewrite [if_pos e5]
      by_cases e6 : rd r 6 = (c : Int) / 65536 % 256
      · rewrite [if_pos e6]
        by_cases e7 : rd r 7 = (c : Int) / 16777216 % 256
        · rewrite [if_pos e7, if_pos (by rw [e4, e5, e6, e7])]
          rfl
        · rewrite [if_neg e7, if_neg (by simp only [List.cons.injEq, and_true, not_and]; exact fun _ _ _ h => e7 h.symm)]
          rfl
      · rewrite [if_neg e6, if_neg (by simp only [List.cons.injEq, and_true, not_and]; exact fun _ _ h => absurd h.symm e6)]
        rfl
    · rewrite [if_neg e5, if_neg (by simp only [List.cons.injEq, and_true, not_and]; exact fun _ h => absurd h.symm e5)]
      rfl
  · rewrite [if_neg e4, if_neg (by simp only [List.cons.injEq, and_true, not_and]; exact fun h => absurd h.symm e4)]
    rfl
theorem one_eq (r : List Int) (hr : ∀ x ∈ r, IsB x) (hm : r.length ≤ 1048576) (K : Nat) (hK : 10 * (r.length + 4) + 1 ≤ K) : weighhouseref01_one.f (K + 6) r = some (match frm1 r with | none => ([], 0, false) | some x => (x, ((8 + x.length : Nat) : Int), true)) := by
  unfold weighhouseref01_one.f frm1
  by_cases h8 : r.length < 8
  · rewrite [if_pos (by omega), if_pos h8]
    rfl
  rewrite [if_neg (by omega), if_neg h8, show K + 6 = (K + 1) + 5 from rfl, one_num r hr (by omega) (by omega) (K + 1)]
  obtain ⟨n, hn⟩ : ∃ n, n = numN 0 (r.take 4) := ⟨_, rfl⟩
  rewrite [← hn]
  have hmb := mB_eq
  by_cases h1 : mB < n
  · rewrite [if_pos h1, decide_eq_true (show (n : Int) > 1048576 by omega), Bool.true_or, one_no]
    rfl
  rewrite [if_neg h1, decide_eq_false (show ¬ (n : Int) > 1048576 by omega), Bool.false_or]
  by_cases h2 : r.length < 8 + n
  · rewrite [if_pos h2, decide_eq_true (show (n : Int) > (r.length : Int) - 8 by omega), one_no]
    rfl
  rewrite [if_neg h2, decide_eq_false (show ¬ (n : Int) > (r.length : Int) - 8 by omega), one_j1 r hr hm n K (by omega) hK]
  have hxn : ((r.take (8 + n)).drop 8).length = n := by rw [List.length_drop, List.length_take]; omega
  split
  · simp only [hxn]
  · rfl
theorem rframes_run (b : List Int) (hb : ∀ x ∈ b, IsB x) (hlen : b.length ≤ 1048576) (K : Nat) (hK : 10 * (b.length + 4) + 20 ≤ K) : ∀ (m e : Nat) (l : List (List Int)), e ≤ b.length → b.length < e + 8 * m + 8 → l.length + m ≤ 1048577 → weighhouseref01_Frames.l0 (K + m + 1) b l e = some (l ++ (frs (m + 1) b e).1, (((frs (m + 1) b e).2 : Nat) : Int)) := by
  intro m
  induction m with
  | zero =>
    intro e l he hm hl
    have hone := one_eq (b.drop e) (drop_B hb e) (by rw [List.length_drop]; omega) (K - 6) (by rw [List.length_drop]; omega)
    rewrite [show K - 6 + 6 = K by omega] at hone
    have : frm1 (b.drop e) = none := by
      unfold frm1
      rw [if_pos (by rw [List.length_drop]; omega)]
    rewrite [this] at hone
    rewrite [weighhouseref01_Frames.l0, if_pos (by omega), if_pos (by omega), Int.toNat_natCast, hone, frs, this]
    simp
  | succ m ih =>
    intro e l he hm hl
    have hone := one_eq (b.drop e) (drop_B hb e) (by rw [List.length_drop]; omega) (K + m + 1 - 6) (by rw [List.length_drop]; omega)
    rewrite [show K + m + 1 - 6 + 6 = K + m + 1 by omega] at hone
    rewrite [show K + (m + 1) + 1 = (K + m + 1) + 1 by omega, weighhouseref01_Frames.l0, if_pos (by omega), if_pos (by omega), Int.toNat_natCast, hone, frs]
    cases hf : frm1 (b.drop e) with
    | none => simp
    | some x =>
      have hxl := frm1_len hf
      rewrite [List.length_drop] at hxl
      have := ih (e + 8 + x.length) (l ++ [x]) (by omega) (by omega) (by rw [List.length_append, List.length_singleton]; omega)
      simp only [Option.bind_some, if_true]
      rewrite [if_pos (by omega), show wrap64 ((e : Int) + ((8 + x.length : Nat) : Int)) = ((e + 8 + x.length : Nat) : Int) by rw [w64 (by omega) (by omega)]; omega, this]
      simp only [List.append_assoc, List.singleton_append]
end Go.Proofs.Ytjkimfjhfncldaa.Th
end

section
/- WireFrames (inputs of bulk at most 1048576): the pure statement, proved: the frames that any bytes begin with are the document's -/
namespace Go.Proofs.Ytjkimfjhfncldaa.PuWireFrames
open Go.RowKit Go.Proofs.YtjkimfjhfncldaaW.PrintWords Go.Proofs.YtjkimfjhfncldaaW.Hb Go.Proofs.YtjkimfjhfncldaaW.Ho Go.Proofs.Ytjkimfjhfncldaa.Q Go.Proofs.Ytjkimfjhfncldaa.OpWireFrames Go.Proofs.Ytjkimfjhfncldaa.Th
theorem wfB {x : Int} (h : (Lit.int .u8 x).wf = true) : 0 ≤ x ∧ x ≤ 255 := by
  simp only [Lit.wf, IntKind.min, IntKind.max, IntKind.signed, IntKind.bits, Bool.and_eq_true] at h
  simp at h
  omega
theorem holds (l : List Int) (hl : ∀ x ∈ l, IsB x) (hm : l.length ≤ 1048576) : ∃ k, weighhouselaw01_WireFrames.f k l = some true := by
  obtain ⟨K, hK⟩ : ∃ K, 10 * (l.length + 4) + 20 = K := ⟨_, rfl⟩
  refine ⟨K + l.length + 1, ?_⟩
  unfold weighhouselaw01_WireFrames.f wire_Frames.f weighhouseref01_Frames.f
  have h1 := frames_run l hl (by omega) K (by omega) l.length 0 [] (by omega) (by omega) (by simp; omega)
  have h2 := rframes_run l hl hm K (by omega) l.length 0 [] (by omega) (by omega) (by simp; omega)
  rw [show ((0 : Nat) : Int) = 0 from rfl] at h2
  rw [h1, h2, Option.bind_some, Option.bind_some, if_pos]
  rw [Bool.and_eq_true]
  exact ⟨decide_eq_true (by omega), decide_eq_true rfl⟩
theorem sum_one {α : Type} (l : List α) : (l.map (fun _ => 1)).sum = l.length := by
  induction l with
  | nil => rfl
  | cons a t ih => rw [List.map_cons, List.sum_cons, ih, List.length_cons]; omega
theorem pure : Pure := by
  intro x0 h0 hb
  rw [sum_one] at hb
  exact holds x0 (fun x hx => wfB (h0.2.2 x hx)) (by omega)
end Go.Proofs.Ytjkimfjhfncldaa.PuWireFrames
end
