/- texts of one claim, merged: each in a section of its own -/
import Derived.Test.YtbdmbkmokhaflaaMShapeWays3
import Derived.Test.YtbdmbkmokhaflaaMShapeWays4
section
-- written by hprint.py (a program of these sessions) out of the translation; Lean checks it
namespace Go.Proofs.Ytbdmbkmokhaflaa.Q
open Go.RowKit Go.Proofs.YtbdmbkmokhaflaaW.Hb Go.Proofs.YtbdmbkmokhaflaaW.PrintWords Go.Proofs.YtbdmbkmokhaflaaW.PrintLast Go.Proofs.YtbdmbkmokhaflaaW.PrintMore
attribute [local go_sem] max2_int min2_int max_two min_two max_three min_three max_four min_four   -- for this text's walks alone
set_option linter.unusedVariables false
set_option linter.unusedSimpArgs false

/-! ### weighhouseref06_Match: function 15 -/
mutual
def weighhouseref06_Match.l0 : Nat → List (S31) → List Int → Int → Option (List Int × Int)
  | 0, _, _, _ => none
  | k + 1, x0, x4, x5 => if x5 < (x0.length : Int) then (if 0 ≤ x5 then (if x5 < (x4.length : Int) then (weighhouseref06_Match.l0 k x0 (x4.set (x5 : Int).toNat (-1)) (wrap64 (x5 + 1))) else (none)) else (none)) else (weighhouseref06_Match.l1 k x0 x4 0)
def weighhouseref06_Match.l1 : Nat → List (S31) → List Int → Int → Option (List Int × Int)
  | 0, _, _, _ => none
  | k + 1, x0, x4, x6 => if x6 < (x0.length : Int) then (if 0 ≤ x6 then (if ((rd_T31 x0 x6).f0) = 48 then (weighhouseref06_Match.j2 k x0 x4 x6 false) else (weighhouseref06_Match.j2 k x0 x4 x6 (((rd_T31 x0 x6).f0) != 51))) else (none)) else (weighhouseref06_Match.l2 k x0 x4 0)
def weighhouseref06_Match.j2 : Nat → List (S31) → List Int → Int → Bool → Option (List Int × Int)
  | 0, _, _, _, _ => none
  | k + 1, x0, x4, x6, x45 => if x45 = true then (weighhouseref06_Match.l1 k x0 x4 (wrap64 (x6 + 1))) else ((weighhouseref06_closes.f k x0 x6).bind fun bt230 => (if bt230.2 < 0 then (some (([] : List Int), 31)) else (if 0 ≤ x6 then (if x6 < (x4.length : Int) then (if 0 ≤ bt230.2 then (if bt230.2 < (x4.length : Int) then ((some ((x4.set (x6 : Int).toNat bt230.2).set (bt230.2 : Int).toNat x6 : List Int)).bind fun y233 => (if bt230.1 ≥ 0 then (if 0 ≤ bt230.1 then (if bt230.1 < (x4.length : Int) then (weighhouseref06_Match.l1 k x0 ((y233.set (x6 : Int).toNat bt230.1).set (bt230.1 : Int).toNat bt230.2) (wrap64 (x6 + 1))) else (none)) else (none)) else (weighhouseref06_Match.l1 k x0 y233 (wrap64 (x6 + 1))))) else (none)) else (none)) else (none)) else (none))))
def weighhouseref06_Match.l2 : Nat → List (S31) → List Int → Int → Option (List Int × Int)
  | 0, _, _, _ => none
  | k + 1, x0, x4, x9 => if x9 < (x0.length : Int) then (if 0 ≤ x9 then (if ((rd_T31 x0 x9).f0) = 49 then (if x9 < (x4.length : Int) then (if (rd x4 x9) < 0 then (some (([] : List Int), 31)) else (weighhouseref06_Match.l2 k x0 x4 (wrap64 (x9 + 1)))) else (none)) else (if ((rd_T31 x0 x9).f0) = 50 then (if x9 < (x4.length : Int) then (if (rd x4 x9) < 0 then (some (([] : List Int), 31)) else (weighhouseref06_Match.l2 k x0 x4 (wrap64 (x9 + 1)))) else (none)) else (weighhouseref06_Match.l2 k x0 x4 (wrap64 (x9 + 1))))) else (none)) else (weighhouseref06_Match.l3 k x0 x4 0)
def weighhouseref06_Match.l3 : Nat → List (S31) → List Int → Int → Option (List Int × Int)
  | 0, _, _, _ => none
  | k + 1, x0, x4, x10 => if x10 < (x0.length : Int) then ((weighhouseref06_opened.f k x0 x4 x10).bind fun t240 => (if 0 ≤ x10 then (if ((rd_T31 x0 x10).f0) = 48 then (weighhouseref06_Match.j5 k x0 x4 x10 t240 (t240.length : Int) true) else (weighhouseref06_Match.j5 k x0 x4 x10 t240 (t240.length : Int) (((rd_T31 x0 x10).f0) == 51))) else (none))) else (some (x4, 0))
def weighhouseref06_Match.j5 : Nat → List (S31) → List Int → Int → List Int → Int → Bool → Option (List Int × Int)
  | 0, _, _, _, _, _, _ => none
  | k + 1, x0, x4, x10, x11, x12, x124 => if x124 = true then (weighhouseref06_Match.j6 k x0 x4 x10 x11 (wrap64 (x12 + 1))) else (weighhouseref06_Match.j6 k x0 x4 x10 x11 x12)
def weighhouseref06_Match.j6 : Nat → List (S31) → List Int → Int → List Int → Int → Option (List Int × Int)
  | 0, _, _, _, _, _ => none
  | k + 1, x0, x4, x10, x11, x12 => if x12 > 8 then (some (([] : List Int), 31)) else (if 0 ≤ x10 then (if x10 < (x0.length : Int) then (if ((rd_T31 x0 x10).f0) = 52 then (weighhouseref06_Match.l4 k x0 x4 x10 x11 0) else (weighhouseref06_Match.l3 k x0 x4 (wrap64 (x10 + 1)))) else (none)) else (none))
def weighhouseref06_Match.l4 : Nat → List (S31) → List Int → Int → List Int → Int → Option (List Int × Int)
  | 0, _, _, _, _, _ => none
  | k + 1, x0, x4, x10, x11, x13 => if x13 < (x11.length : Int) then (if 0 ≤ x13 then (if 0 ≤ (rd x11 x13) then (if (rd x11 x13) < (x0.length : Int) then (if ((rd_T31 x0 (rd x11 x13)).f0) = 51 then (if (rd x11 x13) < (x4.length : Int) then (if 0 ≤ x10 then (if x10 < (x4.length : Int) then (weighhouseref06_Match.l4 k x0 (x4.set (x10 : Int).toNat (rd x4 (rd x11 x13))) x10 x11 (wrap64 (x13 + 1))) else (none)) else (none)) else (none)) else (weighhouseref06_Match.l4 k x0 x4 x10 x11 (wrap64 (x13 + 1)))) else (none)) else (none)) else (none)) else (if 0 ≤ x10 then (if x10 < (x4.length : Int) then (if (rd x4 x10) < 0 then (some (([] : List Int), 31)) else (weighhouseref06_Match.l3 k x0 x4 (wrap64 (x10 + 1)))) else (none)) else (none))
end
def weighhouseref06_Match.f (k : Nat) (l0 : List (S31)) : Option (List Int × Int) := if 0 ≤ (l0.length : Int) then (if ((l0.length : Int) : Int).toNat ≤ 35184372088832 then (weighhouseref06_Match.l0 k l0 (List.replicate ((l0.length : Int) : Int).toNat 0) 0) else (none)) else (none)
theorem weighhouseref06_Match.mono_l : ∀ k, (∀ y0 y1 y2, LeO (weighhouseref06_Match.l0 k y0 y1 y2) (weighhouseref06_Match.l0 (k + 1) y0 y1 y2)) ∧ (∀ y0 y1 y2, LeO (weighhouseref06_Match.l1 k y0 y1 y2) (weighhouseref06_Match.l1 (k + 1) y0 y1 y2)) ∧ (∀ y0 y1 y2 y3, LeO (weighhouseref06_Match.j2 k y0 y1 y2 y3) (weighhouseref06_Match.j2 (k + 1) y0 y1 y2 y3)) ∧ (∀ y0 y1 y2, LeO (weighhouseref06_Match.l2 k y0 y1 y2) (weighhouseref06_Match.l2 (k + 1) y0 y1 y2)) ∧ (∀ y0 y1 y2, LeO (weighhouseref06_Match.l3 k y0 y1 y2) (weighhouseref06_Match.l3 (k + 1) y0 y1 y2)) ∧ (∀ y0 y1 y2 y3 y4 y5, LeO (weighhouseref06_Match.j5 k y0 y1 y2 y3 y4 y5) (weighhouseref06_Match.j5 (k + 1) y0 y1 y2 y3 y4 y5)) ∧ (∀ y0 y1 y2 y3 y4, LeO (weighhouseref06_Match.j6 k y0 y1 y2 y3 y4) (weighhouseref06_Match.j6 (k + 1) y0 y1 y2 y3 y4)) ∧ (∀ y0 y1 y2 y3 y4, LeO (weighhouseref06_Match.l4 k y0 y1 y2 y3 y4) (weighhouseref06_Match.l4 (k + 1) y0 y1 y2 y3 y4))
  | 0 => ⟨fun _ _ _ r h => by simp [weighhouseref06_Match.l0] at h, fun _ _ _ r h => by simp [weighhouseref06_Match.l1] at h, fun _ _ _ _ r h => by simp [weighhouseref06_Match.j2] at h, fun _ _ _ r h => by simp [weighhouseref06_Match.l2] at h, fun _ _ _ r h => by simp [weighhouseref06_Match.l3] at h, fun _ _ _ _ _ _ r h => by simp [weighhouseref06_Match.j5] at h, fun _ _ _ _ _ r h => by simp [weighhouseref06_Match.j6] at h, fun _ _ _ _ _ r h => by simp [weighhouseref06_Match.l4] at h⟩
  | k + 1 => by
    obtain ⟨ih0, ih1, ih2, ih3, ih4, ih5, ih6, ih7⟩ := weighhouseref06_Match.mono_l k
    refine ⟨?_, ?_, ?_, ?_, ?_, ?_, ?_, ?_⟩
    · intro y0 y1 y2
      unfold weighhouseref06_Match.l0
      repeat' first
      | (with_reducible exact ih0 _ _ _)
      | (with_reducible exact ih1 _ _ _)
      | (with_reducible exact ih2 _ _ _ _)
      | (with_reducible exact ih3 _ _ _)
      | (with_reducible exact ih4 _ _ _)
      | (with_reducible exact ih5 _ _ _ _ _ _)
      | (with_reducible exact ih6 _ _ _ _ _)
      | (with_reducible exact ih7 _ _ _ _ _)
      | (with_reducible exact weighhouseref06_closes.mono _ _ _)
      | (with_reducible exact weighhouseref06_opened.mono _ _ _ _)
      | (with_reducible exact LeO.refl _)
      | (with_reducible exact LeO.none _)
      | (with_reducible refine LeO.ite ?_ ?_)
      | (with_reducible refine LeO.bind ?_ (fun _ => ?_))
      | exact ih0 _ _ _
      | exact ih1 _ _ _
      | exact ih2 _ _ _ _
      | exact ih3 _ _ _
      | exact ih4 _ _ _
      | exact ih5 _ _ _ _ _ _
      | exact ih6 _ _ _ _ _
      | exact ih7 _ _ _ _ _
      | exact weighhouseref06_closes.mono _ _ _
      | exact weighhouseref06_opened.mono _ _ _ _
      | exact LeO.none _
      | refine LeO.ite ?_ ?_
      | refine LeO.bind ?_ (fun _ => ?_)
    · intro y0 y1 y2
      unfold weighhouseref06_Match.l1
      repeat' first
      | (with_reducible exact ih0 _ _ _)
      | (with_reducible exact ih1 _ _ _)
      | (with_reducible exact ih2 _ _ _ _)
      | (with_reducible exact ih3 _ _ _)
      | (with_reducible exact ih4 _ _ _)
      | (with_reducible exact ih5 _ _ _ _ _ _)
      | (with_reducible exact ih6 _ _ _ _ _)
      | (with_reducible exact ih7 _ _ _ _ _)
      | (with_reducible exact weighhouseref06_closes.mono _ _ _)
      | (with_reducible exact weighhouseref06_opened.mono _ _ _ _)
      | (with_reducible exact LeO.refl _)
      | (with_reducible exact LeO.none _)
      | (with_reducible refine LeO.ite ?_ ?_)
      | (with_reducible refine LeO.bind ?_ (fun _ => ?_))
      | exact ih0 _ _ _
      | exact ih1 _ _ _
      | exact ih2 _ _ _ _
      | exact ih3 _ _ _
      | exact ih4 _ _ _
      | exact ih5 _ _ _ _ _ _
      | exact ih6 _ _ _ _ _
      | exact ih7 _ _ _ _ _
      | exact weighhouseref06_closes.mono _ _ _
      | exact weighhouseref06_opened.mono _ _ _ _
      | exact LeO.none _
      | refine LeO.ite ?_ ?_
      | refine LeO.bind ?_ (fun _ => ?_)
    · intro y0 y1 y2 y3
      unfold weighhouseref06_Match.j2
      repeat' first
      | (with_reducible exact ih0 _ _ _)
      | (with_reducible exact ih1 _ _ _)
      | (with_reducible exact ih2 _ _ _ _)
      | (with_reducible exact ih3 _ _ _)
      | (with_reducible exact ih4 _ _ _)
      | (with_reducible exact ih5 _ _ _ _ _ _)
      | (with_reducible exact ih6 _ _ _ _ _)
      | (with_reducible exact ih7 _ _ _ _ _)
      | (with_reducible exact weighhouseref06_closes.mono _ _ _)
      | (with_reducible exact weighhouseref06_opened.mono _ _ _ _)
      | (with_reducible exact LeO.refl _)
      | (with_reducible exact LeO.none _)
      | (with_reducible refine LeO.ite ?_ ?_)
      | (with_reducible refine LeO.bind ?_ (fun _ => ?_))
      | exact ih0 _ _ _
      | exact ih1 _ _ _
      | exact ih2 _ _ _ _
      | exact ih3 _ _ _
      | exact ih4 _ _ _
      | exact ih5 _ _ _ _ _ _
      | exact ih6 _ _ _ _ _
      | exact ih7 _ _ _ _ _
      | exact weighhouseref06_closes.mono _ _ _
      | exact weighhouseref06_opened.mono _ _ _ _
      | exact LeO.none _
      | refine LeO.ite ?_ ?_
      | refine LeO.bind ?_ (fun _ => ?_)
    · intro y0 y1 y2
      unfold weighhouseref06_Match.l2
      repeat' first
      | (with_reducible exact ih0 _ _ _)
      | (with_reducible exact ih1 _ _ _)
      | (with_reducible exact ih2 _ _ _ _)
      | (with_reducible exact ih3 _ _ _)
      | (with_reducible exact ih4 _ _ _)
      | (with_reducible exact ih5 _ _ _ _ _ _)
      | (with_reducible exact ih6 _ _ _ _ _)
      | (with_reducible exact ih7 _ _ _ _ _)
      | (with_reducible exact weighhouseref06_closes.mono _ _ _)
      | (with_reducible exact weighhouseref06_opened.mono _ _ _ _)
      | (with_reducible exact LeO.refl _)
      | (with_reducible exact LeO.none _)
      | (with_reducible refine LeO.ite ?_ ?_)
      | (with_reducible refine LeO.bind ?_ (fun _ => ?_))
      | exact ih0 _ _ _
      | exact ih1 _ _ _
      | exact ih2 _ _ _ _
      | exact ih3 _ _ _
      | exact ih4 _ _ _
      | exact ih5 _ _ _ _ _ _
      | exact ih6 _ _ _ _ _
      | exact ih7 _ _ _ _ _
      | exact weighhouseref06_closes.mono _ _ _
      | exact weighhouseref06_opened.mono _ _ _ _
      | exact LeO.none _
      | refine LeO.ite ?_ ?_
      | refine LeO.bind ?_ (fun _ => ?_)
    · intro y0 y1 y2
      unfold weighhouseref06_Match.l3
      repeat' first
      | (with_reducible exact ih0 _ _ _)
      | (with_reducible exact ih1 _ _ _)
      | (with_reducible exact ih2 _ _ _ _)
      | (with_reducible exact ih3 _ _ _)
      | (with_reducible exact ih4 _ _ _)
      | (with_reducible exact ih5 _ _ _ _ _ _)
      | (with_reducible exact ih6 _ _ _ _ _)
      | (with_reducible exact ih7 _ _ _ _ _)
      | (with_reducible exact weighhouseref06_closes.mono _ _ _)
      | (with_reducible exact weighhouseref06_opened.mono _ _ _ _)
      | (with_reducible exact LeO.refl _)
      | (with_reducible exact LeO.none _)
      | (with_reducible refine LeO.ite ?_ ?_)
      | (with_reducible refine LeO.bind ?_ (fun _ => ?_))
      | exact ih0 _ _ _
      | exact ih1 _ _ _
      | exact ih2 _ _ _ _
      | exact ih3 _ _ _
      | exact ih4 _ _ _
      | exact ih5 _ _ _ _ _ _
      | exact ih6 _ _ _ _ _
      | exact ih7 _ _ _ _ _
      | exact weighhouseref06_closes.mono _ _ _
      | exact weighhouseref06_opened.mono _ _ _ _
      | exact LeO.none _
      | refine LeO.ite ?_ ?_
      | refine LeO.bind ?_ (fun _ => ?_)
    · intro y0 y1 y2 y3 y4 y5
      unfold weighhouseref06_Match.j5
      repeat' first
      | (with_reducible exact ih0 _ _ _)
      | (with_reducible exact ih1 _ _ _)
      | (with_reducible exact ih2 _ _ _ _)
      | (with_reducible exact ih3 _ _ _)
      | (with_reducible exact ih4 _ _ _)
      | (with_reducible exact ih5 _ _ _ _ _ _)
      | (with_reducible exact ih6 _ _ _ _ _)
      | (with_reducible exact ih7 _ _ _ _ _)
      | (with_reducible exact weighhouseref06_closes.mono _ _ _)
      | (with_reducible exact weighhouseref06_opened.mono _ _ _ _)
      | (with_reducible exact LeO.refl _)
      | (with_reducible exact LeO.none _)
      | (with_reducible refine LeO.ite ?_ ?_)
      | (with_reducible refine LeO.bind ?_ (fun _ => ?_))
      | exact ih0 _ _ _
      | exact ih1 _ _ _
      | exact ih2 _ _ _ _
      | exact ih3 _ _ _
      | exact ih4 _ _ _
      | exact ih5 _ _ _ _ _ _
      | exact ih6 _ _ _ _ _
      | exact ih7 _ _ _ _ _
      | exact weighhouseref06_closes.mono _ _ _
      | exact weighhouseref06_opened.mono _ _ _ _
      | exact LeO.none _
      | refine LeO.ite ?_ ?_
      | refine LeO.bind ?_ (fun _ => ?_)
    · intro y0 y1 y2 y3 y4
      unfold weighhouseref06_Match.j6
      repeat' first
      | (with_reducible exact ih0 _ _ _)
      | (with_reducible exact ih1 _ _ _)
      | (with_reducible exact ih2 _ _ _ _)
      | (with_reducible exact ih3 _ _ _)
      | (with_reducible exact ih4 _ _ _)
      | (with_reducible exact ih5 _ _ _ _ _ _)
      | (with_reducible exact ih6 _ _ _ _ _)
      | (with_reducible exact ih7 _ _ _ _ _)
      | (with_reducible exact weighhouseref06_closes.mono _ _ _)
      | (with_reducible exact weighhouseref06_opened.mono _ _ _ _)
      | (with_reducible exact LeO.refl _)
      | (with_reducible exact LeO.none _)
      | (with_reducible refine LeO.ite ?_ ?_)
      | (with_reducible refine LeO.bind ?_ (fun _ => ?_))
      | exact ih0 _ _ _
      | exact ih1 _ _ _
      | exact ih2 _ _ _ _
      | exact ih3 _ _ _
      | exact ih4 _ _ _
      | exact ih5 _ _ _ _ _ _
      | exact ih6 _ _ _ _ _
      | exact ih7 _ _ _ _ _
      | exact weighhouseref06_closes.mono _ _ _
      | exact weighhouseref06_opened.mono _ _ _ _
      | exact LeO.none _
      | refine LeO.ite ?_ ?_
      | refine LeO.bind ?_ (fun _ => ?_)
    · intro y0 y1 y2 y3 y4
      unfold weighhouseref06_Match.l4
      repeat' first
      | (with_reducible exact ih0 _ _ _)
      | (with_reducible exact ih1 _ _ _)
      | (with_reducible exact ih2 _ _ _ _)
      | (with_reducible exact ih3 _ _ _)
      | (with_reducible exact ih4 _ _ _)
      | (with_reducible exact ih5 _ _ _ _ _ _)
      | (with_reducible exact ih6 _ _ _ _ _)
      | (with_reducible exact ih7 _ _ _ _ _)
      | (with_reducible exact weighhouseref06_closes.mono _ _ _)
      | (with_reducible exact weighhouseref06_opened.mono _ _ _ _)
      | (with_reducible exact LeO.refl _)
      | (with_reducible exact LeO.none _)
      | (with_reducible refine LeO.ite ?_ ?_)
      | (with_reducible refine LeO.bind ?_ (fun _ => ?_))
      | exact ih0 _ _ _
      | exact ih1 _ _ _
      | exact ih2 _ _ _ _
      | exact ih3 _ _ _
      | exact ih4 _ _ _
      | exact ih5 _ _ _ _ _ _
      | exact ih6 _ _ _ _ _
      | exact ih7 _ _ _ _ _
      | exact weighhouseref06_closes.mono _ _ _
      | exact weighhouseref06_opened.mono _ _ _ _
      | exact LeO.none _
      | refine LeO.ite ?_ ?_
      | refine LeO.bind ?_ (fun _ => ?_)
theorem weighhouseref06_Match.mono : ∀ a0 k, LeO (weighhouseref06_Match.f k a0) (weighhouseref06_Match.f (k + 1) a0) := by
  intro a0 k
  obtain ⟨ih0, ih1, ih2, ih3, ih4, ih5, ih6, ih7⟩ := weighhouseref06_Match.mono_l k
  unfold weighhouseref06_Match.f
  repeat' first
      | (with_reducible exact ih0 _ _ _)
      | (with_reducible exact ih1 _ _ _)
      | (with_reducible exact ih2 _ _ _ _)
      | (with_reducible exact ih3 _ _ _)
      | (with_reducible exact ih4 _ _ _)
      | (with_reducible exact ih5 _ _ _ _ _ _)
      | (with_reducible exact ih6 _ _ _ _ _)
      | (with_reducible exact ih7 _ _ _ _ _)
      | (with_reducible exact weighhouseref06_closes.mono _ _ _)
      | (with_reducible exact weighhouseref06_opened.mono _ _ _ _)
      | (with_reducible exact LeO.refl _)
      | (with_reducible exact LeO.none _)
      | (with_reducible refine LeO.ite ?_ ?_)
      | (with_reducible refine LeO.bind ?_ (fun _ => ?_))
      | exact ih0 _ _ _
      | exact ih1 _ _ _
      | exact ih2 _ _ _ _
      | exact ih3 _ _ _
      | exact ih4 _ _ _
      | exact ih5 _ _ _ _ _ _
      | exact ih6 _ _ _ _ _
      | exact ih7 _ _ _ _ _
      | exact weighhouseref06_closes.mono _ _ _
      | exact weighhouseref06_opened.mono _ _ _ _
      | exact LeO.none _
      | refine LeO.ite ?_ ?_
      | refine LeO.bind ?_ (fun _ => ?_)
set_option maxHeartbeats 8000000 in
set_option maxRecDepth 100000 in
theorem weighhouseref06_Match.calls (k : Nat) (A0 : Option Addr) (c0 : Nat) (l0 : List (S31)) (r1 : List Int) (r2 : Int) (w : World) (hr0 : Kd.C k31 w A0 l0.length l0) (hc0 : l0.length ≤ c0) (h : weighhouseref06_Match.f k l0 = some (r1, r2)) :
    Calls Try.prog 15 #[.slice A0 l0.length c0] w fun e w' => ∃ v0_ : Value, e = .returned (.tuple #[v0_, .int .i64 r2]) ∧ Kd.R (Kd.int .i64) 3 w' w.heap.size (fun _ => True) v0_ r1 ∧ Below w.heap.size w w' := by
  have HR0 := Aside0.mk hr0
  have HC0 := Aside0.mk hc0
  clear hr0 hc0
  have HB := Aside0.mk (Below.refl w.heap.size w)
  have H : (if 0 ≤ (l0.length : Int) then (if ((l0.length : Int) : Int).toNat ≤ 35184372088832 then (weighhouseref06_Match.l0 k l0 (List.replicate ((l0.length : Int) : Int).toNat 0) 0) else (none)) else (none)) = some (r1, r2) := h
  clear h
  by_cases c2 : 0 ≤ (l0.length : Int)
  · rw [if_pos c2] at H
    have c2b0 := eq_true c2
    have c2b1 : decide (0 ≤ (l0.length : Int)) = true := decide_eq_true c2
    clear c2
    by_cases c3 : ((l0.length : Int) : Int).toNat ≤ 35184372088832
    · rw [if_pos c3] at H
      have c3b0 := eq_true c3
      have c3b1 : decide (((l0.length : Int) : Int).toNat ≤ 35184372088832) = true := decide_eq_true c3
      clear c3
      obtain ⟨y224, hy224⟩ : ∃ y_ : List Int, y_ = (List.replicate ((l0.length : Int) : Int).toNat 0) := ⟨_, rfl⟩
      replace H : (weighhouseref06_Match.l0 k l0 y224 0) = some (r1, r2) := by first | (rw [hy224]; with_reducible exact H) | (have H2_ := (Option.bind_some _ _).symm.trans H; rw [hy224]; with_reducible exact H2_) | (have H2_ := (Option.bind_some _ _).symm.trans H; with_reducible exact H2_) | with_reducible exact H | (rw [hy224]; exact H) | exact H
      have Ny224 := Aside0.mk hy224
      clear hy224
      have H' := Aside0.mk H
      clear H
      go_enter Try.func15, Try.ntmps15
      go_wp2_with (first | ((with_reducible refine gate_dst (N := 16) rfl ?_); refine Kd.R_make (Kd.int .i64) _ 3 rfl (N := 16) rfl 24 _ _ rfl (l0.length : Int) rfl rfl Try.underlying24 (.int .i64 0) 8 info3 rfl (by decide) (by omega) 0 (ok := fun _ => True) (okp := fun _ => True) rfl (fun _ hk => hk) trivial (of_decide_eq_true (by first | (with_reducible assumption) | assumption)) (Nat.le_trans (Nat.mul_le_mul_right _ (of_decide_eq_true (by first | (with_reducible assumption) | assumption) : (l0.length : Int).toNat ≤ 35184372088832)) (by omega)) (Below.refl _ _) (Nat.le_refl _) ?_; intro v225 w4 ho5 hb hg_ hnew_; clear hg_ hnew_; (first | rw [← Ny224.out] at ho5 | (simp only [Int.reduceToNat] at ho5; rw [← Ny224.out] at ho5)); have n0_ := Aside0.mk (Kd.R_lower ho5 (below_size (by repeat (first | (with_reducible first | exact HB.out | apply below_alloc | apply pw_below_drewN | apply below_drew1) | exact HB.out)))); have n1_ := Aside0.mk (below_step (by repeat (first | (with_reducible first | exact HB.out | apply below_alloc | apply pw_below_drewN | apply below_drew1) | exact HB.out)) hb); clear HB; have HO226 := n0_; have HB := n1_; clear n0_ n1_; clear hb ho5))
      go_loopg [5] k (fun kq v5 w' => ∃ (x4_1 : List Int) (x5_1 : Int), v5 = .int .i64 x5_1 ∧ Aside0 (weighhouseref06_Match.l0 kq l0 x4_1 x5_1 = some (r1, r2)) ∧ Aside0 (kq ≤ k) ∧ Aside0 (Kd.R (Kd.int .i64) 3 w' w.heap.size (fun _ => True) v225 x4_1) ∧ Aside0 (Below w.heap.size w w'))
      case atStart => exact ⟨(y224), (0), (by first | rfl | (simp; done) | (simp [*]; done)), H', ⟨Nat.le_refl _⟩, ⟨by (with_reducible repeat (first | apply Kd.R_alloc | apply Kd.R_drewN | apply Kd.R_drew)); exact HO226.out⟩, ⟨by repeat (first | (with_reducible first | exact HB.out | apply below_alloc | apply pw_below_drewN | apply below_drew1) | exact HB.out)⟩⟩
      case round =>
        clear H'
        try clear c1
        try clear c2
        try clear c2b0
        try clear c2b1
        try clear p2
        try clear c3
        try clear c3b0
        try clear c3b1
        obtain ⟨x4_1, x5_1, rfl, HA, HK1, HO_4, HB⟩ := hrel
        cases gk with
        | zero => exact absurd HA.out (by simp [weighhouseref06_Match.l0])
        | succ k1 =>
          have H := HA.out
          clear HA
          simp only [weighhouseref06_Match.l0] at H
          by_cases c6 : x5_1 < (l0.length : Int)
          · rw [if_pos c6] at H
            have c6b0 : decide (x5_1 < (l0.length : Int)) = true := decide_eq_true c6
            clear c6
            by_cases c7 : 0 ≤ x5_1
            · rw [if_pos c7] at H
              have c7b0 : decide (0 ≤ x5_1) = true := decide_eq_true c7
              clear c7
              by_cases c8 : x5_1 < (x4_1.length : Int)
              · rw [if_pos c8] at H
                have c8b0 : decide (x5_1 < (x4_1.length : Int)) = true := decide_eq_true c8
                clear c8
                obtain ⟨y227, hy227⟩ : ∃ y_ : List Int, y_ = (x4_1.set (x5_1 : Int).toNat (-1)) := ⟨_, rfl⟩
                replace H : (weighhouseref06_Match.l0 k1 l0 y227 (wrap64 (x5_1 + 1))) = some (r1, r2) := by first | (rw [hy227]; with_reducible exact H) | (have H2_ := (Option.bind_some _ _).symm.trans H; rw [hy227]; with_reducible exact H2_) | (have H2_ := (Option.bind_some _ _).symm.trans H; with_reducible exact H2_) | with_reducible exact H | (rw [hy227]; exact H) | exact H
                have Ny227 := Aside0.mk hy227
                clear hy227
                have H' := Aside0.mk H
                clear H
                have p9 : 0 ≤ (x5_1 : Int) := of_decide_eq_true (by first | (with_reducible assumption) | assumption)
                have q9 : (x5_1 : Int) < ((x4_1.length : Int) : Int) := of_decide_eq_true (by first | (with_reducible assumption) | assumption)
                obtain ⟨go9, co9, eo9, gb9, gl9, cl9, HG9⟩ := Kd.R_form HO_4.out (by omega)
                (first | cases eo9 | (injection eo9 with ea_ en_ ec_; (first | subst ea_ | (injection ea_ with ea_; subst ea_)); subst ec_; clear en_))
                have GB9 := Aside0.mk gb9
                have GG9 := Aside0.mk HG9
                clear gb9 gl9 HG9
                obtain ⟨hx9_0, hf9_0⟩ := Kd.R_celln 0 HO_4.out (x5_1 : Int) p9 q9
                replace p9 := eq_true p9
                replace q9 := eq_true q9
                have HP10 := Kd.R_putg HO_4.out (x5_1 : Int) (-1)
                go_wp2_with (first | ((with_reducible refine gate_store (t := 3) (p := 25) rfl ?_); refine store_event (t := 3) (p := 25) (v := ?vo_w11) (w1 := (wr.setCell ⟨go9, (x5_1 : Int).toNat, none⟩ (.int .i64 (-1)))) ?hg ?ho ?hn ?hr ?_; (case ho => rfl); (case hg => rfl); (case hn => rfl); (case hr => first | (go_simp; done) | (go_simp; rfl)); intro w11 hw; have hg : wr.grownBy w11 (some go9) := (by rw [hw]; exact HP10.2); have hp_ : Kd.R (Kd.int .i64) 3 w11 w.heap.size (fun _ => True) (.slice (some ⟨go9, 0, none⟩) x4_1.length co9) y227 := (by rw [hw, Ny227.out]; exact HP10.1); clear HP10; have n0_ := Aside0.mk (hp_); have n1_ := Aside0.mk ((by rw [hw]; exact below_set (HB.out) GB9.out : Below w.heap.size w w11)); clear HO_4; clear HB; have HO_4 := n0_; have HB := n1_; clear n0_ n1_; clear hg hw hp_))
                go_roundg k1
                case measure => have := HK1.out; omega
                case rel => exact ⟨(y227), (wrap64 (x5_1 + 1)), (by first | rfl | (simp; done) | (simp [*]; done)), H', ⟨by have := HK1.out; omega⟩, ⟨by (with_reducible repeat (first | apply Kd.R_alloc | apply Kd.R_drewN | apply Kd.R_drew)); exact HO_4.out⟩, ⟨by repeat (first | (with_reducible first | exact HB.out | apply below_alloc | apply pw_below_drewN | apply below_drew1) | exact HB.out)⟩⟩
              · rw [if_neg c8] at H
                exact absurd H (by simp)
            · rw [if_neg c7] at H
              exact absurd H (by simp)
          · rw [if_neg c6] at H
            have c6b0 : decide (x5_1 < (l0.length : Int)) = false := decide_eq_false c6
            clear c6
            have H' := Aside0.mk H
            clear H
            go_wp2
            go_loopg [6] k1 (fun kq v6 w' => ∃ (x4_2 : List Int) (x6_2 : Int), v6 = .int .i64 x6_2 ∧ Aside0 (weighhouseref06_Match.l1 kq l0 x4_2 x6_2 = some (r1, r2)) ∧ Aside0 (kq ≤ k1) ∧ Aside0 (Kd.R (Kd.int .i64) 3 w' w.heap.size (fun _ => True) v225 x4_2) ∧ Aside0 (Below w.heap.size w w'))
            case atStart => exact ⟨(x4_1), (0), (by first | rfl | (simp; done) | (simp [*]; done)), H', ⟨Nat.le_refl _⟩, ⟨by (with_reducible repeat (first | apply Kd.R_alloc | apply Kd.R_drewN | apply Kd.R_drew)); exact HO_4.out⟩, ⟨by repeat (first | (with_reducible first | exact HB.out | apply below_alloc | apply pw_below_drewN | apply below_drew1) | exact HB.out)⟩⟩
            case round =>
              clear H'
              try clear c1
              try clear c2
              try clear c2b0
              try clear c2b1
              try clear p2
              try clear c3
              try clear c3b0
              try clear c3b1
              try clear c6
              try clear c6b0
              try clear p6
              try clear c7
              try clear c7b0
              try clear c8
              try clear c8b0
              try clear p9
              try clear q9
              try clear hx9
              try clear hf9
              try clear hx9_0
              try clear p2
              try clear p9
              try clear q9
              obtain ⟨x4_2, x6_2, rfl, HA, HK2, HO_4, HB⟩ := hrel
              cases gk with
              | zero => exact absurd HA.out (by simp [weighhouseref06_Match.l1])
              | succ k2 =>
                have H := HA.out
                clear HA
                simp only [weighhouseref06_Match.l1] at H
                by_cases c12 : x6_2 < (l0.length : Int)
                · rw [if_pos c12] at H
                  have c12b0 : decide (x6_2 < (l0.length : Int)) = true := decide_eq_true c12
                  clear c12
                  have HC13 := Aside0.mk H
                  clear H
                  go_upto_region 9 with (fail)
                  go_cut [45] (fun v45 wc => ∃ (kq : Nat) (x45_12 : Bool), v45 = .bool x45_12 ∧ Aside0 (weighhouseref06_Match.j2 kq l0 x4_2 x6_2 x45_12 = some (r1, r2)) ∧ Aside0 (kq ≤ k2) ∧ Aside0 (Kd.R (Kd.int .i64) 3 wc w.heap.size (fun _ => True) v225 x4_2) ∧ Aside0 (Below w.heap.size w wc))
                  case first =>
                    have H := HC13.out
                    clear HC13
                    by_cases c14 : 0 ≤ x6_2
                    · rw [if_pos c14] at H
                      have c14b0 : decide (0 ≤ x6_2) = true := decide_eq_true c14
                      clear c14
                      (first | rw [c14b0] | (simp only [i64_w, i32_w]; rw [c14b0]) | skip)
                      by_cases c15 : ((rd_T31 l0 x6_2).f0) = 48
                      · rw [if_pos c15] at H
                        have c15b0 : (((rd_T31 l0 x6_2).f0) == 48) = true := beq_iff_eq.mpr c15
                        have c15b1 : (((rd_T31 l0 x6_2).f0) != 48) = false := bne_eq_false_iff_eq.mpr c15
                        clear c15
                        have H' := Aside0.mk H
                        clear H
                        have p228 : 0 ≤ (x6_2 : Int) := of_decide_eq_true (by first | (with_reducible assumption) | assumption)
                        have q228 : x6_2 < (l0.length : Int) := of_decide_eq_true (by first | (with_reducible assumption) | assumption)
                        obtain ⟨ad228, e228, hx228_0, hx228_1⟩ := at_T31 HR0.out x6_2 p228 q228
                        cases e228
                        replace hx228_0 := (HB.out.cell (World.block_lt_of_cell? w _ hx228_0)).trans hx228_0
                        replace hx228_1 := (HB.out.cell (World.block_lt_of_cell? w _ hx228_1)).trans hx228_1
                        replace p228 := eq_true p228
                        replace q228 := eq_true q228
                        go_wp2
                        go_meet
                        case rel => exact ⟨_, (false), (by first | rfl | (simp; done) | (simp [*]; done)), H', ⟨by have := HK1.out; have := HK2.out; first | omega | exact Nat.le_refl _⟩, ⟨by (with_reducible repeat (first | apply Kd.R_alloc | apply Kd.R_drewN | apply Kd.R_drew)); exact HO_4.out⟩, ⟨by repeat (first | (with_reducible first | exact HB.out | apply below_alloc | apply pw_below_drewN | apply below_drew1) | exact HB.out)⟩⟩
                      · rw [if_neg c15] at H
                        have c15b0 : (((rd_T31 l0 x6_2).f0) == 48) = false := beq_eq_false_iff_ne.mpr c15
                        have c15b1 : (((rd_T31 l0 x6_2).f0) != 48) = true := bne_iff_ne.mpr c15
                        have H' := Aside0.mk H
                        clear H
                        have p228 : 0 ≤ (x6_2 : Int) := of_decide_eq_true (by first | (with_reducible assumption) | assumption)
                        have q228 : x6_2 < (l0.length : Int) := of_decide_eq_true (by first | (with_reducible assumption) | assumption)
                        obtain ⟨ad228, e228, hx228_0, hx228_1⟩ := at_T31 HR0.out x6_2 p228 q228
                        cases e228
                        replace hx228_0 := (HB.out.cell (World.block_lt_of_cell? w _ hx228_0)).trans hx228_0
                        replace hx228_1 := (HB.out.cell (World.block_lt_of_cell? w _ hx228_1)).trans hx228_1
                        replace p228 := eq_true p228
                        replace q228 := eq_true q228
                        have p229 : 0 ≤ (x6_2 : Int) := of_decide_eq_true (by first | (with_reducible assumption) | assumption)
                        have q229 : x6_2 < (l0.length : Int) := of_decide_eq_true (by first | (with_reducible assumption) | assumption)
                        obtain ⟨ad229, e229, hx229_0, hx229_1⟩ := at_T31 HR0.out x6_2 p229 q229
                        obtain rfl : ad228 = ad229 := (by injection e229)
                        replace hx229_0 := (HB.out.cell (World.block_lt_of_cell? w _ hx229_0)).trans hx229_0
                        replace hx229_1 := (HB.out.cell (World.block_lt_of_cell? w _ hx229_1)).trans hx229_1
                        replace p229 := eq_true p229
                        replace q229 := eq_true q229
                        go_wp2
                        go_meet
                        case rel => exact ⟨_, ((((rd_T31 l0 x6_2).f0) != 51)), (by first | rfl | (simp; done) | (simp [*]; done)), H', ⟨by have := HK1.out; have := HK2.out; first | omega | exact Nat.le_refl _⟩, ⟨by (with_reducible repeat (first | apply Kd.R_alloc | apply Kd.R_drewN | apply Kd.R_drew)); exact HO_4.out⟩, ⟨by repeat (first | (with_reducible first | exact HB.out | apply below_alloc | apply pw_below_drewN | apply below_drew1) | exact HB.out)⟩⟩
                    · rw [if_neg c14] at H
                      exact absurd H (by simp)
                  case rest =>
                    clear HC13
                    try clear c1
                    try clear c2
                    try clear c2b0
                    try clear c2b1
                    try clear p2
                    try clear q2
                    try clear hx2
                    try clear c3
                    try clear c3b0
                    try clear c3b1
                    try clear c6
                    try clear c6b0
                    try clear p6
                    try clear c7
                    try clear c7b0
                    try clear c8
                    try clear c8b0
                    try clear p9
                    try clear q9
                    try clear hx9
                    try clear hf9
                    try clear c12
                    try clear c12b0
                    try clear c14
                    try clear c14b0
                    try clear c15
                    try clear c15b0
                    try clear c15b1
                    try clear hx228_0
                    try clear hx228_1
                    try clear hx229_0
                    try clear hx229_1
                    try clear hx9_0
                    try clear p2
                    try clear p228
                    try clear p229
                    try clear p6
                    try clear p9
                    try clear q228
                    try clear q229
                    try clear q9
                    obtain ⟨kq, x45_12, rfl, HA, HJ12, HO_4, HB⟩ := hcut
                    cases kq with
                    | zero => exact absurd HA.out (by simp [weighhouseref06_Match.j2])
                    | succ kj12 =>
                      have H := HA.out
                      clear HA
                      simp only [weighhouseref06_Match.j2] at H
                      by_cases c16 : x45_12 = true
                      · subst c16
                        have H1 : (weighhouseref06_Match.l1 kj12 l0 x4_2 (wrap64 (x6_2 + 1))) = some (r1, r2) := by rw [if_pos rfl] at H; exact H
                        clear H
                        have H := H1
                        clear H1
                        have H' := Aside0.mk H
                        clear H
                        go_wp2
                        go_roundg kj12
                        case measure => have := HK1.out; have := HK2.out; have := HJ12.out; omega
                        case rel => exact ⟨(x4_2), (wrap64 (x6_2 + 1)), (by first | rfl | (simp; done) | (simp [*]; done)), H', ⟨by have := HK1.out; have := HK2.out; have := HJ12.out; omega⟩, ⟨by (with_reducible repeat (first | apply Kd.R_alloc | apply Kd.R_drewN | apply Kd.R_drew)); exact HO_4.out⟩, ⟨by repeat (first | (with_reducible first | exact HB.out | apply below_alloc | apply pw_below_drewN | apply below_drew1) | exact HB.out)⟩⟩
                      · replace c16 := Bool.eq_false_iff.mpr c16
                        subst c16
                        have H1 : ((weighhouseref06_closes.f kj12 l0 x6_2).bind fun bt230 => (if bt230.2 < 0 then (some (([] : List Int), 31)) else (if 0 ≤ x6_2 then (if x6_2 < (x4_2.length : Int) then (if 0 ≤ bt230.2 then (if bt230.2 < (x4_2.length : Int) then ((some ((x4_2.set (x6_2 : Int).toNat bt230.2).set (bt230.2 : Int).toNat x6_2 : List Int)).bind fun y233 => (if bt230.1 ≥ 0 then (if 0 ≤ bt230.1 then (if bt230.1 < (x4_2.length : Int) then (weighhouseref06_Match.l1 kj12 l0 ((y233.set (x6_2 : Int).toNat bt230.1).set (bt230.1 : Int).toNat bt230.2) (wrap64 (x6_2 + 1))) else (none)) else (none)) else (weighhouseref06_Match.l1 kj12 l0 y233 (wrap64 (x6_2 + 1))))) else (none)) else (none)) else (none)) else (none)))) = some (r1, r2) := by rw [if_neg (show ¬ (false = true) by decide)] at H; exact H
                        clear H
                        have H := H1
                        clear H1
                        replace H := Option.bind_eq_some_iff.mp H
                        obtain ⟨⟨t230, t231⟩, A170, H⟩ := H
                        replace H : (if t231 < 0 then (some (([] : List Int), 31)) else (if 0 ≤ x6_2 then (if x6_2 < (x4_2.length : Int) then (if 0 ≤ t231 then (if t231 < (x4_2.length : Int) then ((some ((x4_2.set (x6_2 : Int).toNat t231).set (t231 : Int).toNat x6_2 : List Int)).bind fun y233 => (if t230 ≥ 0 then (if 0 ≤ t230 then (if t230 < (x4_2.length : Int) then (weighhouseref06_Match.l1 kj12 l0 ((y233.set (x6_2 : Int).toNat t230).set (t230 : Int).toNat t231) (wrap64 (x6_2 + 1))) else (none)) else (none)) else (weighhouseref06_Match.l1 kj12 l0 y233 (wrap64 (x6_2 + 1))))) else (none)) else (none)) else (none)) else (none))) = some (r1, r2) := H
                        have A17 := Aside0.mk A170
                        clear A170
                        by_cases c18 : t231 < 0
                        · rw [if_pos c18] at H
                          have c18b0 : decide (t231 < 0) = true := decide_eq_true c18
                          clear c18
                          simp only [Option.some.injEq, Prod.mk.injEq] at H
                          obtain ⟨rfl, rfl⟩ := H
                          go_wp2_with (first | ((with_reducible refine gate_callee (f := 23) rfl ?_); refine goesL_ (some 49) rfl rfl Try.func23 (by kernel_rfl) rfl #[.slice A0 l0.length c0, .int .i64 x6_2] rfl (by (try simp only [List.map_toArray, List.map_cons, List.map_nil]); first | done | rfl | (simp only [List.length_drop, List.length_take]; rfl)) ?_; (with_reducible refine (weighhouseref06_closes.calls kj12 _ _ l0 x6_2 t230 t231 _ ?side1 ?side2 A17.out).mono ?_); (case side1 => repeat (first | exact (Kd.C_below HR0.out HB.out) | (with_reducible refine Kd.C_alloc ?_ _) | (with_reducible refine Kd.C_drewN ?_ _) | (with_reducible refine Kd.C_drew ?_))); (case side2 => exact HC0.out); rintro e w' ⟨rfl, ⟨nd, rfl⟩⟩; refine ⟨_, rfl, ?_⟩))
                          go_ret2
                          exact ⟨_, by first | rfl | (simp [errW_none, errW_some] <;> rfl) | (simp [*, errW_none, errW_some] <;> rfl), by first | exact Kd.R_nil _ _ _ _ _ | exact Kd.N_nil _ _ _ _ _ | exact Kd.V_nil _ _ _ _ _ | exact Kd.Q_nil _ _ _ _ _ | exact Kd.S_nil _ _ _ _ _, by repeat (first | (with_reducible first | exact HB.out | apply below_alloc | apply pw_below_drewN | apply below_drew1) | exact HB.out)⟩
                        · rw [if_neg c18] at H
                          have c18b0 : decide (t231 < 0) = false := decide_eq_false c18
                          clear c18
                          by_cases c19 : 0 ≤ x6_2
                          · rw [if_pos c19] at H
                            have c19b0 : decide (0 ≤ x6_2) = true := decide_eq_true c19
                            clear c19
                            by_cases c20 : x6_2 < (x4_2.length : Int)
                            · rw [if_pos c20] at H
                              have c20b0 : decide (x6_2 < (x4_2.length : Int)) = true := decide_eq_true c20
                              clear c20
                              obtain ⟨y232, hy232⟩ : ∃ y_ : List Int, y_ = (x4_2.set (x6_2 : Int).toNat t231) := ⟨_, rfl⟩
                              replace H : (if 0 ≤ t231 then (if t231 < (x4_2.length : Int) then ((some (y232.set (t231 : Int).toNat x6_2 : List Int)).bind fun y233 => (if t230 ≥ 0 then (if 0 ≤ t230 then (if t230 < (x4_2.length : Int) then (weighhouseref06_Match.l1 kj12 l0 ((y233.set (x6_2 : Int).toNat t230).set (t230 : Int).toNat t231) (wrap64 (x6_2 + 1))) else (none)) else (none)) else (weighhouseref06_Match.l1 kj12 l0 y233 (wrap64 (x6_2 + 1))))) else (none)) else (none)) = some (r1, r2) := by first | (rw [hy232]; with_reducible exact H) | (have H2_ := (Option.bind_some _ _).symm.trans H; rw [hy232]; with_reducible exact H2_) | (have H2_ := (Option.bind_some _ _).symm.trans H; with_reducible exact H2_) | with_reducible exact H | (rw [hy232]; exact H) | exact H
                              have Ny232 := Aside0.mk hy232
                              clear hy232
                              by_cases c22 : 0 ≤ t231
                              · rw [if_pos c22] at H
                                have c22b0 : decide (0 ≤ t231) = true := decide_eq_true c22
                                clear c22
                                by_cases c23 : t231 < (x4_2.length : Int)
                                · rw [if_pos c23] at H
                                  have c23b0 : decide (t231 < (x4_2.length : Int)) = true := decide_eq_true c23
                                  clear c23
                                  obtain ⟨y233, hy233⟩ : ∃ y_ : List Int, y_ = (y232.set (t231 : Int).toNat x6_2) := ⟨_, rfl⟩
                                  replace H : (if t230 ≥ 0 then (if 0 ≤ t230 then (if t230 < (x4_2.length : Int) then (weighhouseref06_Match.l1 kj12 l0 ((y233.set (x6_2 : Int).toNat t230).set (t230 : Int).toNat t231) (wrap64 (x6_2 + 1))) else (none)) else (none)) else (weighhouseref06_Match.l1 kj12 l0 y233 (wrap64 (x6_2 + 1)))) = some (r1, r2) := by first | (rw [hy233]; with_reducible exact H) | (have H2_ := (Option.bind_some _ _).symm.trans H; rw [hy233]; with_reducible exact H2_) | (have H2_ := (Option.bind_some _ _).symm.trans H; with_reducible exact H2_) | with_reducible exact H | (rw [hy233]; exact H) | exact H
                                  have Ny233 := Aside0.mk hy233
                                  clear hy233
                                  by_cases c25 : t230 ≥ 0
                                  · rw [if_pos c25] at H
                                    have c25b0 : decide (0 ≤ t230) = true := decide_eq_true c25
                                    clear c25
                                    obtain ⟨y234, hy234⟩ : ∃ y_ : List Int, y_ = (y233.set (x6_2 : Int).toNat t230) := ⟨_, rfl⟩
                                    replace H : (if 0 ≤ t230 then (if t230 < (x4_2.length : Int) then (weighhouseref06_Match.l1 kj12 l0 (y234.set (t230 : Int).toNat t231) (wrap64 (x6_2 + 1))) else (none)) else (none)) = some (r1, r2) := by first | (rw [hy234]; with_reducible exact H) | (have H2_ := (Option.bind_some _ _).symm.trans H; rw [hy234]; with_reducible exact H2_) | (have H2_ := (Option.bind_some _ _).symm.trans H; with_reducible exact H2_) | with_reducible exact H | (rw [hy234]; exact H) | exact H
                                    have Ny234 := Aside0.mk hy234
                                    clear hy234
                                    by_cases c27 : 0 ≤ t230
                                    · rw [if_pos c27] at H
                                      have c27b0 : decide (0 ≤ t230) = true := decide_eq_true c27
                                      clear c27
                                      by_cases c28 : t230 < (x4_2.length : Int)
                                      · rw [if_pos c28] at H
                                        have c28b0 : decide (t230 < (x4_2.length : Int)) = true := decide_eq_true c28
                                        clear c28
                                        obtain ⟨y235, hy235⟩ : ∃ y_ : List Int, y_ = (y234.set (t230 : Int).toNat t231) := ⟨_, rfl⟩
                                        replace H : (weighhouseref06_Match.l1 kj12 l0 y235 (wrap64 (x6_2 + 1))) = some (r1, r2) := by first | (rw [hy235]; with_reducible exact H) | (have H2_ := (Option.bind_some _ _).symm.trans H; rw [hy235]; with_reducible exact H2_) | (have H2_ := (Option.bind_some _ _).symm.trans H; with_reducible exact H2_) | with_reducible exact H | (rw [hy235]; exact H) | exact H
                                        have Ny235 := Aside0.mk hy235
                                        clear hy235
                                        have H' := Aside0.mk H
                                        clear H
                                        go_wp2_with (first | ((with_reducible refine gate_callee (f := 23) rfl ?_); refine goesL_ (some 49) rfl rfl Try.func23 (by kernel_rfl) rfl #[.slice A0 l0.length c0, .int .i64 x6_2] rfl (by (try simp only [List.map_toArray, List.map_cons, List.map_nil]); first | done | rfl | (simp only [List.length_drop, List.length_take]; rfl)) ?_; (with_reducible refine (weighhouseref06_closes.calls kj12 _ _ l0 x6_2 t230 t231 _ ?side1 ?side2 A17.out).mono ?_); (case side1 => repeat (first | exact (Kd.C_below HR0.out HB.out) | (with_reducible refine Kd.C_alloc ?_ _) | (with_reducible refine Kd.C_drewN ?_ _) | (with_reducible refine Kd.C_drew ?_))); (case side2 => exact HC0.out); rintro e w' ⟨rfl, ⟨nd, rfl⟩⟩; refine ⟨_, rfl, ?_⟩; (try (rw [drewN_self wc]; generalize hq_ : World.drewN wc _ = wc; have n0_ : Aside0 (Kd.R (Kd.int .i64) 3 wc w.heap.size (fun _ => True) v225 x4_2) := ⟨by rw [← hq_]; exact (by (with_reducible repeat (first | apply Kd.R_alloc | apply Kd.R_drewN | apply Kd.R_drew)); exact HO_4.out)⟩; have n1_ : Aside0 (Below w.heap.size w wc) := ⟨by rw [← hq_]; exact (by repeat (first | (with_reducible first | exact HB.out | apply below_alloc | apply pw_below_drewN | apply below_drew1) | exact HB.out))⟩; clear HO_4 HB hq_; have HO_4 := n0_; have HB := n1_; clear n0_ n1_)); have p21 : 0 ≤ (x6_2 : Int) := of_decide_eq_true (by first | (with_reducible assumption) | assumption); have q21 : (x6_2 : Int) < ((x4_2.length : Int) : Int) := of_decide_eq_true (by first | (with_reducible assumption) | assumption); obtain ⟨go21, co21, eo21, gb21, gl21, cl21, HG21⟩ := Kd.R_form HO_4.out (by omega); (first | cases eo21 | (injection eo21 with ea_ en_ ec_; (first | subst ea_ | (injection ea_ with ea_; subst ea_)); subst ec_; clear en_)); have GB21 := Aside0.mk gb21; have GG21 := Aside0.mk HG21; clear gb21 gl21 HG21; obtain ⟨hx21_0, hf21_0⟩ := Kd.R_celln 0 HO_4.out (x6_2 : Int) p21 q21; replace p21 := eq_true p21; replace q21 := eq_true q21; obtain ⟨hy30_, hz30_⟩ := Kd.R_celln 0 HO_4.out (x6_2 : Int) (of_decide_eq_true (by first | (with_reducible assumption) | assumption)) (of_decide_eq_true (by first | (with_reducible assumption) | assumption)); have HP30 := Kd.R_putg HO_4.out (x6_2 : Int) t231) | ((with_reducible refine gate_store (t := 3) (p := 57) rfl ?_); refine store_event (t := 3) (p := 57) (v := ?vo_w31) (w1 := (wc.setCell ⟨go21, (x6_2 : Int).toNat, none⟩ (.int .i64 t231))) ?hg ?ho ?hn ?hr ?_; (case ho => rfl); (case hg => rfl); (case hn => rfl); (case hr => first | (go_simp; done) | (go_simp; rfl)); intro w31 hw; have hg : wc.grownBy w31 (some go21) := (by rw [hw]; exact HP30.2); have hp_ : Kd.R (Kd.int .i64) 3 w31 w.heap.size (fun _ => True) (.slice (some ⟨go21, 0, none⟩) x4_2.length co21) y232 := (by rw [hw, Ny232.out]; exact HP30.1); clear HP30; have n0_ := Aside0.mk (hp_); have n1_ := Aside0.mk ((by rw [hw]; exact below_set (HB.out) GB21.out : Below w.heap.size w w31)); clear HO_4; clear HB; have HO_4 := n0_; have HB := n1_; clear n0_ n1_; clear hg hw hp_; have p24 : 0 ≤ (t231 : Int) := of_decide_eq_true (by first | (with_reducible assumption) | assumption); have q24 : (t231 : Int) < ((x4_2.length : Int) : Int) := of_decide_eq_true (by first | (with_reducible assumption) | assumption); obtain ⟨hx24_0, hf24_0⟩ := Kd.R_celln 0 HO_4.out (t231 : Int) p24 q24; replace p24 := eq_true p24; replace q24 := eq_true q24; obtain ⟨hy32_, hz32_⟩ := Kd.R_celln 0 HO_4.out (t231 : Int) (of_decide_eq_true (by first | (with_reducible assumption) | assumption)) (of_decide_eq_true (by first | (with_reducible assumption) | assumption)); have HP32 := Kd.R_putg HO_4.out (t231 : Int) x6_2) | ((with_reducible refine gate_store (t := 3) (p := 61) rfl ?_); refine store_event (t := 3) (p := 61) (v := ?vo_w33) (w1 := (w31.setCell ⟨go21, (t231 : Int).toNat, none⟩ (.int .i64 x6_2))) ?hg ?ho ?hn ?hr ?_; (case ho => rfl); (case hg => rfl); (case hn => rfl); (case hr => first | (go_simp; done) | (go_simp; rfl)); intro w33 hw; have hg : w31.grownBy w33 (some go21) := (by rw [hw]; exact HP32.2); have hp_ : Kd.R (Kd.int .i64) 3 w33 w.heap.size (fun _ => True) (.slice (some ⟨go21, 0, none⟩) x4_2.length co21) y233 := (by rw [hw, Ny233.out]; exact HP32.1); clear HP32; have n0_ := Aside0.mk (hp_); have n1_ := Aside0.mk ((by rw [hw]; exact below_set (HB.out) GB21.out : Below w.heap.size w w33)); clear HO_4; clear HB; have HO_4 := n0_; have HB := n1_; clear n0_ n1_; clear hg hw hp_; have p26 : 0 ≤ (x6_2 : Int) := of_decide_eq_true (by first | (with_reducible assumption) | assumption); have q26 : (x6_2 : Int) < ((x4_2.length : Int) : Int) := of_decide_eq_true (by first | (with_reducible assumption) | assumption); obtain ⟨hx26_0, hf26_0⟩ := Kd.R_celln 0 HO_4.out (x6_2 : Int) p26 q26; replace p26 := eq_true p26; replace q26 := eq_true q26; obtain ⟨hy34_, hz34_⟩ := Kd.R_celln 0 HO_4.out (x6_2 : Int) (of_decide_eq_true (by first | (with_reducible assumption) | assumption)) (of_decide_eq_true (by first | (with_reducible assumption) | assumption)); have HP34 := Kd.R_putg HO_4.out (x6_2 : Int) t230) | ((with_reducible refine gate_store (t := 3) (p := 67) rfl ?_); refine store_event (t := 3) (p := 67) (v := ?vo_w35) (w1 := (w33.setCell ⟨go21, (x6_2 : Int).toNat, none⟩ (.int .i64 t230))) ?hg ?ho ?hn ?hr ?_; (case ho => rfl); (case hg => rfl); (case hn => rfl); (case hr => first | (go_simp; done) | (go_simp; rfl)); intro w35 hw; have hg : w33.grownBy w35 (some go21) := (by rw [hw]; exact HP34.2); have hp_ : Kd.R (Kd.int .i64) 3 w35 w.heap.size (fun _ => True) (.slice (some ⟨go21, 0, none⟩) x4_2.length co21) y234 := (by rw [hw, Ny234.out]; exact HP34.1); clear HP34; have n0_ := Aside0.mk (hp_); have n1_ := Aside0.mk ((by rw [hw]; exact below_set (HB.out) GB21.out : Below w.heap.size w w35)); clear HO_4; clear HB; have HO_4 := n0_; have HB := n1_; clear n0_ n1_; clear hg hw hp_; have p29 : 0 ≤ (t230 : Int) := of_decide_eq_true (by first | (with_reducible assumption) | assumption); have q29 : (t230 : Int) < ((x4_2.length : Int) : Int) := of_decide_eq_true (by first | (with_reducible assumption) | assumption); obtain ⟨hx29_0, hf29_0⟩ := Kd.R_celln 0 HO_4.out (t230 : Int) p29 q29; replace p29 := eq_true p29; replace q29 := eq_true q29; obtain ⟨hy36_, hz36_⟩ := Kd.R_celln 0 HO_4.out (t230 : Int) (of_decide_eq_true (by first | (with_reducible assumption) | assumption)) (of_decide_eq_true (by first | (with_reducible assumption) | assumption)); have HP36 := Kd.R_putg HO_4.out (t230 : Int) t231) | ((with_reducible refine gate_store (t := 3) (p := 71) rfl ?_); refine store_event (t := 3) (p := 71) (v := ?vo_w37) (w1 := (w35.setCell ⟨go21, (t230 : Int).toNat, none⟩ (.int .i64 t231))) ?hg ?ho ?hn ?hr ?_; (case ho => rfl); (case hg => rfl); (case hn => rfl); (case hr => first | (go_simp; done) | (go_simp; rfl)); intro w37 hw; have hg : w35.grownBy w37 (some go21) := (by rw [hw]; exact HP36.2); have hp_ : Kd.R (Kd.int .i64) 3 w37 w.heap.size (fun _ => True) (.slice (some ⟨go21, 0, none⟩) x4_2.length co21) y235 := (by rw [hw, Ny235.out]; exact HP36.1); clear HP36; have n0_ := Aside0.mk (hp_); have n1_ := Aside0.mk ((by rw [hw]; exact below_set (HB.out) GB21.out : Below w.heap.size w w37)); clear HO_4; clear HB; have HO_4 := n0_; have HB := n1_; clear n0_ n1_; clear hg hw hp_))
                                        go_roundg kj12
                                        case measure => have := HK1.out; have := HK2.out; have := HJ12.out; omega
                                        case rel => exact ⟨(y235), (wrap64 (x6_2 + 1)), (by first | rfl | (simp; done) | (simp [*]; done)), H', ⟨by have := HK1.out; have := HK2.out; have := HJ12.out; omega⟩, ⟨by (with_reducible repeat (first | apply Kd.R_alloc | apply Kd.R_drewN | apply Kd.R_drew)); exact HO_4.out⟩, ⟨by repeat (first | (with_reducible first | exact HB.out | apply below_alloc | apply pw_below_drewN | apply below_drew1) | exact HB.out)⟩⟩
                                      · rw [if_neg c28] at H
                                        exact absurd H (by simp)
                                    · rw [if_neg c27] at H
                                      exact absurd H (by simp)
                                  · rw [if_neg c25] at H
                                    have c25b0 : decide (0 ≤ t230) = false := decide_eq_false c25
                                    clear c25
                                    have H' := Aside0.mk H
                                    clear H
                                    go_wp2_with (first | ((with_reducible refine gate_callee (f := 23) rfl ?_); refine goesL_ (some 49) rfl rfl Try.func23 (by kernel_rfl) rfl #[.slice A0 l0.length c0, .int .i64 x6_2] rfl (by (try simp only [List.map_toArray, List.map_cons, List.map_nil]); first | done | rfl | (simp only [List.length_drop, List.length_take]; rfl)) ?_; (with_reducible refine (weighhouseref06_closes.calls kj12 _ _ l0 x6_2 t230 t231 _ ?side1 ?side2 A17.out).mono ?_); (case side1 => repeat (first | exact (Kd.C_below HR0.out HB.out) | (with_reducible refine Kd.C_alloc ?_ _) | (with_reducible refine Kd.C_drewN ?_ _) | (with_reducible refine Kd.C_drew ?_))); (case side2 => exact HC0.out); rintro e w' ⟨rfl, ⟨nd, rfl⟩⟩; refine ⟨_, rfl, ?_⟩; (try (rw [drewN_self wc]; generalize hq_ : World.drewN wc _ = wc; have n0_ : Aside0 (Kd.R (Kd.int .i64) 3 wc w.heap.size (fun _ => True) v225 x4_2) := ⟨by rw [← hq_]; exact (by (with_reducible repeat (first | apply Kd.R_alloc | apply Kd.R_drewN | apply Kd.R_drew)); exact HO_4.out)⟩; have n1_ : Aside0 (Below w.heap.size w wc) := ⟨by rw [← hq_]; exact (by repeat (first | (with_reducible first | exact HB.out | apply below_alloc | apply pw_below_drewN | apply below_drew1) | exact HB.out))⟩; clear HO_4 HB hq_; have HO_4 := n0_; have HB := n1_; clear n0_ n1_)); have p21 : 0 ≤ (x6_2 : Int) := of_decide_eq_true (by first | (with_reducible assumption) | assumption); have q21 : (x6_2 : Int) < ((x4_2.length : Int) : Int) := of_decide_eq_true (by first | (with_reducible assumption) | assumption); obtain ⟨go21, co21, eo21, gb21, gl21, cl21, HG21⟩ := Kd.R_form HO_4.out (by omega); (first | cases eo21 | (injection eo21 with ea_ en_ ec_; (first | subst ea_ | (injection ea_ with ea_; subst ea_)); subst ec_; clear en_)); have GB21 := Aside0.mk gb21; have GG21 := Aside0.mk HG21; clear gb21 gl21 HG21; obtain ⟨hx21_0, hf21_0⟩ := Kd.R_celln 0 HO_4.out (x6_2 : Int) p21 q21; replace p21 := eq_true p21; replace q21 := eq_true q21; obtain ⟨hy38_, hz38_⟩ := Kd.R_celln 0 HO_4.out (x6_2 : Int) (of_decide_eq_true (by first | (with_reducible assumption) | assumption)) (of_decide_eq_true (by first | (with_reducible assumption) | assumption)); have HP38 := Kd.R_putg HO_4.out (x6_2 : Int) t231) | ((with_reducible refine gate_store (t := 3) (p := 57) rfl ?_); refine store_event (t := 3) (p := 57) (v := ?vo_w39) (w1 := (wc.setCell ⟨go21, (x6_2 : Int).toNat, none⟩ (.int .i64 t231))) ?hg ?ho ?hn ?hr ?_; (case ho => rfl); (case hg => rfl); (case hn => rfl); (case hr => first | (go_simp; done) | (go_simp; rfl)); intro w39 hw; have hg : wc.grownBy w39 (some go21) := (by rw [hw]; exact HP38.2); have hp_ : Kd.R (Kd.int .i64) 3 w39 w.heap.size (fun _ => True) (.slice (some ⟨go21, 0, none⟩) x4_2.length co21) y232 := (by rw [hw, Ny232.out]; exact HP38.1); clear HP38; have n0_ := Aside0.mk (hp_); have n1_ := Aside0.mk ((by rw [hw]; exact below_set (HB.out) GB21.out : Below w.heap.size w w39)); clear HO_4; clear HB; have HO_4 := n0_; have HB := n1_; clear n0_ n1_; clear hg hw hp_; have p24 : 0 ≤ (t231 : Int) := of_decide_eq_true (by first | (with_reducible assumption) | assumption); have q24 : (t231 : Int) < ((x4_2.length : Int) : Int) := of_decide_eq_true (by first | (with_reducible assumption) | assumption); obtain ⟨hx24_0, hf24_0⟩ := Kd.R_celln 0 HO_4.out (t231 : Int) p24 q24; replace p24 := eq_true p24; replace q24 := eq_true q24; obtain ⟨hy40_, hz40_⟩ := Kd.R_celln 0 HO_4.out (t231 : Int) (of_decide_eq_true (by first | (with_reducible assumption) | assumption)) (of_decide_eq_true (by first | (with_reducible assumption) | assumption)); have HP40 := Kd.R_putg HO_4.out (t231 : Int) x6_2) | ((with_reducible refine gate_store (t := 3) (p := 61) rfl ?_); refine store_event (t := 3) (p := 61) (v := ?vo_w41) (w1 := (w39.setCell ⟨go21, (t231 : Int).toNat, none⟩ (.int .i64 x6_2))) ?hg ?ho ?hn ?hr ?_; (case ho => rfl); (case hg => rfl); (case hn => rfl); (case hr => first | (go_simp; done) | (go_simp; rfl)); intro w41 hw; have hg : w39.grownBy w41 (some go21) := (by rw [hw]; exact HP40.2); have hp_ : Kd.R (Kd.int .i64) 3 w41 w.heap.size (fun _ => True) (.slice (some ⟨go21, 0, none⟩) x4_2.length co21) y233 := (by rw [hw, Ny233.out]; exact HP40.1); clear HP40; have n0_ := Aside0.mk (hp_); have n1_ := Aside0.mk ((by rw [hw]; exact below_set (HB.out) GB21.out : Below w.heap.size w w41)); clear HO_4; clear HB; have HO_4 := n0_; have HB := n1_; clear n0_ n1_; clear hg hw hp_))
                                    go_roundg kj12
                                    case measure => have := HK1.out; have := HK2.out; have := HJ12.out; omega
                                    case rel => exact ⟨(y233), (wrap64 (x6_2 + 1)), (by first | rfl | (simp; done) | (simp [*]; done)), H', ⟨by have := HK1.out; have := HK2.out; have := HJ12.out; omega⟩, ⟨by (with_reducible repeat (first | apply Kd.R_alloc | apply Kd.R_drewN | apply Kd.R_drew)); exact HO_4.out⟩, ⟨by repeat (first | (with_reducible first | exact HB.out | apply below_alloc | apply pw_below_drewN | apply below_drew1) | exact HB.out)⟩⟩
                                · rw [if_neg c23] at H
                                  exact absurd H (by simp)
                              · rw [if_neg c22] at H
                                exact absurd H (by simp)
                            · rw [if_neg c20] at H
                              exact absurd H (by simp)
                          · rw [if_neg c19] at H
                            exact absurd H (by simp)
                · rw [if_neg c12] at H
                  have c12b0 : decide (x6_2 < (l0.length : Int)) = false := decide_eq_false c12
                  clear c12
                  have H' := Aside0.mk H
                  clear H
                  go_wp2
                  go_loopg [9] k2 (fun kq v9 w' => ∃ (x9_3 : Int), v9 = .int .i64 x9_3 ∧ Aside0 (weighhouseref06_Match.l2 kq l0 x4_2 x9_3 = some (r1, r2)) ∧ Aside0 (kq ≤ k2) ∧ Aside0 (Kd.R (Kd.int .i64) 3 w' w.heap.size (fun _ => True) v225 x4_2) ∧ Aside0 (Below w.heap.size w w'))
                  case atStart => exact ⟨(0), (by first | rfl | (simp; done) | (simp [*]; done)), H', ⟨Nat.le_refl _⟩, ⟨by (with_reducible repeat (first | apply Kd.R_alloc | apply Kd.R_drewN | apply Kd.R_drew)); exact HO_4.out⟩, ⟨by repeat (first | (with_reducible first | exact HB.out | apply below_alloc | apply pw_below_drewN | apply below_drew1) | exact HB.out)⟩⟩
                  case round =>
                    clear H'
                    try clear c1
                    try clear c2
                    try clear c2b0
                    try clear c2b1
                    try clear p2
                    try clear q2
                    try clear hx2
                    try clear hf2
                    try clear c3
                    try clear c3b0
                    try clear c3b1
                    try clear c6
                    try clear c6b0
                    try clear p6
                    try clear c7
                    try clear c7b0
                    try clear c8
                    try clear c8b0
                    try clear p9
                    try clear q9
                    try clear hx9
                    try clear hf9
                    try clear c12
                    try clear c12b0
                    try clear c14
                    try clear c14b0
                    try clear c15
                    try clear c15b0
                    try clear c15b1
                    try clear c16
                    try clear c18
                    try clear c18b0
                    try clear c19
                    try clear c19b0
                    try clear c20
                    try clear c20b0
                    try clear p21
                    try clear q21
                    try clear hx21
                    try clear hf21
                    try clear c22
                    try clear c22b0
                    try clear p22
                    try clear q22
                    try clear hx22
                    try clear c23
                    try clear c23b0
                    try clear p24
                    try clear q24
                    try clear hx24
                    try clear hf24
                    try clear c25
                    try clear c25b0
                    try clear p26
                    try clear q26
                    try clear hx26
                    try clear hf26
                    try clear c27
                    try clear c27b0
                    try clear c28
                    try clear c28b0
                    try clear p29
                    try clear q29
                    try clear hx29
                    try clear hf29
                    try clear hx21_0
                    try clear hx228_0
                    try clear hx228_1
                    try clear hx229_0
                    try clear hx229_1
                    try clear hx24_0
                    try clear hx26_0
                    try clear hx29_0
                    try clear hx9_0
                    try clear p2
                    try clear p21
                    try clear p228
                    try clear p229
                    try clear p24
                    try clear p26
                    try clear p29
                    try clear p6
                    try clear p9
                    try clear q2
                    try clear q21
                    try clear q228
                    try clear q229
                    try clear q24
                    try clear q26
                    try clear q29
                    try clear q9
                    obtain ⟨x9_3, rfl, HA, HK3, HO_4, HB⟩ := hrel
                    cases gk with
                    | zero => exact absurd HA.out (by simp [weighhouseref06_Match.l2])
                    | succ k3 =>
                      have H := HA.out
                      clear HA
                      simp only [weighhouseref06_Match.l2] at H
                      by_cases c42 : x9_3 < (l0.length : Int)
                      · rw [if_pos c42] at H
                        have c42b0 : decide (x9_3 < (l0.length : Int)) = true := decide_eq_true c42
                        clear c42
                        by_cases c43 : 0 ≤ x9_3
                        · rw [if_pos c43] at H
                          have c43b0 : decide (0 ≤ x9_3) = true := decide_eq_true c43
                          clear c43
                          by_cases c44 : ((rd_T31 l0 x9_3).f0) = 49
                          · rw [if_pos c44] at H
                            have c44b0 : (((rd_T31 l0 x9_3).f0) == 49) = true := beq_iff_eq.mpr c44
                            have c44b1 : (((rd_T31 l0 x9_3).f0) != 49) = false := bne_eq_false_iff_eq.mpr c44
                            clear c44
                            by_cases c45 : x9_3 < (x4_2.length : Int)
                            · rw [if_pos c45] at H
                              have c45b0 : decide (x9_3 < (x4_2.length : Int)) = true := decide_eq_true c45
                              clear c45
                              by_cases c46 : (rd x4_2 x9_3) < 0
                              · rw [if_pos c46] at H
                                have c46b0 : decide ((rd x4_2 x9_3) < 0) = true := decide_eq_true c46
                                clear c46
                                simp only [Option.some.injEq, Prod.mk.injEq] at H
                                obtain ⟨rfl, rfl⟩ := H
                                have p236 : 0 ≤ (x9_3 : Int) := of_decide_eq_true (by first | (with_reducible assumption) | assumption)
                                have q236 : x9_3 < (l0.length : Int) := of_decide_eq_true (by first | (with_reducible assumption) | assumption)
                                obtain ⟨ad236, e236, hx236_0, hx236_1⟩ := at_T31 HR0.out x9_3 p236 q236
                                cases e236
                                replace hx236_0 := (HB.out.cell (World.block_lt_of_cell? w _ hx236_0)).trans hx236_0
                                replace hx236_1 := (HB.out.cell (World.block_lt_of_cell? w _ hx236_1)).trans hx236_1
                                replace p236 := eq_true p236
                                replace q236 := eq_true q236
                                obtain ⟨Ao47, co47, eo47⟩ := Kd.R_slice HO_4.out
                                subst eo47
                                have p237 : 0 ≤ (x9_3 : Int) := of_decide_eq_true (by first | (with_reducible assumption) | assumption)
                                have q237 : x9_3 < (x4_2.length : Int) := of_decide_eq_true (by first | (with_reducible assumption) | assumption)
                                obtain ⟨ad237, e237, hx237_0⟩ := Kd.at_int (Kd.R_reads' HO_4.out).2.2 x9_3 p237 q237
                                cases e237
                                replace p237 := eq_true p237
                                replace q237 := eq_true q237
                                go_wp2
                                go_ret2
                                exact ⟨_, by first | rfl | (simp [errW_none, errW_some] <;> rfl) | (simp [*, errW_none, errW_some] <;> rfl), by first | exact Kd.R_nil _ _ _ _ _ | exact Kd.N_nil _ _ _ _ _ | exact Kd.V_nil _ _ _ _ _ | exact Kd.Q_nil _ _ _ _ _ | exact Kd.S_nil _ _ _ _ _, by repeat (first | (with_reducible first | exact HB.out | apply below_alloc | apply pw_below_drewN | apply below_drew1) | exact HB.out)⟩
                              · rw [if_neg c46] at H
                                have c46b0 : decide ((rd x4_2 x9_3) < 0) = false := decide_eq_false c46
                                clear c46
                                have H' := Aside0.mk H
                                clear H
                                have p236 : 0 ≤ (x9_3 : Int) := of_decide_eq_true (by first | (with_reducible assumption) | assumption)
                                have q236 : x9_3 < (l0.length : Int) := of_decide_eq_true (by first | (with_reducible assumption) | assumption)
                                obtain ⟨ad236, e236, hx236_0, hx236_1⟩ := at_T31 HR0.out x9_3 p236 q236
                                cases e236
                                replace hx236_0 := (HB.out.cell (World.block_lt_of_cell? w _ hx236_0)).trans hx236_0
                                replace hx236_1 := (HB.out.cell (World.block_lt_of_cell? w _ hx236_1)).trans hx236_1
                                replace p236 := eq_true p236
                                replace q236 := eq_true q236
                                obtain ⟨Ao48, co48, eo48⟩ := Kd.R_slice HO_4.out
                                subst eo48
                                have p237 : 0 ≤ (x9_3 : Int) := of_decide_eq_true (by first | (with_reducible assumption) | assumption)
                                have q237 : x9_3 < (x4_2.length : Int) := of_decide_eq_true (by first | (with_reducible assumption) | assumption)
                                obtain ⟨ad237, e237, hx237_0⟩ := Kd.at_int (Kd.R_reads' HO_4.out).2.2 x9_3 p237 q237
                                cases e237
                                replace p237 := eq_true p237
                                replace q237 := eq_true q237
                                go_wp2
                                go_roundg k3
                                case measure => have := HK1.out; have := HK2.out; have := HK3.out; omega
                                case rel => exact ⟨(wrap64 (x9_3 + 1)), (by first | rfl | (simp; done) | (simp [*]; done)), H', ⟨by have := HK1.out; have := HK2.out; have := HK3.out; omega⟩, ⟨by (with_reducible repeat (first | apply Kd.R_alloc | apply Kd.R_drewN | apply Kd.R_drew)); exact HO_4.out⟩, ⟨by repeat (first | (with_reducible first | exact HB.out | apply below_alloc | apply pw_below_drewN | apply below_drew1) | exact HB.out)⟩⟩
                            · rw [if_neg c45] at H
                              exact absurd H (by simp)
                          · rw [if_neg c44] at H
                            have c44b0 : (((rd_T31 l0 x9_3).f0) == 49) = false := beq_eq_false_iff_ne.mpr c44
                            have c44b1 : (((rd_T31 l0 x9_3).f0) != 49) = true := bne_iff_ne.mpr c44
                            by_cases c49 : ((rd_T31 l0 x9_3).f0) = 50
                            · rw [if_pos c49] at H
                              have c49b0 : (((rd_T31 l0 x9_3).f0) == 50) = true := beq_iff_eq.mpr c49
                              have c49b1 : (((rd_T31 l0 x9_3).f0) != 50) = false := bne_eq_false_iff_eq.mpr c49
                              clear c49
                              by_cases c50 : x9_3 < (x4_2.length : Int)
                              · rw [if_pos c50] at H
                                have c50b0 : decide (x9_3 < (x4_2.length : Int)) = true := decide_eq_true c50
                                clear c50
                                by_cases c51 : (rd x4_2 x9_3) < 0
                                · rw [if_pos c51] at H
                                  have c51b0 : decide ((rd x4_2 x9_3) < 0) = true := decide_eq_true c51
                                  clear c51
                                  simp only [Option.some.injEq, Prod.mk.injEq] at H
                                  obtain ⟨rfl, rfl⟩ := H
                                  have p236 : 0 ≤ (x9_3 : Int) := of_decide_eq_true (by first | (with_reducible assumption) | assumption)
                                  have q236 : x9_3 < (l0.length : Int) := of_decide_eq_true (by first | (with_reducible assumption) | assumption)
                                  obtain ⟨ad236, e236, hx236_0, hx236_1⟩ := at_T31 HR0.out x9_3 p236 q236
                                  cases e236
                                  replace hx236_0 := (HB.out.cell (World.block_lt_of_cell? w _ hx236_0)).trans hx236_0
                                  replace hx236_1 := (HB.out.cell (World.block_lt_of_cell? w _ hx236_1)).trans hx236_1
                                  replace p236 := eq_true p236
                                  replace q236 := eq_true q236
                                  have p238 : 0 ≤ (x9_3 : Int) := of_decide_eq_true (by first | (with_reducible assumption) | assumption)
                                  have q238 : x9_3 < (l0.length : Int) := of_decide_eq_true (by first | (with_reducible assumption) | assumption)
                                  obtain ⟨ad238, e238, hx238_0, hx238_1⟩ := at_T31 HR0.out x9_3 p238 q238
                                  obtain rfl : ad236 = ad238 := (by injection e238)
                                  replace hx238_0 := (HB.out.cell (World.block_lt_of_cell? w _ hx238_0)).trans hx238_0
                                  replace hx238_1 := (HB.out.cell (World.block_lt_of_cell? w _ hx238_1)).trans hx238_1
                                  replace p238 := eq_true p238
                                  replace q238 := eq_true q238
                                  obtain ⟨Ao52, co52, eo52⟩ := Kd.R_slice HO_4.out
                                  subst eo52
                                  have p239 : 0 ≤ (x9_3 : Int) := of_decide_eq_true (by first | (with_reducible assumption) | assumption)
                                  have q239 : x9_3 < (x4_2.length : Int) := of_decide_eq_true (by first | (with_reducible assumption) | assumption)
                                  obtain ⟨ad239, e239, hx239_0⟩ := Kd.at_int (Kd.R_reads' HO_4.out).2.2 x9_3 p239 q239
                                  cases e239
                                  replace p239 := eq_true p239
                                  replace q239 := eq_true q239
                                  go_wp2
                                  go_ret2
                                  exact ⟨_, by first | rfl | (simp [errW_none, errW_some] <;> rfl) | (simp [*, errW_none, errW_some] <;> rfl), by first | exact Kd.R_nil _ _ _ _ _ | exact Kd.N_nil _ _ _ _ _ | exact Kd.V_nil _ _ _ _ _ | exact Kd.Q_nil _ _ _ _ _ | exact Kd.S_nil _ _ _ _ _, by repeat (first | (with_reducible first | exact HB.out | apply below_alloc | apply pw_below_drewN | apply below_drew1) | exact HB.out)⟩
                                · rw [if_neg c51] at H
                                  have c51b0 : decide ((rd x4_2 x9_3) < 0) = false := decide_eq_false c51
                                  clear c51
                                  have H' := Aside0.mk H
                                  clear H
                                  have p236 : 0 ≤ (x9_3 : Int) := of_decide_eq_true (by first | (with_reducible assumption) | assumption)
                                  have q236 : x9_3 < (l0.length : Int) := of_decide_eq_true (by first | (with_reducible assumption) | assumption)
                                  obtain ⟨ad236, e236, hx236_0, hx236_1⟩ := at_T31 HR0.out x9_3 p236 q236
                                  cases e236
                                  replace hx236_0 := (HB.out.cell (World.block_lt_of_cell? w _ hx236_0)).trans hx236_0
                                  replace hx236_1 := (HB.out.cell (World.block_lt_of_cell? w _ hx236_1)).trans hx236_1
                                  replace p236 := eq_true p236
                                  replace q236 := eq_true q236
                                  have p238 : 0 ≤ (x9_3 : Int) := of_decide_eq_true (by first | (with_reducible assumption) | assumption)
                                  have q238 : x9_3 < (l0.length : Int) := of_decide_eq_true (by first | (with_reducible assumption) | assumption)
                                  obtain ⟨ad238, e238, hx238_0, hx238_1⟩ := at_T31 HR0.out x9_3 p238 q238
                                  obtain rfl : ad236 = ad238 := (by injection e238)
                                  replace hx238_0 := (HB.out.cell (World.block_lt_of_cell? w _ hx238_0)).trans hx238_0
                                  replace hx238_1 := (HB.out.cell (World.block_lt_of_cell? w _ hx238_1)).trans hx238_1
                                  replace p238 := eq_true p238
                                  replace q238 := eq_true q238
                                  obtain ⟨Ao53, co53, eo53⟩ := Kd.R_slice HO_4.out
                                  subst eo53
                                  have p239 : 0 ≤ (x9_3 : Int) := of_decide_eq_true (by first | (with_reducible assumption) | assumption)
                                  have q239 : x9_3 < (x4_2.length : Int) := of_decide_eq_true (by first | (with_reducible assumption) | assumption)
                                  obtain ⟨ad239, e239, hx239_0⟩ := Kd.at_int (Kd.R_reads' HO_4.out).2.2 x9_3 p239 q239
                                  cases e239
                                  replace p239 := eq_true p239
                                  replace q239 := eq_true q239
                                  go_wp2
                                  go_roundg k3
                                  case measure => have := HK1.out; have := HK2.out; have := HK3.out; omega
                                  case rel => exact ⟨(wrap64 (x9_3 + 1)), (by first | rfl | (simp; done) | (simp [*]; done)), H', ⟨by have := HK1.out; have := HK2.out; have := HK3.out; omega⟩, ⟨by (with_reducible repeat (first | apply Kd.R_alloc | apply Kd.R_drewN | apply Kd.R_drew)); exact HO_4.out⟩, ⟨by repeat (first | (with_reducible first | exact HB.out | apply below_alloc | apply pw_below_drewN | apply below_drew1) | exact HB.out)⟩⟩
                              · rw [if_neg c50] at H
                                exact absurd H (by simp)
                            · rw [if_neg c49] at H
                              have c49b0 : (((rd_T31 l0 x9_3).f0) == 50) = false := beq_eq_false_iff_ne.mpr c49
                              have c49b1 : (((rd_T31 l0 x9_3).f0) != 50) = true := bne_iff_ne.mpr c49
                              have H' := Aside0.mk H
                              clear H
                              have p236 : 0 ≤ (x9_3 : Int) := of_decide_eq_true (by first | (with_reducible assumption) | assumption)
                              have q236 : x9_3 < (l0.length : Int) := of_decide_eq_true (by first | (with_reducible assumption) | assumption)
                              obtain ⟨ad236, e236, hx236_0, hx236_1⟩ := at_T31 HR0.out x9_3 p236 q236
                              cases e236
                              replace hx236_0 := (HB.out.cell (World.block_lt_of_cell? w _ hx236_0)).trans hx236_0
                              replace hx236_1 := (HB.out.cell (World.block_lt_of_cell? w _ hx236_1)).trans hx236_1
                              replace p236 := eq_true p236
                              replace q236 := eq_true q236
                              have p238 : 0 ≤ (x9_3 : Int) := of_decide_eq_true (by first | (with_reducible assumption) | assumption)
                              have q238 : x9_3 < (l0.length : Int) := of_decide_eq_true (by first | (with_reducible assumption) | assumption)
                              obtain ⟨ad238, e238, hx238_0, hx238_1⟩ := at_T31 HR0.out x9_3 p238 q238
                              obtain rfl : ad236 = ad238 := (by injection e238)
                              replace hx238_0 := (HB.out.cell (World.block_lt_of_cell? w _ hx238_0)).trans hx238_0
                              replace hx238_1 := (HB.out.cell (World.block_lt_of_cell? w _ hx238_1)).trans hx238_1
                              replace p238 := eq_true p238
                              replace q238 := eq_true q238
                              go_wp2
                              go_roundg k3
                              case measure => have := HK1.out; have := HK2.out; have := HK3.out; omega
                              case rel => exact ⟨(wrap64 (x9_3 + 1)), (by first | rfl | (simp; done) | (simp [*]; done)), H', ⟨by have := HK1.out; have := HK2.out; have := HK3.out; omega⟩, ⟨by (with_reducible repeat (first | apply Kd.R_alloc | apply Kd.R_drewN | apply Kd.R_drew)); exact HO_4.out⟩, ⟨by repeat (first | (with_reducible first | exact HB.out | apply below_alloc | apply pw_below_drewN | apply below_drew1) | exact HB.out)⟩⟩
                        · rw [if_neg c43] at H
                          exact absurd H (by simp)
                      · rw [if_neg c42] at H
                        have c42b0 : decide (x9_3 < (l0.length : Int)) = false := decide_eq_false c42
                        clear c42
                        have H' := Aside0.mk H
                        clear H
                        go_wp2
                        go_loopg [10] k3 (fun kq v10 w' => ∃ (x4_4 : List Int) (x10_4 : Int), v10 = .int .i64 x10_4 ∧ Aside0 (weighhouseref06_Match.l3 kq l0 x4_4 x10_4 = some (r1, r2)) ∧ Aside0 (kq ≤ k3) ∧ Aside0 (Kd.R (Kd.int .i64) 3 w' w.heap.size (fun _ => True) v225 x4_4) ∧ Aside0 (Below w.heap.size w w'))
                        case atStart => exact ⟨(x4_2), (0), (by first | rfl | (simp; done) | (simp [*]; done)), H', ⟨Nat.le_refl _⟩, ⟨by (with_reducible repeat (first | apply Kd.R_alloc | apply Kd.R_drewN | apply Kd.R_drew)); exact HO_4.out⟩, ⟨by repeat (first | (with_reducible first | exact HB.out | apply below_alloc | apply pw_below_drewN | apply below_drew1) | exact HB.out)⟩⟩
                        case round =>
                          clear H'
                          try clear c1
                          try clear c2
                          try clear c2b0
                          try clear c2b1
                          try clear p2
                          try clear q2
                          try clear hx2
                          try clear hf2
                          try clear c3
                          try clear c3b0
                          try clear c3b1
                          try clear c4
                          try clear c5
                          try clear c6
                          try clear c6b0
                          try clear p6
                          try clear c7
                          try clear c7b0
                          try clear c8
                          try clear c8b0
                          try clear p9
                          try clear q9
                          try clear hx9
                          try clear hf9
                          try clear c12
                          try clear c12b0
                          try clear c14
                          try clear c14b0
                          try clear c15
                          try clear c15b0
                          try clear c15b1
                          try clear c16
                          try clear c18
                          try clear c18b0
                          try clear c19
                          try clear c19b0
                          try clear c20
                          try clear c20b0
                          try clear p21
                          try clear q21
                          try clear hx21
                          try clear hf21
                          try clear c22
                          try clear c22b0
                          try clear p22
                          try clear q22
                          try clear hx22
                          try clear c23
                          try clear c23b0
                          try clear p23
                          try clear q23
                          try clear hx23
                          try clear p24
                          try clear q24
                          try clear hx24
                          try clear hf24
                          try clear c25
                          try clear c25b0
                          try clear p26
                          try clear q26
                          try clear hx26
                          try clear hf26
                          try clear c27
                          try clear c27b0
                          try clear c28
                          try clear c28b0
                          try clear p29
                          try clear q29
                          try clear hx29
                          try clear hf29
                          try clear c42
                          try clear c42b0
                          try clear c43
                          try clear c43b0
                          try clear c44
                          try clear c44b0
                          try clear c44b1
                          try clear c45
                          try clear c45b0
                          try clear c46
                          try clear c46b0
                          try clear c49
                          try clear c49b0
                          try clear c49b1
                          try clear c50
                          try clear c50b0
                          try clear c51
                          try clear c51b0
                          try clear hx21_0
                          try clear hx228_0
                          try clear hx228_1
                          try clear hx229_0
                          try clear hx229_1
                          try clear hx236_0
                          try clear hx236_1
                          try clear hx237_0
                          try clear hx238_0
                          try clear hx238_1
                          try clear hx239_0
                          try clear hx24_0
                          try clear hx26_0
                          try clear hx29_0
                          try clear hx9_0
                          try clear p2
                          try clear p21
                          try clear p22
                          try clear p228
                          try clear p229
                          try clear p236
                          try clear p237
                          try clear p238
                          try clear p239
                          try clear p24
                          try clear p26
                          try clear p29
                          try clear p6
                          try clear p9
                          try clear q2
                          try clear q21
                          try clear q22
                          try clear q228
                          try clear q229
                          try clear q236
                          try clear q237
                          try clear q238
                          try clear q239
                          try clear q24
                          try clear q26
                          try clear q29
                          try clear q9
                          obtain ⟨x4_4, x10_4, rfl, HA, HK4, HO_4, HB⟩ := hrel
                          cases gk with
                          | zero => exact absurd HA.out (by simp [weighhouseref06_Match.l3])
                          | succ k4 =>
                            have H := HA.out
                            clear HA
                            simp only [weighhouseref06_Match.l3] at H
                            by_cases c54 : x10_4 < (l0.length : Int)
                            · rw [if_pos c54] at H
                              have c54b0 : decide (x10_4 < (l0.length : Int)) = true := decide_eq_true c54
                              clear c54
                              replace H := Option.bind_eq_some_iff.mp H
                              obtain ⟨t240, A550, H⟩ := H
                              replace H : (if 0 ≤ x10_4 then (if ((rd_T31 l0 x10_4).f0) = 48 then (weighhouseref06_Match.j5 k4 l0 x4_4 x10_4 t240 (t240.length : Int) true) else (weighhouseref06_Match.j5 k4 l0 x4_4 x10_4 t240 (t240.length : Int) (((rd_T31 l0 x10_4).f0) == 51))) else (none)) = some (r1, r2) := H
                              have A55 := Aside0.mk A550
                              clear A550
                              have HC56 := Aside0.mk H
                              clear H
                              obtain ⟨Ao57, co57, eo57⟩ := Kd.R_slice HO_4.out
                              subst eo57
                              go_upto_region 28 with (first | ((with_reducible refine gate_callee (f := 24) rfl ?_); refine goesL_ (some 108) rfl rfl Try.func24 (by kernel_rfl) rfl #[.slice A0 l0.length c0, .slice Ao57 x4_4.length co57, .int .i64 x10_4] rfl (by (try simp only [List.map_toArray, List.map_cons, List.map_nil]); first | done | rfl | (simp only [List.length_drop, List.length_take]; rfl)) ?_; (with_reducible refine (weighhouseref06_opened.calls k4 _ _ l0 _ _ x4_4 x10_4 t240 _ ?side1 ?side2 ?side3 ?side4 A55.out).mono ?_); (case side1 => repeat (first | exact (Kd.C_below HR0.out HB.out) | (with_reducible refine Kd.C_alloc ?_ _) | (with_reducible refine Kd.C_drewN ?_ _) | (with_reducible refine Kd.C_drew ?_))); (case side2 => exact HC0.out); (case side3 => repeat (first | exact (Kd.R_reads' HO_4.out).2.2 | (with_reducible refine Kd.C_alloc ?_ _) | (with_reducible refine Kd.C_drewN ?_ _) | (with_reducible refine Kd.C_drew ?_))); (case side4 => exact (Kd.R_reads' HO_4.out).2.1); rintro e w58 ⟨v241, rfl, ho0, hb⟩; refine ⟨_, rfl, ?_⟩; have n0_ := Aside0.mk (Kd.R_elder' (by (with_reducible repeat (first | apply Kd.R_alloc | apply Kd.R_drewN | apply Kd.R_drew)); exact HO_4.out) (Kd.R_base ho0) hb); have n1_ := Aside0.mk (Kd.R_lower (Kd.R_new' ho0 (Kd.R_lt (by (with_reducible repeat (first | apply Kd.R_alloc | apply Kd.R_drewN | apply Kd.R_drew)); exact HO_4.out))) (below_size (by repeat (first | (with_reducible first | exact HB.out | apply below_alloc | apply pw_below_drewN | apply below_drew1) | exact HB.out)))); have n2_ := Aside0.mk (below_step (by repeat (first | (with_reducible first | exact HB.out | apply below_alloc | apply pw_below_drewN | apply below_drew1) | exact HB.out)) hb); clear HO_4; clear HB; have HO_4 := n0_; have HO242 := n1_; have HB := n2_; clear n0_ n1_ n2_; (try clear hb); (try clear hb2); (try clear hk); (try clear hi); (try clear ho0); obtain ⟨Ao59, co59, eo59⟩ := Kd.R_slice HO242.out; subst eo59))
                              (try simp only [Act.put, List.setIfInBounds_toArray, List.set_cons_zero, List.set_cons_succ])
                              go_cut [124] (fun v124 wc => ∃ (kq : Nat) (x124_55 : Bool), v124 = .bool x124_55 ∧ Aside0 (weighhouseref06_Match.j5 kq l0 x4_4 x10_4 t240 (t240.length : Int) x124_55 = some (r1, r2)) ∧ Aside0 (kq ≤ k4) ∧ Aside0 (Kd.R (Kd.int .i64) 3 wc w.heap.size (fun k_ => some k_ ≠ ((.slice Ao59 t240.length co59) : Value).ownBlock) (.slice Ao57 x4_4.length co57) x4_4) ∧ Aside0 (Kd.R (Kd.int .i64) 3 wc w.heap.size (fun k_ => some k_ ≠ ((.slice Ao57 x4_4.length co57) : Value).ownBlock) (.slice Ao59 t240.length co59) t240) ∧ Aside0 (Below w.heap.size w wc))
                              case first =>
                                have H := HC56.out
                                clear HC56
                                by_cases c60 : 0 ≤ x10_4
                                · rw [if_pos c60] at H
                                  have c60b0 : decide (0 ≤ x10_4) = true := decide_eq_true c60
                                  clear c60
                                  (first | rw [c60b0] | (simp only [i64_w, i32_w]; rw [c60b0]) | skip)
                                  by_cases c61 : ((rd_T31 l0 x10_4).f0) = 48
                                  · rw [if_pos c61] at H
                                    have c61b0 : (((rd_T31 l0 x10_4).f0) == 48) = true := beq_iff_eq.mpr c61
                                    have c61b1 : (((rd_T31 l0 x10_4).f0) != 48) = false := bne_eq_false_iff_eq.mpr c61
                                    clear c61
                                    have H' := Aside0.mk H
                                    clear H
                                    have p243 : 0 ≤ (x10_4 : Int) := of_decide_eq_true (by first | (with_reducible assumption) | assumption)
                                    have q243 : x10_4 < (l0.length : Int) := of_decide_eq_true (by first | (with_reducible assumption) | assumption)
                                    obtain ⟨ad243, e243, hx243_0, hx243_1⟩ := at_T31 HR0.out x10_4 p243 q243
                                    cases e243
                                    replace hx243_0 := (HB.out.cell (World.block_lt_of_cell? w _ hx243_0)).trans hx243_0
                                    replace hx243_1 := (HB.out.cell (World.block_lt_of_cell? w _ hx243_1)).trans hx243_1
                                    replace p243 := eq_true p243
                                    replace q243 := eq_true q243
                                    go_wp2
                                    go_meet
                                    case rel => exact ⟨_, (true), (by first | rfl | (simp; done) | (simp [*]; done)), H', ⟨by have := HK1.out; have := HK2.out; have := HK3.out; have := HK4.out; first | omega | exact Nat.le_refl _⟩, ⟨by (with_reducible repeat (first | apply Kd.R_alloc | apply Kd.R_drewN | apply Kd.R_drew)); exact Kd.R_mono HO_4.out (fun _ hk => hk.2)⟩, ⟨by (with_reducible repeat (first | apply Kd.R_alloc | apply Kd.R_drewN | apply Kd.R_drew)); exact Kd.R_mono HO242.out (fun _ hk => hk.2)⟩, ⟨by repeat (first | (with_reducible first | exact HB.out | apply below_alloc | apply pw_below_drewN | apply below_drew1) | exact HB.out)⟩⟩
                                  · rw [if_neg c61] at H
                                    have c61b0 : (((rd_T31 l0 x10_4).f0) == 48) = false := beq_eq_false_iff_ne.mpr c61
                                    have c61b1 : (((rd_T31 l0 x10_4).f0) != 48) = true := bne_iff_ne.mpr c61
                                    have H' := Aside0.mk H
                                    clear H
                                    have p243 : 0 ≤ (x10_4 : Int) := of_decide_eq_true (by first | (with_reducible assumption) | assumption)
                                    have q243 : x10_4 < (l0.length : Int) := of_decide_eq_true (by first | (with_reducible assumption) | assumption)
                                    obtain ⟨ad243, e243, hx243_0, hx243_1⟩ := at_T31 HR0.out x10_4 p243 q243
                                    cases e243
                                    replace hx243_0 := (HB.out.cell (World.block_lt_of_cell? w _ hx243_0)).trans hx243_0
                                    replace hx243_1 := (HB.out.cell (World.block_lt_of_cell? w _ hx243_1)).trans hx243_1
                                    replace p243 := eq_true p243
                                    replace q243 := eq_true q243
                                    have p244 : 0 ≤ (x10_4 : Int) := of_decide_eq_true (by first | (with_reducible assumption) | assumption)
                                    have q244 : x10_4 < (l0.length : Int) := of_decide_eq_true (by first | (with_reducible assumption) | assumption)
                                    obtain ⟨ad244, e244, hx244_0, hx244_1⟩ := at_T31 HR0.out x10_4 p244 q244
                                    obtain rfl : ad243 = ad244 := (by injection e244)
                                    replace hx244_0 := (HB.out.cell (World.block_lt_of_cell? w _ hx244_0)).trans hx244_0
                                    replace hx244_1 := (HB.out.cell (World.block_lt_of_cell? w _ hx244_1)).trans hx244_1
                                    replace p244 := eq_true p244
                                    replace q244 := eq_true q244
                                    go_wp2
                                    go_meet
                                    case rel => exact ⟨_, ((((rd_T31 l0 x10_4).f0) == 51)), (by first | rfl | (simp; done) | (simp [*]; done)), H', ⟨by have := HK1.out; have := HK2.out; have := HK3.out; have := HK4.out; first | omega | exact Nat.le_refl _⟩, ⟨by (with_reducible repeat (first | apply Kd.R_alloc | apply Kd.R_drewN | apply Kd.R_drew)); exact Kd.R_mono HO_4.out (fun _ hk => hk.2)⟩, ⟨by (with_reducible repeat (first | apply Kd.R_alloc | apply Kd.R_drewN | apply Kd.R_drew)); exact Kd.R_mono HO242.out (fun _ hk => hk.2)⟩, ⟨by repeat (first | (with_reducible first | exact HB.out | apply below_alloc | apply pw_below_drewN | apply below_drew1) | exact HB.out)⟩⟩
                                · rw [if_neg c60] at H
                                  exact absurd H (by simp)
                              case rest =>
                                clear HC56
                                try clear c1
                                try clear c2
                                try clear c2b0
                                try clear c2b1
                                try clear p2
                                try clear q2
                                try clear hx2
                                try clear hf2
                                try clear c3
                                try clear c3b0
                                try clear c3b1
                                try clear c4
                                try clear c5
                                try clear c6
                                try clear c6b0
                                try clear p6
                                try clear c7
                                try clear c7b0
                                try clear c8
                                try clear c8b0
                                try clear p9
                                try clear q9
                                try clear hx9
                                try clear hf9
                                try clear c12
                                try clear c12b0
                                try clear c14
                                try clear c14b0
                                try clear c15
                                try clear c15b0
                                try clear c15b1
                                try clear c16
                                try clear c18
                                try clear c18b0
                                try clear c19
                                try clear c19b0
                                try clear c20
                                try clear c20b0
                                try clear p21
                                try clear q21
                                try clear hx21
                                try clear hf21
                                try clear c22
                                try clear c22b0
                                try clear p22
                                try clear q22
                                try clear hx22
                                try clear c23
                                try clear c23b0
                                try clear p23
                                try clear q23
                                try clear hx23
                                try clear c24
                                try clear p24
                                try clear q24
                                try clear hx24
                                try clear hf24
                                try clear c25
                                try clear c25b0
                                try clear p26
                                try clear q26
                                try clear hx26
                                try clear hf26
                                try clear c27
                                try clear c27b0
                                try clear c28
                                try clear c28b0
                                try clear p29
                                try clear q29
                                try clear hx29
                                try clear hf29
                                try clear c42
                                try clear c42b0
                                try clear c43
                                try clear c43b0
                                try clear c44
                                try clear c44b0
                                try clear c44b1
                                try clear c45
                                try clear c45b0
                                try clear c46
                                try clear c46b0
                                try clear c49
                                try clear c49b0
                                try clear c49b1
                                try clear c50
                                try clear c50b0
                                try clear c51
                                try clear c51b0
                                try clear c54
                                try clear c54b0
                                try clear c60
                                try clear c60b0
                                try clear c61
                                try clear c61b0
                                try clear c61b1
                                try clear hx21_0
                                try clear hx228_0
                                try clear hx228_1
                                try clear hx229_0
                                try clear hx229_1
                                try clear hx236_0
                                try clear hx236_1
                                try clear hx237_0
                                try clear hx238_0
                                try clear hx238_1
                                try clear hx239_0
                                try clear hx243_0
                                try clear hx243_1
                                try clear hx244_0
                                try clear hx244_1
                                try clear hx24_0
                                try clear hx26_0
                                try clear hx29_0
                                try clear hx9_0
                                try clear p2
                                try clear p21
                                try clear p22
                                try clear p228
                                try clear p229
                                try clear p23
                                try clear p236
                                try clear p237
                                try clear p238
                                try clear p239
                                try clear p24
                                try clear p243
                                try clear p244
                                try clear p26
                                try clear p29
                                try clear p6
                                try clear p9
                                try clear q2
                                try clear q21
                                try clear q22
                                try clear q228
                                try clear q229
                                try clear q23
                                try clear q236
                                try clear q237
                                try clear q238
                                try clear q239
                                try clear q24
                                try clear q243
                                try clear q244
                                try clear q26
                                try clear q29
                                try clear q9
                                obtain ⟨kq, x124_55, rfl, HA, HJ55, HO_4, HO_11, HB⟩ := hcut
                                cases kq with
                                | zero => exact absurd HA.out (by simp [weighhouseref06_Match.j5])
                                | succ kj55 =>
                                  have H := HA.out
                                  clear HA
                                  simp only [weighhouseref06_Match.j5] at H
                                  have HC62 := Aside0.mk H
                                  clear H
                                  go_upto_if 124 with (fail)
                                  go_cut [12] (fun v12 wc => ∃ (kq : Nat) (x12_61 : Int), v12 = .int .i64 x12_61 ∧ Aside0 (weighhouseref06_Match.j6 kq l0 x4_4 x10_4 t240 x12_61 = some (r1, r2)) ∧ Aside0 (kq ≤ kj55) ∧ Aside0 (Kd.R (Kd.int .i64) 3 wc w.heap.size (fun k_ => some k_ ≠ ((.slice Ao59 t240.length co59) : Value).ownBlock) (.slice Ao57 x4_4.length co57) x4_4) ∧ Aside0 (Kd.R (Kd.int .i64) 3 wc w.heap.size (fun k_ => some k_ ≠ ((.slice Ao57 x4_4.length co57) : Value).ownBlock) (.slice Ao59 t240.length co59) t240) ∧ Aside0 (Below w.heap.size w wc))
                                  case first =>
                                    have H := HC62.out
                                    clear HC62
                                    by_cases c63 : x124_55 = true
                                    · subst c63
                                      have H1 : (weighhouseref06_Match.j6 kj55 l0 x4_4 x10_4 t240 (wrap64 ((t240.length : Int) + 1))) = some (r1, r2) := by rw [if_pos rfl] at H; exact H
                                      clear H
                                      have H := H1
                                      clear H1
                                      have H' := Aside0.mk H
                                      clear H
                                      go_wp2
                                      go_meet
                                      case rel => exact ⟨_, (wrap64 ((t240.length : Int) + 1)), (by first | rfl | (simp; done) | (simp [*]; done)), H', ⟨by have := HK1.out; have := HK2.out; have := HK3.out; have := HK4.out; have := HJ55.out; first | omega | exact Nat.le_refl _⟩, ⟨by (with_reducible repeat (first | apply Kd.R_alloc | apply Kd.R_drewN | apply Kd.R_drew)); exact HO_4.out⟩, ⟨by (with_reducible repeat (first | apply Kd.R_alloc | apply Kd.R_drewN | apply Kd.R_drew)); exact HO_11.out⟩, ⟨by repeat (first | (with_reducible first | exact HB.out | apply below_alloc | apply pw_below_drewN | apply below_drew1) | exact HB.out)⟩⟩
                                    · replace c63 := Bool.eq_false_iff.mpr c63
                                      subst c63
                                      have H1 : (weighhouseref06_Match.j6 kj55 l0 x4_4 x10_4 t240 (t240.length : Int)) = some (r1, r2) := by rw [if_neg (show ¬ (false = true) by decide)] at H; exact H
                                      clear H
                                      have H := H1
                                      clear H1
                                      have H' := Aside0.mk H
                                      clear H
                                      go_wp2
                                      go_meet
                                      case rel => exact ⟨_, ((t240.length : Int)), (by first | rfl | (simp; done) | (simp [*]; done)), H', ⟨by have := HK1.out; have := HK2.out; have := HK3.out; have := HK4.out; have := HJ55.out; first | omega | exact Nat.le_refl _⟩, ⟨by (with_reducible repeat (first | apply Kd.R_alloc | apply Kd.R_drewN | apply Kd.R_drew)); exact HO_4.out⟩, ⟨by (with_reducible repeat (first | apply Kd.R_alloc | apply Kd.R_drewN | apply Kd.R_drew)); exact HO_11.out⟩, ⟨by repeat (first | (with_reducible first | exact HB.out | apply below_alloc | apply pw_below_drewN | apply below_drew1) | exact HB.out)⟩⟩
                                  case rest =>
                                    clear HC62
                                    try clear c1
                                    try clear c2
                                    try clear c2b0
                                    try clear c2b1
                                    try clear p2
                                    try clear q2
                                    try clear hx2
                                    try clear hf2
                                    try clear c3
                                    try clear c3b0
                                    try clear c3b1
                                    try clear c4
                                    try clear c5
                                    try clear c6
                                    try clear c6b0
                                    try clear p6
                                    try clear c7
                                    try clear c7b0
                                    try clear c8
                                    try clear c8b0
                                    try clear p9
                                    try clear q9
                                    try clear hx9
                                    try clear hf9
                                    try clear c12
                                    try clear c12b0
                                    try clear c14
                                    try clear c14b0
                                    try clear c15
                                    try clear c15b0
                                    try clear c15b1
                                    try clear c16
                                    try clear c18
                                    try clear c18b0
                                    try clear c19
                                    try clear c19b0
                                    try clear c20
                                    try clear c20b0
                                    try clear p21
                                    try clear q21
                                    try clear hx21
                                    try clear hf21
                                    try clear c22
                                    try clear c22b0
                                    try clear p22
                                    try clear q22
                                    try clear hx22
                                    try clear c23
                                    try clear c23b0
                                    try clear p23
                                    try clear q23
                                    try clear hx23
                                    try clear c24
                                    try clear p24
                                    try clear q24
                                    try clear hx24
                                    try clear hf24
                                    try clear c25
                                    try clear c25b0
                                    try clear p26
                                    try clear q26
                                    try clear hx26
                                    try clear hf26
                                    try clear c27
                                    try clear c27b0
                                    try clear c28
                                    try clear c28b0
                                    try clear p29
                                    try clear q29
                                    try clear hx29
                                    try clear hf29
                                    try clear c42
                                    try clear c42b0
                                    try clear c43
                                    try clear c43b0
                                    try clear c44
                                    try clear c44b0
                                    try clear c44b1
                                    try clear c45
                                    try clear c45b0
                                    try clear c46
                                    try clear c46b0
                                    try clear c49
                                    try clear c49b0
                                    try clear c49b1
                                    try clear c50
                                    try clear c50b0
                                    try clear c51
                                    try clear c51b0
                                    try clear c54
                                    try clear c54b0
                                    try clear c60
                                    try clear c60b0
                                    try clear c61
                                    try clear c61b0
                                    try clear c61b1
                                    try clear c63
                                    try clear hx21_0
                                    try clear hx228_0
                                    try clear hx228_1
                                    try clear hx229_0
                                    try clear hx229_1
                                    try clear hx236_0
                                    try clear hx236_1
                                    try clear hx237_0
                                    try clear hx238_0
                                    try clear hx238_1
                                    try clear hx239_0
                                    try clear hx243_0
                                    try clear hx243_1
                                    try clear hx244_0
                                    try clear hx244_1
                                    try clear hx24_0
                                    try clear hx26_0
                                    try clear hx29_0
                                    try clear hx9_0
                                    try clear p2
                                    try clear p21
                                    try clear p22
                                    try clear p228
                                    try clear p229
                                    try clear p23
                                    try clear p236
                                    try clear p237
                                    try clear p238
                                    try clear p239
                                    try clear p24
                                    try clear p243
                                    try clear p244
                                    try clear p26
                                    try clear p29
                                    try clear p6
                                    try clear p9
                                    try clear q2
                                    try clear q21
                                    try clear q22
                                    try clear q228
                                    try clear q229
                                    try clear q23
                                    try clear q236
                                    try clear q237
                                    try clear q238
                                    try clear q239
                                    try clear q24
                                    try clear q243
                                    try clear q244
                                    try clear q26
                                    try clear q29
                                    try clear q9
                                    obtain ⟨kq, x12_61, rfl, HA, HJ61, HO_4, HO_11, HB⟩ := hcut
                                    cases kq with
                                    | zero => exact absurd HA.out (by simp [weighhouseref06_Match.j6])
                                    | succ kj61 =>
                                      have H := HA.out
                                      clear HA
                                      simp only [weighhouseref06_Match.j6] at H
                                      by_cases c64 : x12_61 > 8
                                      · rw [if_pos c64] at H
                                        have c64b0 : decide (8 < x12_61) = true := decide_eq_true c64
                                        clear c64
                                        simp only [Option.some.injEq, Prod.mk.injEq] at H
                                        obtain ⟨rfl, rfl⟩ := H
                                        go_wp2
                                        go_ret2
                                        exact ⟨_, by first | rfl | (simp [errW_none, errW_some] <;> rfl) | (simp [*, errW_none, errW_some] <;> rfl), by first | exact Kd.R_nil _ _ _ _ _ | exact Kd.N_nil _ _ _ _ _ | exact Kd.V_nil _ _ _ _ _ | exact Kd.Q_nil _ _ _ _ _ | exact Kd.S_nil _ _ _ _ _, by repeat (first | (with_reducible first | exact HB.out | apply below_alloc | apply pw_below_drewN | apply below_drew1) | exact HB.out)⟩
                                      · rw [if_neg c64] at H
                                        have c64b0 : decide (8 < x12_61) = false := decide_eq_false c64
                                        clear c64
                                        by_cases c65 : 0 ≤ x10_4
                                        · rw [if_pos c65] at H
                                          have c65b0 : decide (0 ≤ x10_4) = true := decide_eq_true c65
                                          clear c65
                                          by_cases c66 : x10_4 < (l0.length : Int)
                                          · rw [if_pos c66] at H
                                            have c66b0 : decide (x10_4 < (l0.length : Int)) = true := decide_eq_true c66
                                            clear c66
                                            by_cases c67 : ((rd_T31 l0 x10_4).f0) = 52
                                            · rw [if_pos c67] at H
                                              have c67b0 : (((rd_T31 l0 x10_4).f0) == 52) = true := beq_iff_eq.mpr c67
                                              have c67b1 : (((rd_T31 l0 x10_4).f0) != 52) = false := bne_eq_false_iff_eq.mpr c67
                                              clear c67
                                              have H' := Aside0.mk H
                                              clear H
                                              have p245 : 0 ≤ (x10_4 : Int) := of_decide_eq_true (by first | (with_reducible assumption) | assumption)
                                              have q245 : x10_4 < (l0.length : Int) := of_decide_eq_true (by first | (with_reducible assumption) | assumption)
                                              obtain ⟨ad245, e245, hx245_0, hx245_1⟩ := at_T31 HR0.out x10_4 p245 q245
                                              cases e245
                                              replace hx245_0 := (HB.out.cell (World.block_lt_of_cell? w _ hx245_0)).trans hx245_0
                                              replace hx245_1 := (HB.out.cell (World.block_lt_of_cell? w _ hx245_1)).trans hx245_1
                                              replace p245 := eq_true p245
                                              replace q245 := eq_true q245
                                              go_wp2
                                              go_loopg [13] kj61 (fun kq v13 w' => ∃ (x4_7 : List Int) (x13_7 : Int), v13 = .int .i64 x13_7 ∧ Aside0 (weighhouseref06_Match.l4 kq l0 x4_7 x10_4 t240 x13_7 = some (r1, r2)) ∧ Aside0 (kq ≤ kj61) ∧ Aside0 (Kd.R (Kd.int .i64) 3 w' w.heap.size (fun k_ => some k_ ≠ ((.slice Ao59 t240.length co59) : Value).ownBlock) (.slice Ao57 x4_4.length co57) x4_7) ∧ Aside0 (Kd.R (Kd.int .i64) 3 w' w.heap.size (fun k_ => some k_ ≠ ((.slice Ao57 x4_4.length co57) : Value).ownBlock) (.slice Ao59 t240.length co59) t240) ∧ Aside0 (Below w.heap.size w w'))
                                              case atStart => exact ⟨(x4_4), (0), (by first | rfl | (simp; done) | (simp [*]; done)), H', ⟨Nat.le_refl _⟩, ⟨by (with_reducible repeat (first | apply Kd.R_alloc | apply Kd.R_drewN | apply Kd.R_drew)); exact HO_4.out⟩, ⟨by (with_reducible repeat (first | apply Kd.R_alloc | apply Kd.R_drewN | apply Kd.R_drew)); exact HO_11.out⟩, ⟨by repeat (first | (with_reducible first | exact HB.out | apply below_alloc | apply pw_below_drewN | apply below_drew1) | exact HB.out)⟩⟩
                                              case round =>
                                                clear H'
                                                try clear c1
                                                try clear c2
                                                try clear c2b0
                                                try clear c2b1
                                                try clear p2
                                                try clear q2
                                                try clear hx2
                                                try clear hf2
                                                try clear c3
                                                try clear c3b0
                                                try clear c3b1
                                                try clear c4
                                                try clear c5
                                                try clear c6
                                                try clear c6b0
                                                try clear p6
                                                try clear c7
                                                try clear c7b0
                                                try clear c8
                                                try clear c8b0
                                                try clear p9
                                                try clear q9
                                                try clear hx9
                                                try clear hf9
                                                try clear c12
                                                try clear c12b0
                                                try clear c14
                                                try clear c14b0
                                                try clear c15
                                                try clear c15b0
                                                try clear c15b1
                                                try clear c16
                                                try clear c18
                                                try clear c18b0
                                                try clear c19
                                                try clear c19b0
                                                try clear c20
                                                try clear c20b0
                                                try clear p21
                                                try clear q21
                                                try clear hx21
                                                try clear hf21
                                                try clear c22
                                                try clear c22b0
                                                try clear p22
                                                try clear q22
                                                try clear hx22
                                                try clear c23
                                                try clear c23b0
                                                try clear p23
                                                try clear q23
                                                try clear hx23
                                                try clear c24
                                                try clear p24
                                                try clear q24
                                                try clear hx24
                                                try clear hf24
                                                try clear c25
                                                try clear c25b0
                                                try clear p26
                                                try clear q26
                                                try clear hx26
                                                try clear hf26
                                                try clear c27
                                                try clear c27b0
                                                try clear c28
                                                try clear c28b0
                                                try clear p29
                                                try clear q29
                                                try clear hx29
                                                try clear hf29
                                                try clear c42
                                                try clear c42b0
                                                try clear c43
                                                try clear c43b0
                                                try clear c44
                                                try clear c44b0
                                                try clear c44b1
                                                try clear c45
                                                try clear c45b0
                                                try clear c46
                                                try clear c46b0
                                                try clear c49
                                                try clear c49b0
                                                try clear c49b1
                                                try clear c50
                                                try clear c50b0
                                                try clear c51
                                                try clear c51b0
                                                try clear c54
                                                try clear c54b0
                                                try clear c60
                                                try clear c60b0
                                                try clear c61
                                                try clear c61b0
                                                try clear c61b1
                                                try clear c63
                                                try clear c64
                                                try clear c64b0
                                                try clear p64
                                                try clear c65
                                                try clear c65b0
                                                try clear c66
                                                try clear c66b0
                                                try clear c67
                                                try clear c67b0
                                                try clear c67b1
                                                try clear hx21_0
                                                try clear hx228_0
                                                try clear hx228_1
                                                try clear hx229_0
                                                try clear hx229_1
                                                try clear hx236_0
                                                try clear hx236_1
                                                try clear hx237_0
                                                try clear hx238_0
                                                try clear hx238_1
                                                try clear hx239_0
                                                try clear hx243_0
                                                try clear hx243_1
                                                try clear hx244_0
                                                try clear hx244_1
                                                try clear hx245_0
                                                try clear hx245_1
                                                try clear hx24_0
                                                try clear hx26_0
                                                try clear hx29_0
                                                try clear hx9_0
                                                try clear p2
                                                try clear p21
                                                try clear p22
                                                try clear p228
                                                try clear p229
                                                try clear p23
                                                try clear p236
                                                try clear p237
                                                try clear p238
                                                try clear p239
                                                try clear p24
                                                try clear p243
                                                try clear p244
                                                try clear p245
                                                try clear p26
                                                try clear p29
                                                try clear p6
                                                try clear p9
                                                try clear q2
                                                try clear q21
                                                try clear q22
                                                try clear q228
                                                try clear q229
                                                try clear q23
                                                try clear q236
                                                try clear q237
                                                try clear q238
                                                try clear q239
                                                try clear q24
                                                try clear q243
                                                try clear q244
                                                try clear q245
                                                try clear q26
                                                try clear q29
                                                try clear q9
                                                obtain ⟨x4_7, x13_7, rfl, HA, HK7, HO_4, HO_11, HB⟩ := hrel
                                                have hl4_7 := (Kd.R_reads' HO_4.out).1
                                                rw [hl4_7] at HO_4
                                                (try simp only [hl4_7])
                                                (try simp only [hl4_7] at HO_11)
                                                cases gk with
                                                | zero => exact absurd HA.out (by simp [weighhouseref06_Match.l4])
                                                | succ k7 =>
                                                  have H := HA.out
                                                  clear HA
                                                  simp only [weighhouseref06_Match.l4] at H
                                                  by_cases c68 : x13_7 < (t240.length : Int)
                                                  · rw [if_pos c68] at H
                                                    have c68b0 : decide (x13_7 < (t240.length : Int)) = true := decide_eq_true c68
                                                    clear c68
                                                    by_cases c69 : 0 ≤ x13_7
                                                    · rw [if_pos c69] at H
                                                      have c69b0 : decide (0 ≤ x13_7) = true := decide_eq_true c69
                                                      clear c69
                                                      by_cases c70 : 0 ≤ (rd t240 x13_7)
                                                      · rw [if_pos c70] at H
                                                        have c70b0 : decide (0 ≤ (rd t240 x13_7)) = true := decide_eq_true c70
                                                        clear c70
                                                        by_cases c71 : (rd t240 x13_7) < (l0.length : Int)
                                                        · rw [if_pos c71] at H
                                                          have c71b0 : decide ((rd t240 x13_7) < (l0.length : Int)) = true := decide_eq_true c71
                                                          clear c71
                                                          by_cases c72 : ((rd_T31 l0 (rd t240 x13_7)).f0) = 51
                                                          · rw [if_pos c72] at H
                                                            have c72b0 : (((rd_T31 l0 (rd t240 x13_7)).f0) == 51) = true := beq_iff_eq.mpr c72
                                                            have c72b1 : (((rd_T31 l0 (rd t240 x13_7)).f0) != 51) = false := bne_eq_false_iff_eq.mpr c72
                                                            clear c72
                                                            by_cases c73 : (rd t240 x13_7) < (x4_7.length : Int)
                                                            · rw [if_pos c73] at H
                                                              have c73b0 : decide ((rd t240 x13_7) < (x4_7.length : Int)) = true := decide_eq_true c73
                                                              clear c73
                                                              by_cases c74 : 0 ≤ x10_4
                                                              · rw [if_pos c74] at H
                                                                have c74b0 : decide (0 ≤ x10_4) = true := decide_eq_true c74
                                                                clear c74
                                                                by_cases c75 : x10_4 < (x4_7.length : Int)
                                                                · rw [if_pos c75] at H
                                                                  have c75b0 : decide (x10_4 < (x4_7.length : Int)) = true := decide_eq_true c75
                                                                  clear c75
                                                                  obtain ⟨y250, hy250⟩ : ∃ y_ : List Int, y_ = (x4_7.set (x10_4 : Int).toNat (rd x4_7 (rd t240 x13_7))) := ⟨_, rfl⟩
                                                                  replace H : (weighhouseref06_Match.l4 k7 l0 y250 x10_4 t240 (wrap64 (x13_7 + 1))) = some (r1, r2) := by first | (rw [hy250]; with_reducible exact H) | (have H2_ := (Option.bind_some _ _).symm.trans H; rw [hy250]; with_reducible exact H2_) | (have H2_ := (Option.bind_some _ _).symm.trans H; with_reducible exact H2_) | with_reducible exact H | (rw [hy250]; exact H) | exact H
                                                                  have Ny250 := Aside0.mk hy250
                                                                  clear hy250
                                                                  have H' := Aside0.mk H
                                                                  clear H
                                                                  have p246 : 0 ≤ (x13_7 : Int) := of_decide_eq_true (by first | (with_reducible assumption) | assumption)
                                                                  have q246 : x13_7 < (t240.length : Int) := of_decide_eq_true (by first | (with_reducible assumption) | assumption)
                                                                  obtain ⟨ad246, e246, hx246_0⟩ := Kd.at_int (Kd.R_reads' HO_11.out).2.2 x13_7 p246 q246
                                                                  cases e246
                                                                  replace p246 := eq_true p246
                                                                  replace q246 := eq_true q246
                                                                  have p247 : 0 ≤ ((rd t240 x13_7) : Int) := of_decide_eq_true (by first | (with_reducible assumption) | assumption)
                                                                  have q247 : (rd t240 x13_7) < (l0.length : Int) := of_decide_eq_true (by first | (with_reducible assumption) | assumption)
                                                                  obtain ⟨ad247, e247, hx247_0, hx247_1⟩ := at_T31 HR0.out (rd t240 x13_7) p247 q247
                                                                  obtain rfl : ad245 = ad247 := (by injection e247)
                                                                  replace hx247_0 := (HB.out.cell (World.block_lt_of_cell? w _ hx247_0)).trans hx247_0
                                                                  replace hx247_1 := (HB.out.cell (World.block_lt_of_cell? w _ hx247_1)).trans hx247_1
                                                                  replace p247 := eq_true p247
                                                                  replace q247 := eq_true q247
                                                                  have p248 : 0 ≤ (x13_7 : Int) := of_decide_eq_true (by first | (with_reducible assumption) | assumption)
                                                                  have q248 : x13_7 < (t240.length : Int) := of_decide_eq_true (by first | (with_reducible assumption) | assumption)
                                                                  obtain ⟨ad248, e248, hx248_0⟩ := Kd.at_int (Kd.R_reads' HO_11.out).2.2 x13_7 p248 q248
                                                                  obtain rfl : ad246 = ad248 := (by injection e248)
                                                                  replace p248 := eq_true p248
                                                                  replace q248 := eq_true q248
                                                                  have p249 : 0 ≤ ((rd t240 x13_7) : Int) := of_decide_eq_true (by first | (with_reducible assumption) | assumption)
                                                                  have q249 : (rd t240 x13_7) < (x4_7.length : Int) := of_decide_eq_true (by first | (with_reducible assumption) | assumption)
                                                                  obtain ⟨ad249, e249, hx249_0⟩ := Kd.at_int (Kd.R_reads' HO_4.out).2.2 (rd t240 x13_7) p249 q249
                                                                  cases e249
                                                                  replace p249 := eq_true p249
                                                                  replace q249 := eq_true q249
                                                                  have p76 : 0 ≤ (x10_4 : Int) := of_decide_eq_true (by first | (with_reducible assumption) | assumption)
                                                                  have q76 : (x10_4 : Int) < ((x4_7.length : Int) : Int) := of_decide_eq_true (by first | (with_reducible assumption) | assumption)
                                                                  obtain ⟨go76, co76, eo76, gb76, gl76, cl76, HG76⟩ := Kd.R_form HO_4.out (by omega)
                                                                  (first | cases eo76 | (injection eo76 with ea_ en_ ec_; (first | subst ea_ | (injection ea_ with ea_; subst ea_)); subst ec_; clear en_))
                                                                  have GB76 := Aside0.mk gb76
                                                                  have GG76 := Aside0.mk HG76
                                                                  clear gb76 gl76 HG76
                                                                  (first | simp only [add_plain] at hx249_0 | skip)
                                                                  obtain ⟨hx76_0, hf76_0⟩ := Kd.R_celln 0 HO_4.out (x10_4 : Int) p76 q76
                                                                  replace p76 := eq_true p76
                                                                  replace q76 := eq_true q76
                                                                  have HP77 := Kd.R_putg HO_4.out (x10_4 : Int) (rd x4_7 (rd t240 x13_7))
                                                                  go_wp2_with (first | ((with_reducible refine gate_store (t := 3) (p := 159) rfl ?_); refine store_event (t := 3) (p := 159) (v := ?vo_w78) (w1 := (wr.setCell ⟨go76, (x10_4 : Int).toNat, none⟩ (.int .i64 (rd x4_7 (rd t240 x13_7))))) ?hg ?ho ?hn ?hr ?_; (case ho => rfl); (case hg => rfl); (case hn => rfl); (case hr => first | (go_simp; done) | (go_simp; rfl)); intro w78 hw; have hg : wr.grownBy w78 (some go76) := (by rw [hw]; exact HP77.2); have hp_ : Kd.R (Kd.int .i64) 3 w78 w.heap.size (fun k_ => some k_ ≠ (.slice (some ad246) t240.length co59 : Value).ownBlock) (.slice (some ⟨go76, 0, none⟩) x4_7.length co57) y250 := (by rw [hw, Ny250.out]; exact HP77.1); clear HP77; have n0_ := Aside0.mk (hp_); have n1_ := Aside0.mk (Kd.R_after (v := (.slice (some ⟨go76, 0, none⟩) x4_7.length co57)) (v1 := (.slice (some ⟨go76, 0, none⟩) x4_7.length co57)) (ok := (fun _ => True)) (by (with_reducible repeat (first | apply Kd.R_alloc | apply Kd.R_drewN | apply Kd.R_drew)); exact Kd.R_mono HO_11.out (fun _ hk => ⟨trivial, hk⟩)) hg (.inl rfl)); have n2_ := Aside0.mk ((by rw [hw]; exact below_set (HB.out) GB76.out : Below w.heap.size w w78)); clear HO_4; clear HO_11; clear HB; have HO_4 := n0_; have HO_11 := n1_; have HB := n2_; clear n0_ n1_ n2_; clear hg hw hp_))
                                                                  (try simp only [← hl4_7])
                                                                  go_roundg k7
                                                                  case measure => have := HK1.out; have := HK2.out; have := HK3.out; have := HK4.out; have := HJ55.out; have := HJ61.out; have := HK7.out; omega
                                                                  case rel => exact ⟨(y250), (wrap64 (x13_7 + 1)), (by first | rfl | (simp; done) | (simp [*]; done)), H', ⟨by have := HK1.out; have := HK2.out; have := HK3.out; have := HK4.out; have := HJ55.out; have := HJ61.out; have := HK7.out; omega⟩, ⟨by (try simp only [hl4_7]); (with_reducible repeat (first | apply Kd.R_alloc | apply Kd.R_drewN | apply Kd.R_drew)); exact HO_4.out⟩, ⟨by (try simp only [hl4_7]); (with_reducible repeat (first | apply Kd.R_alloc | apply Kd.R_drewN | apply Kd.R_drew)); exact Kd.R_mono HO_11.out (fun _ hk => hk.2)⟩, ⟨by repeat (first | (with_reducible first | exact HB.out | apply below_alloc | apply pw_below_drewN | apply below_drew1) | exact HB.out)⟩⟩
                                                                · rw [if_neg c75] at H
                                                                  exact absurd H (by simp)
                                                              · rw [if_neg c74] at H
                                                                exact absurd H (by simp)
                                                            · rw [if_neg c73] at H
                                                              exact absurd H (by simp)
                                                          · rw [if_neg c72] at H
                                                            have c72b0 : (((rd_T31 l0 (rd t240 x13_7)).f0) == 51) = false := beq_eq_false_iff_ne.mpr c72
                                                            have c72b1 : (((rd_T31 l0 (rd t240 x13_7)).f0) != 51) = true := bne_iff_ne.mpr c72
                                                            have H' := Aside0.mk H
                                                            clear H
                                                            have p246 : 0 ≤ (x13_7 : Int) := of_decide_eq_true (by first | (with_reducible assumption) | assumption)
                                                            have q246 : x13_7 < (t240.length : Int) := of_decide_eq_true (by first | (with_reducible assumption) | assumption)
                                                            obtain ⟨ad246, e246, hx246_0⟩ := Kd.at_int (Kd.R_reads' HO_11.out).2.2 x13_7 p246 q246
                                                            cases e246
                                                            replace p246 := eq_true p246
                                                            replace q246 := eq_true q246
                                                            have p247 : 0 ≤ ((rd t240 x13_7) : Int) := of_decide_eq_true (by first | (with_reducible assumption) | assumption)
                                                            have q247 : (rd t240 x13_7) < (l0.length : Int) := of_decide_eq_true (by first | (with_reducible assumption) | assumption)
                                                            obtain ⟨ad247, e247, hx247_0, hx247_1⟩ := at_T31 HR0.out (rd t240 x13_7) p247 q247
                                                            obtain rfl : ad245 = ad247 := (by injection e247)
                                                            replace hx247_0 := (HB.out.cell (World.block_lt_of_cell? w _ hx247_0)).trans hx247_0
                                                            replace hx247_1 := (HB.out.cell (World.block_lt_of_cell? w _ hx247_1)).trans hx247_1
                                                            replace p247 := eq_true p247
                                                            replace q247 := eq_true q247
                                                            go_wp2
                                                            (try simp only [← hl4_7])
                                                            go_roundg k7
                                                            case measure => have := HK1.out; have := HK2.out; have := HK3.out; have := HK4.out; have := HJ55.out; have := HJ61.out; have := HK7.out; omega
                                                            case rel => exact ⟨(x4_7), (wrap64 (x13_7 + 1)), (by first | rfl | (simp; done) | (simp [*]; done)), H', ⟨by have := HK1.out; have := HK2.out; have := HK3.out; have := HK4.out; have := HJ55.out; have := HJ61.out; have := HK7.out; omega⟩, ⟨by (try simp only [hl4_7]); (with_reducible repeat (first | apply Kd.R_alloc | apply Kd.R_drewN | apply Kd.R_drew)); exact HO_4.out⟩, ⟨by (try simp only [hl4_7]); (with_reducible repeat (first | apply Kd.R_alloc | apply Kd.R_drewN | apply Kd.R_drew)); exact HO_11.out⟩, ⟨by repeat (first | (with_reducible first | exact HB.out | apply below_alloc | apply pw_below_drewN | apply below_drew1) | exact HB.out)⟩⟩
                                                        · rw [if_neg c71] at H
                                                          exact absurd H (by simp)
                                                      · rw [if_neg c70] at H
                                                        exact absurd H (by simp)
                                                    · rw [if_neg c69] at H
                                                      exact absurd H (by simp)
                                                  · rw [if_neg c68] at H
                                                    have c68b0 : decide (x13_7 < (t240.length : Int)) = false := decide_eq_false c68
                                                    clear c68
                                                    by_cases c79 : 0 ≤ x10_4
                                                    · rw [if_pos c79] at H
                                                      have c79b0 : decide (0 ≤ x10_4) = true := decide_eq_true c79
                                                      clear c79
                                                      by_cases c80 : x10_4 < (x4_7.length : Int)
                                                      · rw [if_pos c80] at H
                                                        have c80b0 : decide (x10_4 < (x4_7.length : Int)) = true := decide_eq_true c80
                                                        clear c80
                                                        by_cases c81 : (rd x4_7 x10_4) < 0
                                                        · rw [if_pos c81] at H
                                                          have c81b0 : decide ((rd x4_7 x10_4) < 0) = true := decide_eq_true c81
                                                          clear c81
                                                          simp only [Option.some.injEq, Prod.mk.injEq] at H
                                                          obtain ⟨rfl, rfl⟩ := H
                                                          have p251 : 0 ≤ (x10_4 : Int) := of_decide_eq_true (by first | (with_reducible assumption) | assumption)
                                                          have q251 : x10_4 < (x4_7.length : Int) := of_decide_eq_true (by first | (with_reducible assumption) | assumption)
                                                          obtain ⟨ad251, e251, hx251_0⟩ := Kd.at_int (Kd.R_reads' HO_4.out).2.2 x10_4 p251 q251
                                                          cases e251
                                                          replace p251 := eq_true p251
                                                          replace q251 := eq_true q251
                                                          go_wp2
                                                          go_ret2
                                                          exact ⟨_, by first | rfl | (simp [errW_none, errW_some] <;> rfl) | (simp [*, errW_none, errW_some] <;> rfl), by first | exact Kd.R_nil _ _ _ _ _ | exact Kd.N_nil _ _ _ _ _ | exact Kd.V_nil _ _ _ _ _ | exact Kd.Q_nil _ _ _ _ _ | exact Kd.S_nil _ _ _ _ _, by repeat (first | (with_reducible first | exact HB.out | apply below_alloc | apply pw_below_drewN | apply below_drew1) | exact HB.out)⟩
                                                        · rw [if_neg c81] at H
                                                          have c81b0 : decide ((rd x4_7 x10_4) < 0) = false := decide_eq_false c81
                                                          clear c81
                                                          have H' := Aside0.mk H
                                                          clear H
                                                          have p251 : 0 ≤ (x10_4 : Int) := of_decide_eq_true (by first | (with_reducible assumption) | assumption)
                                                          have q251 : x10_4 < (x4_7.length : Int) := of_decide_eq_true (by first | (with_reducible assumption) | assumption)
                                                          obtain ⟨ad251, e251, hx251_0⟩ := Kd.at_int (Kd.R_reads' HO_4.out).2.2 x10_4 p251 q251
                                                          cases e251
                                                          replace p251 := eq_true p251
                                                          replace q251 := eq_true q251
                                                          go_wp2
                                                          (try simp only [← hl4_7])
                                                          go_roundg k7
                                                          case measure => have := HK1.out; have := HK2.out; have := HK3.out; have := HK4.out; have := HJ55.out; have := HJ61.out; have := HK7.out; omega
                                                          case rel => exact ⟨(x4_7), (wrap64 (x10_4 + 1)), (by first | rfl | (simp; done) | (simp [*]; done)), H', ⟨by have := HK1.out; have := HK2.out; have := HK3.out; have := HK4.out; have := HJ55.out; have := HJ61.out; have := HK7.out; omega⟩, ⟨by (try simp only [hl4_7]); (with_reducible repeat (first | apply Kd.R_alloc | apply Kd.R_drewN | apply Kd.R_drew)); exact Kd.R_mono HO_4.out (fun _ hk => trivial)⟩, ⟨by repeat (first | (with_reducible first | exact HB.out | apply below_alloc | apply pw_below_drewN | apply below_drew1) | exact HB.out)⟩⟩
                                                      · rw [if_neg c80] at H
                                                        exact absurd H (by simp)
                                                    · rw [if_neg c79] at H
                                                      exact absurd H (by simp)
                                            · rw [if_neg c67] at H
                                              have c67b0 : (((rd_T31 l0 x10_4).f0) == 52) = false := beq_eq_false_iff_ne.mpr c67
                                              have c67b1 : (((rd_T31 l0 x10_4).f0) != 52) = true := bne_iff_ne.mpr c67
                                              have H' := Aside0.mk H
                                              clear H
                                              have p245 : 0 ≤ (x10_4 : Int) := of_decide_eq_true (by first | (with_reducible assumption) | assumption)
                                              have q245 : x10_4 < (l0.length : Int) := of_decide_eq_true (by first | (with_reducible assumption) | assumption)
                                              obtain ⟨ad245, e245, hx245_0, hx245_1⟩ := at_T31 HR0.out x10_4 p245 q245
                                              cases e245
                                              replace hx245_0 := (HB.out.cell (World.block_lt_of_cell? w _ hx245_0)).trans hx245_0
                                              replace hx245_1 := (HB.out.cell (World.block_lt_of_cell? w _ hx245_1)).trans hx245_1
                                              replace p245 := eq_true p245
                                              replace q245 := eq_true q245
                                              go_wp2
                                              go_roundg kj61
                                              case measure => have := HK1.out; have := HK2.out; have := HK3.out; have := HK4.out; have := HJ55.out; have := HJ61.out; omega
                                              case rel => exact ⟨(x4_4), (wrap64 (x10_4 + 1)), (by first | rfl | (simp; done) | (simp [*]; done)), H', ⟨by have := HK1.out; have := HK2.out; have := HK3.out; have := HK4.out; have := HJ55.out; have := HJ61.out; omega⟩, ⟨by (with_reducible repeat (first | apply Kd.R_alloc | apply Kd.R_drewN | apply Kd.R_drew)); exact Kd.R_mono HO_4.out (fun _ hk => trivial)⟩, ⟨by repeat (first | (with_reducible first | exact HB.out | apply below_alloc | apply pw_below_drewN | apply below_drew1) | exact HB.out)⟩⟩
                                          · rw [if_neg c66] at H
                                            exact absurd H (by simp)
                                        · rw [if_neg c65] at H
                                          exact absurd H (by simp)
                            · rw [if_neg c54] at H
                              have c54b0 : decide (x10_4 < (l0.length : Int)) = false := decide_eq_false c54
                              clear c54
                              simp only [Option.some.injEq, Prod.mk.injEq] at H
                              obtain ⟨rfl, rfl⟩ := H
                              go_wp2
                              go_ret2
                              exact ⟨_, by first | rfl | (simp [errW_none, errW_some] <;> rfl) | (simp [*, errW_none, errW_some] <;> rfl), by (with_reducible repeat (first | apply Kd.R_alloc | apply Kd.R_drewN | apply Kd.R_drew)); exact HO_4.out, by repeat (first | (with_reducible first | exact HB.out | apply below_alloc | apply pw_below_drewN | apply below_drew1) | exact HB.out)⟩
    · rw [if_neg c3] at H
      exact absurd H (by simp)
  · rw [if_neg c2] at H
    exact absurd H (by simp)

end Go.Proofs.Ytbdmbkmokhaflaa.Q
end

section
/- layer 6: the document's answer, its first rounds: what closes a block, the pairs, the check of elses and ends -/
set_option linter.unusedVariables false
set_option linter.unusedSimpArgs false
namespace Go.Proofs.Ytbdmbkmokhaflaa.Th
open Go.RowKit Go.Proofs.YtbdmbkmokhaflaaW.PrintWords Go.Proofs.YtbdmbkmokhaflaaW.Hb
open Go.Shape6 Go.Proofs.Ytbdmbkmokhaflaa.Q

def ends (c : CS) : Int × Int := match c with | .run _ x => (x, -1) | .fin x e => (x, e)
def xe (cs : List Ins) (a : Nat) : Int × Int := ends (cl (opc cs) a cs.length)
theorem rdI (l : List Ins) (n : Nat) (hn : n < l.length) : (rd_T31 l (n : Int)).f0 = opc l n := by
  show _ = Q.opAt l n
  rw [opAt_lt hn]
  simp [rd_T31, List.getD_eq_getElem?_getD, hn]
theorem cl_depth {o : Nat → Int} {a i d : Nat} {x : Int} (h : cl o a i = .run d x) : d ≤ i := by
  induction i generalizing d x with
  | zero => cases h; omega
  | succ i ih =>
    unfold cl at h
    split at h
    · cases h
      omega
    · cases hc : cl o a i with
      | fin y e => rw [hc] at h; cases h
      | run d' y =>
        have := ih hc
        rw [hc] at h
        unfold clS at h
        dsimp only at h
        split at h
        · cases h; omega
        · split at h
          · split at h
            · split at h
              · cases h
              · cases h; omega
            · cases h; omega
          · split at h
            · split at h
              · cases h
              · cases h; omega
            · cases h; omega
theorem closes_l0 (cs : List Ins) (hm : cs.length ≤ 4611686018427387904) (a : Nat) (ha : a < cs.length) (q : Nat) : ∀ (i d : Nat) (x : Int), cs.length - i = q → a < i → i ≤ cs.length → cl (opc cs) a i = .run d x →
    Ev (fun k => weighhouseref06_closes.l0 k cs (a : Int) (d : Int) x (i : Int)) (xe cs a) := by
  induction q with
  | zero =>
    intro i d x hq hai hi hc
    have e : i = cs.length := by omega
    subst e
    have e2 : xe cs a = (x, -1) := by unfold xe; rw [hc]; rfl
    rw [e2]
    refine Ev.step (f := fun _ => some (x, -1)) (fun k => ?_) (Ev.now _)
    simp only [weighhouseref06_closes.l0]
    rw [if_neg (by omega)]
  | succ q ih =>
    intro i d x hq hai hi hc
    have hil : i < cs.length := by omega
    have hd := cl_depth hc
    have hs := cl_succ (opc cs) a i hai
    rw [hc] at hs
    unfold clS at hs
    dsimp only at hs
    have hw : wrap64 ((i : Int) + 1) = ((i + 1 : Nat) : Int) := by rw [w64 (by omega) (by omega)]; rfl
    have hdone : ∀ {x' e' : Int}, cl (opc cs) a (i + 1) = .fin x' e' → xe cs a = (x', e') := fun {x' e'} h => by
      unfold xe
      rw [cl_fin_mono h (by omega) (by omega : i + 1 ≤ cs.length)]
      rfl
    by_cases ho : opc cs i = 48 ∨ opc cs i = 51
    · rw [if_pos (isOp_iff.2 ho)] at hs
      refine Ev.step (f := fun k => weighhouseref06_closes.j1 k cs (a : Int) (d : Int) x (i : Int) (opc cs i) true) (fun k => ?_) ?_
      · simp only [weighhouseref06_closes.l0]
        rw [if_pos (by omega), if_pos (by omega), rdI cs i hil]
        rcases ho with h | h
        · rw [if_pos h, h]
          rfl
        · rw [if_neg (by omega), h]
          rfl
      · refine Ev.step (f := fun k => weighhouseref06_closes.l0 k cs (a : Int) ((d + 1 : Nat) : Int) x ((i + 1 : Nat) : Int)) (fun k => ?_) (ih (i + 1) (d + 1) x (by omega) (by omega) (by omega) hs)
        simp only [weighhouseref06_closes.j1]
        rw [if_true, hw, w64 (by omega) (by omega)]
        rfl
    · rw [isOp_not ho, if_neg (by decide)] at hs
      refine Ev.step (f := fun k => weighhouseref06_closes.j1 k cs (a : Int) (d : Int) x (i : Int) (opc cs i) false) (fun k => ?_) ?_
      · simp only [weighhouseref06_closes.l0]
        rw [if_pos (by omega), if_pos (by omega), rdI cs i hil, if_neg (by omega), show (opc cs i == 51) = false by simp; omega]
      · by_cases h9 : opc cs i = 49
        · rw [if_pos h9] at hs
          have hj2 : ∀ b : Bool, (b = true ↔ (d = 0 ∧ (0 ≤ x ∨ opc cs a ≠ 48))) → Ev (fun k => weighhouseref06_closes.j2 k cs (a : Int) (d : Int) x (i : Int) b) (xe cs a) := by
            intro b hb
            by_cases hd0 : d = 0
            · rw [if_pos hd0] at hs
              by_cases hx : 0 ≤ x ∨ opc cs a ≠ 48
              · rw [if_pos hx] at hs
                rw [hdone hs, hb.2 ⟨hd0, hx⟩]
                refine Ev.step (f := fun _ => some (-1, -1)) (fun k => ?_) (Ev.now _)
                simp only [weighhouseref06_closes.j2]
                rw [if_true]
              · rw [if_neg hx] at hs
                have hbf : b = false := by
                  cases b
                  · rfl
                  · exact absurd (hb.1 rfl).2 hx
                rw [hbf]
                refine Ev.step (f := fun k => weighhouseref06_closes.l0 k cs (a : Int) ((0 : Nat) : Int) (i : Int) ((i + 1 : Nat) : Int)) (fun k => ?_) (ih (i + 1) 0 i (by omega) (by omega) (by omega) hs)
                simp only [weighhouseref06_closes.j2]
                rw [if_neg (by decide), if_pos (by omega), hw, hd0]
            · rw [if_neg hd0] at hs
              have hbf : b = false := by
                cases b
                · rfl
                · exact absurd (hb.1 rfl).1 hd0
              rw [hbf]
              refine Ev.step (f := fun k => weighhouseref06_closes.l0 k cs (a : Int) (d : Int) x ((i + 1 : Nat) : Int)) (fun k => ?_) (ih (i + 1) d x (by omega) (by omega) (by omega) hs)
              simp only [weighhouseref06_closes.j2]
              rw [if_neg (by decide), if_neg (by omega), hw]
          by_cases hd0 : d = 0
          · by_cases hx : x ≥ 0
            · refine Ev.step (f := fun k => weighhouseref06_closes.j2 k cs (a : Int) (d : Int) x (i : Int) true) (fun k => ?_) (hj2 true ⟨fun _ => ⟨hd0, .inl hx⟩, fun _ => rfl⟩)
              simp only [weighhouseref06_closes.j1]
              rw [if_neg (by decide), if_pos h9, if_pos (by omega), if_pos hx]
            · refine Ev.step (f := fun k => weighhouseref06_closes.j2 k cs (a : Int) (d : Int) x (i : Int) (opc cs a != 48)) (fun k => ?_) (hj2 _ ⟨fun h => ⟨hd0, .inr (by simpa using h)⟩, fun h => by
                rcases h.2 with h | h
                · exact absurd h hx
                · simpa using h⟩)
              simp only [weighhouseref06_closes.j1]
              rw [if_neg (by decide), if_pos h9, if_pos (by omega), if_neg hx, if_pos (by omega), if_pos (by omega), rdI cs a ha]
          · refine Ev.step (f := fun k => weighhouseref06_closes.j2 k cs (a : Int) (d : Int) x (i : Int) false) (fun k => ?_) (hj2 false ⟨fun h => (by cases h), fun h => absurd h.1 hd0⟩)
            simp only [weighhouseref06_closes.j1]
            rw [if_neg (by decide), if_pos h9, if_neg (by omega)]
        · rw [if_neg h9] at hs
          by_cases h0 : opc cs i = 50
          · rw [if_pos h0] at hs
            by_cases hd0 : d = 0
            · rw [if_pos hd0] at hs
              rw [hdone hs]
              refine Ev.step (f := fun _ => some (x, (i : Int))) (fun k => ?_) (Ev.now _)
              simp only [weighhouseref06_closes.j1]
              rw [if_neg (by decide), if_neg h9, if_pos h0, if_pos (by omega)]
            · rw [if_neg hd0] at hs
              refine Ev.step (f := fun k => weighhouseref06_closes.l0 k cs (a : Int) ((d - 1 : Nat) : Int) x ((i + 1 : Nat) : Int)) (fun k => ?_) (ih (i + 1) (d - 1) x (by omega) (by omega) (by omega) hs)
              simp only [weighhouseref06_closes.j1]
              rw [if_neg (by decide), if_neg h9, if_pos h0, if_neg (by omega), hw, w64 (by omega) (by omega), show (d : Int) - 1 = ((d - 1 : Nat) : Int) by omega]
          · rw [if_neg h0] at hs
            refine Ev.step (f := fun k => weighhouseref06_closes.l0 k cs (a : Int) (d : Int) x ((i + 1 : Nat) : Int)) (fun k => ?_) (ih (i + 1) d x (by omega) (by omega) (by omega) hs)
            simp only [weighhouseref06_closes.j1]
            rw [if_neg (by decide), if_neg h9, if_neg h0, hw]
theorem closes_ev (cs : List Ins) (hm : cs.length ≤ 4611686018427387904) (a : Nat) (ha : a < cs.length) : Ev (fun k => weighhouseref06_closes.f k cs (a : Int)) (xe cs a) := by
  refine Ev.congr (f := fun k => weighhouseref06_closes.l0 k cs (a : Int) ((0 : Nat) : Int) (-1) ((a + 1 : Nat) : Int)) (fun k => ?_) (closes_l0 cs hm a ha _ (a + 1) 0 (-1) rfl (by omega) (by omega) (cl_start _ _))
  unfold weighhouseref06_closes.f
  rw [w64 (by omega) (by omega)]
  rfl
/-- What ends mean. -/
theorem xe_ok {cs : List Ins} {a : Nat} (ha : a < cs.length) (h : 0 ≤ (xe cs a).2) : ∃ (x : Int) (e : Nat), cl (opc cs) a cs.length = .fin x e ∧ xe cs a = (x, (e : Int)) := by
  unfold xe at h ⊢
  cases hc : cl (opc cs) a cs.length with
  | run d x => rw [hc] at h; exact absurd h (by show ¬ (0 : Int) ≤ -1; decide)
  | fin x e =>
    rw [hc] at h
    have h : 0 ≤ e := h
    exact ⟨x, e.toNat, by rw [Int.toNat_of_nonneg h], by rw [Int.toNat_of_nonneg h]; rfl⟩
theorem xe_of {cs : List Ins} {a : Nat} {x e : Int} (h : cl (opc cs) a cs.length = .fin x e) : xe cs a = (x, e) := by unfold xe; rw [h]; rfl
/-- The pairs, round by round. -/
def mBs (cs : List Ins) (i : Nat) (m : List Int) : List Int :=
  if isOp (opc cs i) = true then
    (if 0 ≤ (xe cs i).1 then (((m.set i (xe cs i).2).set (xe cs i).2.toNat (i : Int)).set i (xe cs i).1).set (xe cs i).1.toNat (xe cs i).2 else (m.set i (xe cs i).2).set (xe cs i).2.toNat (i : Int))
  else m
def mB (cs : List Ins) : Nat → List Int
  | 0 => List.replicate cs.length (-1)
  | i + 1 => mBs cs i (mB cs i)
theorem mBs_len (cs : List Ins) (i : Nat) (m : List Int) : (mBs cs i m).length = m.length := by
  unfold mBs
  split
  · split <;> simp
  · rfl
theorem mB_len (cs : List Ins) (i : Nat) : (mB cs i).length = cs.length := by
  induction i with
  | zero => simp [mB]
  | succ i ih => rw [mB, mBs_len, ih]
theorem B_step (cs : List Ins) (hm : cs.length ≤ 4611686018427387904) (i : Nat) (hi : i < cs.length) (m : List Int) (hl : m.length = cs.length) (r : List Int × Int)
    (hok : (isOp (opc cs i) = true → 0 ≤ (xe cs i).2) → Ev (fun k => weighhouseref06_Match.l1 k cs (mBs cs i m) ((i + 1 : Nat) : Int)) r) (hno : isOp (opc cs i) = true → (xe cs i).2 < 0 → r = ([], 31)) :
    Ev (fun k => weighhouseref06_Match.l1 k cs m (i : Int)) r := by
  have hw : wrap64 ((i : Int) + 1) = ((i + 1 : Nat) : Int) := by rw [w64 (by omega) (by omega)]; rfl
  by_cases ho : opc cs i = 48 ∨ opc cs i = 51
  · have hop := isOp_iff.2 ho
    refine Ev.step (f := fun k => weighhouseref06_Match.j2 k cs m (i : Int) false) (fun k => ?_) ?_
    · simp only [weighhouseref06_Match.l1]
      rw [if_pos (by omega), if_pos (by omega), rdI cs i hi]
      rcases ho with h | h
      · rw [if_pos h]
      · rw [if_neg (by omega), h]
        rfl
    · by_cases he : (xe cs i).2 < 0
      · rw [hno hop he]
        refine Ev.step (f := fun k => (weighhouseref06_closes.f k cs (i : Int)).bind fun bt230 => (if bt230.2 < 0 then (some (([] : List Int), (31 : Int))) else (if 0 ≤ (i : Int) then (if (i : Int) < (m.length : Int) then (if 0 ≤ bt230.2 then (if bt230.2 < (m.length : Int) then ((some ((m.set (i : Int).toNat bt230.2).set (bt230.2 : Int).toNat (i : Int) : List Int)).bind fun y233 => (if bt230.1 ≥ 0 then (if 0 ≤ bt230.1 then (if bt230.1 < (m.length : Int) then (weighhouseref06_Match.l1 k cs ((y233.set (i : Int).toNat bt230.1).set (bt230.1 : Int).toNat bt230.2) (wrap64 ((i : Int) + 1))) else (none)) else (none)) else (weighhouseref06_Match.l1 k cs y233 (wrap64 ((i : Int) + 1))))) else (none)) else (none)) else (none)) else (none)))) (fun k => ?_) ?_
        · simp only [weighhouseref06_Match.j2]
          rw [if_neg (by decide)]
        · refine Ev.bind (closes_ev cs hm i hi) ?_
          exact Ev.congr (f := fun _ => some ([], 31)) (fun k => if_pos he) (Ev.now _)
      · obtain ⟨x, e, hc, hxe⟩ := xe_ok hi (by omega)
        obtain ⟨f1, f2, f3, f4⟩ := fin_facts hi hc
        have hmb : mBs cs i m = if 0 ≤ x then (((m.set i (e : Int)).set e (i : Int)).set i x).set x.toNat (e : Int) else (m.set i (e : Int)).set e (i : Int) := by
          unfold mBs
          rw [if_pos hop, hxe]
          simp only [Int.toNat_natCast]
        have h := hok (fun _ => by omega)
        rw [hmb] at h
        refine Ev.step (f := fun k => (weighhouseref06_closes.f k cs (i : Int)).bind fun bt230 => (if bt230.2 < 0 then (some (([] : List Int), (31 : Int))) else (if 0 ≤ (i : Int) then (if (i : Int) < (m.length : Int) then (if 0 ≤ bt230.2 then (if bt230.2 < (m.length : Int) then ((some ((m.set (i : Int).toNat bt230.2).set (bt230.2 : Int).toNat (i : Int) : List Int)).bind fun y233 => (if bt230.1 ≥ 0 then (if 0 ≤ bt230.1 then (if bt230.1 < (m.length : Int) then (weighhouseref06_Match.l1 k cs ((y233.set (i : Int).toNat bt230.1).set (bt230.1 : Int).toNat bt230.2) (wrap64 ((i : Int) + 1))) else (none)) else (none)) else (weighhouseref06_Match.l1 k cs y233 (wrap64 ((i : Int) + 1))))) else (none)) else (none)) else (none)) else (none)))) (fun k => ?_) ?_
        · simp only [weighhouseref06_Match.j2]
          rw [if_neg (by decide)]
        · refine Ev.bind (closes_ev cs hm i hi) ?_
          rw [hxe]
          by_cases hx : 0 ≤ x
          · rw [if_pos hx] at h
            refine Ev.congr (fun k => ?_) h
            dsimp only
            rw [if_neg (by omega), if_pos (by omega), if_pos (by omega), if_pos (by omega), if_pos (by omega), Option.bind_some, if_pos hx, if_pos hx, if_pos (by omega), hw, Int.toNat_natCast, Int.toNat_natCast]
          · rw [if_neg hx] at h
            refine Ev.congr (fun k => ?_) h
            dsimp only
            rw [if_neg (by omega), if_pos (by omega), if_pos (by omega), if_pos (by omega), if_pos (by omega), Option.bind_some, if_neg hx, hw, Int.toNat_natCast, Int.toNat_natCast]
  · have h := hok (fun hh => absurd (isOp_iff.1 hh) ho)
    unfold mBs at h
    rw [isOp_not ho, if_neg (by decide)] at h
    refine Ev.step (f := fun k => weighhouseref06_Match.j2 k cs m (i : Int) true) (fun k => ?_) ?_
    · simp only [weighhouseref06_Match.l1]
      rw [if_pos (by omega), if_pos (by omega), rdI cs i hi, if_neg (by omega), show (opc cs i != 51) = true by simp; omega]
    · refine Ev.step (fun k => ?_) h
      simp only [weighhouseref06_Match.j2]
      rw [if_true, hw]
theorem B_fail (cs : List Ins) (hm : cs.length ≤ 4611686018427387904) (q : Nat) : ∀ (i : Nat) (m : List Int), cs.length - i = q → i ≤ cs.length → m.length = cs.length → (∃ a, i ≤ a ∧ a < cs.length ∧ isOp (opc cs a) = true ∧ (xe cs a).2 < 0) →
    Ev (fun k => weighhouseref06_Match.l1 k cs m (i : Int)) ([], 31) := by
  induction q with
  | zero =>
    rintro i m hq hi hl ⟨a, h1, h2, _⟩
    omega
  | succ q ih =>
    rintro i m hq hi hl ⟨a, h1, h2, h3, h4⟩
    refine B_step cs hm i (by omega) m hl _ (fun hh => ?_) (fun _ _ => rfl)
    refine ih (i + 1) _ (by omega) (by omega) (by rw [mBs_len]; exact hl) ⟨a, ?_, h2, h3, h4⟩
    by_cases hai : a = i
    · rw [hai] at h3 h4
      have := hh h3
      omega
    · omega
theorem B_ok (cs : List Ins) (hm : cs.length ≤ 4611686018427387904) (r : List Int × Int) (hH : ∀ a, a < cs.length → isOp (opc cs a) = true → 0 ≤ (xe cs a).2) (hr : Ev (fun k => weighhouseref06_Match.l2 k cs (mB cs cs.length) ((0 : Nat) : Int)) r) (q : Nat) : ∀ (i : Nat), cs.length - i = q → i ≤ cs.length →
    Ev (fun k => weighhouseref06_Match.l1 k cs (mB cs i) (i : Int)) r := by
  induction q with
  | zero =>
    intro i hq hi
    have e : i = cs.length := by omega
    subst e
    refine Ev.step (fun k => ?_) hr
    simp only [weighhouseref06_Match.l1]
    rw [if_neg (by omega)]
    rfl
  | succ q ih =>
    intro i hq hi
    exact B_step cs hm i (by omega) _ (mB_len _ _) _ (fun _ => ih (i + 1) (by omega) (by omega)) (fun ho he => by have := hH i (by omega) ho; omega)
def bad (cs : List Ins) (m : List Int) (k : Nat) : Prop := (opc cs k = 49 ∨ opc cs k = 50) ∧ rd m (k : Int) < 0
theorem C_step (cs : List Ins) (hm : cs.length ≤ 4611686018427387904) (i : Nat) (hi : i < cs.length) (m : List Int) (hl : m.length = cs.length) (r : List Int × Int) (hok : ¬ bad cs m i → Ev (fun k => weighhouseref06_Match.l2 k cs m ((i + 1 : Nat) : Int)) r) (hno : bad cs m i → r = ([], 31)) :
    Ev (fun k => weighhouseref06_Match.l2 k cs m (i : Int)) r := by
  have hw : wrap64 ((i : Int) + 1) = ((i + 1 : Nat) : Int) := by rw [w64 (by omega) (by omega)]; rfl
  by_cases hb : bad cs m i
  · rw [hno hb]
    refine Ev.step (f := fun _ => some ([], 31)) (fun k => ?_) (Ev.now _)
    simp only [weighhouseref06_Match.l2]
    rw [if_pos (by omega), if_pos (by omega), rdI cs i hi]
    rcases hb.1 with h | h
    · rw [if_pos h, if_pos (by omega), if_pos hb.2]
    · rw [if_neg (by omega), if_pos h, if_pos (by omega), if_pos hb.2]
  · refine Ev.step (fun k => ?_) (hok hb)
    simp only [weighhouseref06_Match.l2]
    rw [if_pos (by omega), if_pos (by omega), rdI cs i hi, hw]
    by_cases h9 : opc cs i = 49
    · rw [if_pos h9, if_pos (by omega), if_neg (fun h => hb ⟨.inl h9, h⟩)]
    · rw [if_neg h9]
      by_cases h0 : opc cs i = 50
      · rw [if_pos h0, if_pos (by omega), if_neg (fun h => hb ⟨.inr h0, h⟩)]
      · rw [if_neg h0]
theorem C_fail (cs : List Ins) (hm : cs.length ≤ 4611686018427387904) (m : List Int) (hl : m.length = cs.length) (q : Nat) : ∀ i, cs.length - i = q → i ≤ cs.length → (∃ k, i ≤ k ∧ k < cs.length ∧ bad cs m k) → Ev (fun k => weighhouseref06_Match.l2 k cs m (i : Int)) ([], 31) := by
  induction q with
  | zero =>
    rintro i hq hi ⟨a, h1, h2, _⟩
    omega
  | succ q ih =>
    rintro i hq hi ⟨a, h1, h2, h3⟩
    refine C_step cs hm i (by omega) m hl _ (fun hh => ?_) (fun _ => rfl)
    refine ih (i + 1) (by omega) (by omega) ⟨a, ?_, h2, h3⟩
    by_cases hai : a = i
    · rw [hai] at h3
      exact absurd h3 hh
    · omega
theorem C_ok (cs : List Ins) (hm : cs.length ≤ 4611686018427387904) (m : List Int) (hl : m.length = cs.length) (r : List Int × Int) (hH : ∀ k, k < cs.length → ¬ bad cs m k) (hr : Ev (fun k => weighhouseref06_Match.l3 k cs m ((0 : Nat) : Int)) r) (q : Nat) : ∀ i, cs.length - i = q → i ≤ cs.length → Ev (fun k => weighhouseref06_Match.l2 k cs m (i : Int)) r := by
  induction q with
  | zero =>
    intro i hq hi
    have e : i = cs.length := by omega
    subst e
    refine Ev.step (fun k => ?_) hr
    simp only [weighhouseref06_Match.l2]
    rw [if_neg (by omega)]
    rfl
  | succ q ih =>
    intro i hq hi
    exact C_step cs hm i (by omega) m hl _ (fun _ => ih (i + 1) (by omega) (by omega)) (fun hb => absurd hb (hH i (by omega)))
theorem A_ok (cs : List Ins) (hm : cs.length ≤ 4611686018427387904) (r : List Int × Int) (hr : Ev (fun k => weighhouseref06_Match.l1 k cs (List.replicate cs.length (-1)) ((0 : Nat) : Int)) r) (q : Nat) : ∀ (i : Nat), cs.length - i = q → i ≤ cs.length →
    Ev (fun k => weighhouseref06_Match.l0 k cs (List.replicate i (-1) ++ List.replicate (cs.length - i) 0) (i : Int)) r := by
  induction q with
  | zero =>
    intro i hq hi
    have e : i = cs.length := by omega
    subst e
    refine Ev.step (fun k => ?_) hr
    simp only [weighhouseref06_Match.l0]
    rw [if_neg (by omega)]
    simp
  | succ q ih =>
    intro i hq hi
    refine Ev.step (fun k => ?_) (ih (i + 1) (by omega) (by omega))
    simp only [weighhouseref06_Match.l0]
    rw [if_pos (by omega), if_pos (by omega), if_pos (by simp; omega), w64 (by omega) (by omega), Int.toNat_natCast]
    congr 1
    rw [List.set_append_right _ _ (by simp), List.length_replicate, Nat.sub_self, show cs.length - i = (cs.length - (i + 1)) + 1 by omega, List.replicate_succ, List.set_cons_zero, List.replicate_succ' (n := i), List.append_assoc]
    rfl
end Go.Proofs.Ytbdmbkmokhaflaa.Th
end

section
-- written by hprint.py (a program of these sessions) out of the translation; Lean checks it
namespace Go.Proofs.Ytbdmbkmokhaflaa.Q
open Go.RowKit Go.Proofs.YtbdmbkmokhaflaaW.Hb Go.Proofs.YtbdmbkmokhaflaaW.PrintWords Go.Proofs.YtbdmbkmokhaflaaW.PrintLast Go.Proofs.YtbdmbkmokhaflaaW.PrintMore
attribute [local go_sem] max2_int min2_int max_two min_two max_three min_three max_four min_four   -- for this text's walks alone
set_option linter.unusedVariables false
set_option linter.unusedSimpArgs false

/-! ### weighhouseref06_Around: function 20 -/
def weighhouseref06_Around.f (k : Nat) (l0 : List (S31)) (a1 : Int) : Option (List Int) := (weighhouseref06_Match.f k l0).bind fun bt283 => (if bt283.2 = 0 then (if a1 < 0 then (some ([] : List Int)) else (if a1 ≥ (l0.length : Int) then (some ([] : List Int)) else ((weighhouseref06_opened.f k l0 bt283.1 a1).bind fun t287 => (some t287)))) else (some ([] : List Int)))
theorem weighhouseref06_Around.mono : ∀ a0 a1 k, LeO (weighhouseref06_Around.f k a0 a1) (weighhouseref06_Around.f (k + 1) a0 a1) := by
  intro a0 a1 k
  unfold weighhouseref06_Around.f
  repeat' first
      | (with_reducible exact weighhouseref06_Match.mono _ _)
      | (with_reducible exact weighhouseref06_opened.mono _ _ _ _)
      | (with_reducible exact LeO.refl _)
      | (with_reducible exact LeO.none _)
      | (with_reducible refine LeO.ite ?_ ?_)
      | (with_reducible refine LeO.bind ?_ (fun _ => ?_))
      | exact weighhouseref06_Match.mono _ _
      | exact weighhouseref06_opened.mono _ _ _ _
      | exact LeO.none _
      | refine LeO.ite ?_ ?_
      | refine LeO.bind ?_ (fun _ => ?_)
set_option maxHeartbeats 8000000 in
set_option maxRecDepth 100000 in
theorem weighhouseref06_Around.calls (k : Nat) (A0 : Option Addr) (c0 : Nat) (l0 : List (S31)) (a1 : Int) (r : List Int) (w : World) (hr0 : Kd.C k31 w A0 l0.length l0) (hc0 : l0.length ≤ c0) (h : weighhouseref06_Around.f k l0 a1 = some r) :
    Calls Try.prog 20 #[.slice A0 l0.length c0, .int .i64 a1] w fun e w' => ∃ v0_ : Value, e = .returned (v0_) ∧ Kd.R (Kd.int .i64) 3 w' w.heap.size (fun _ => True) v0_ r ∧ Below w.heap.size w w' := by
  have HR0 := Aside0.mk hr0
  have HC0 := Aside0.mk hc0
  clear hr0 hc0
  have HB := Aside0.mk (Below.refl w.heap.size w)
  have H : ((weighhouseref06_Match.f k l0).bind fun bt283 => (if bt283.2 = 0 then (if a1 < 0 then (some ([] : List Int)) else (if a1 ≥ (l0.length : Int) then (some ([] : List Int)) else ((weighhouseref06_opened.f k l0 bt283.1 a1).bind fun t287 => (some t287)))) else (some ([] : List Int)))) = some r := h
  clear h
  replace H := Option.bind_eq_some_iff.mp H
  obtain ⟨⟨t283, t284⟩, A30, H⟩ := H
  replace H : (if t284 = 0 then (if a1 < 0 then (some ([] : List Int)) else (if a1 ≥ (l0.length : Int) then (some ([] : List Int)) else ((weighhouseref06_opened.f k l0 t283 a1).bind fun t287 => (some t287)))) else (some ([] : List Int))) = some r := H
  have A3 := Aside0.mk A30
  clear A30
  by_cases c4 : t284 = 0
  · rw [if_pos c4] at H
    have c4b0 : (t284 == 0) = true := beq_iff_eq.mpr c4
    have c4b1 : (t284 != 0) = false := bne_eq_false_iff_eq.mpr c4
    clear c4
    by_cases c5 : a1 < 0
    · rw [if_pos c5] at H
      have c5b0 : decide (a1 < 0) = true := decide_eq_true c5
      clear c5
      obtain rfl := Option.some.inj H
      go_enter Try.func20, Try.ntmps20
      go_wp2_with (first | ((with_reducible refine gate_callee (f := 15) rfl ?_); refine goesL_ (some 9) rfl rfl Try.func15 (by kernel_rfl) rfl #[.slice A0 l0.length c0] rfl (by (try simp only [List.map_toArray, List.map_cons, List.map_nil]); first | done | rfl | (simp only [List.length_drop, List.length_take]; rfl)) ?_; (with_reducible refine (weighhouseref06_Match.calls k _ _ l0 t283 t284 _ ?side1 ?side2 A3.out).mono ?_); (case side1 => repeat (first | exact HR0.out | (with_reducible refine Kd.C_alloc ?_ _) | (with_reducible refine Kd.C_drewN ?_ _) | (with_reducible refine Kd.C_drew ?_))); (case side2 => exact HC0.out); rintro e w6 ⟨v285, rfl, ho0, hb⟩; refine ⟨_, rfl, ?_⟩; have n0_ := Aside0.mk (Kd.R_lower ho0 (below_size (by repeat (first | (with_reducible first | exact HB.out | apply below_alloc | apply pw_below_drewN | apply below_drew1) | exact HB.out)))); have n1_ := Aside0.mk (below_step (by repeat (first | (with_reducible first | exact HB.out | apply below_alloc | apply pw_below_drewN | apply below_drew1) | exact HB.out)) hb); clear HB; have HO286 := n0_; have HB := n1_; clear n0_ n1_; (try clear hb); (try clear hb2); (try clear hk); (try clear hi); (try clear ho0)))
      go_ret
      exact ⟨_, by first | rfl | (simp [errW_none, errW_some] <;> rfl) | (simp [*, errW_none, errW_some] <;> rfl), by first | exact Kd.R_nil _ _ _ _ _ | exact Kd.N_nil _ _ _ _ _ | exact Kd.V_nil _ _ _ _ _ | exact Kd.Q_nil _ _ _ _ _ | exact Kd.S_nil _ _ _ _ _, by repeat (first | (with_reducible first | exact HB.out | apply below_alloc | apply pw_below_drewN | apply below_drew1) | exact HB.out)⟩
    · rw [if_neg c5] at H
      have c5b0 : decide (a1 < 0) = false := decide_eq_false c5
      clear c5
      by_cases c7 : a1 ≥ (l0.length : Int)
      · rw [if_pos c7] at H
        have c7b0 : decide ((l0.length : Int) ≤ a1) = true := decide_eq_true c7
        clear c7
        obtain rfl := Option.some.inj H
        go_enter Try.func20, Try.ntmps20
        go_wp2_with (first | ((with_reducible refine gate_callee (f := 15) rfl ?_); refine goesL_ (some 9) rfl rfl Try.func15 (by kernel_rfl) rfl #[.slice A0 l0.length c0] rfl (by (try simp only [List.map_toArray, List.map_cons, List.map_nil]); first | done | rfl | (simp only [List.length_drop, List.length_take]; rfl)) ?_; (with_reducible refine (weighhouseref06_Match.calls k _ _ l0 t283 t284 _ ?side1 ?side2 A3.out).mono ?_); (case side1 => repeat (first | exact HR0.out | (with_reducible refine Kd.C_alloc ?_ _) | (with_reducible refine Kd.C_drewN ?_ _) | (with_reducible refine Kd.C_drew ?_))); (case side2 => exact HC0.out); rintro e w8 ⟨v285, rfl, ho0, hb⟩; refine ⟨_, rfl, ?_⟩; have n0_ := Aside0.mk (Kd.R_lower ho0 (below_size (by repeat (first | (with_reducible first | exact HB.out | apply below_alloc | apply pw_below_drewN | apply below_drew1) | exact HB.out)))); have n1_ := Aside0.mk (below_step (by repeat (first | (with_reducible first | exact HB.out | apply below_alloc | apply pw_below_drewN | apply below_drew1) | exact HB.out)) hb); clear HB; have HO286 := n0_; have HB := n1_; clear n0_ n1_; (try clear hb); (try clear hb2); (try clear hk); (try clear hi); (try clear ho0)))
        go_ret
        exact ⟨_, by first | rfl | (simp [errW_none, errW_some] <;> rfl) | (simp [*, errW_none, errW_some] <;> rfl), by first | exact Kd.R_nil _ _ _ _ _ | exact Kd.N_nil _ _ _ _ _ | exact Kd.V_nil _ _ _ _ _ | exact Kd.Q_nil _ _ _ _ _ | exact Kd.S_nil _ _ _ _ _, by repeat (first | (with_reducible first | exact HB.out | apply below_alloc | apply pw_below_drewN | apply below_drew1) | exact HB.out)⟩
      · rw [if_neg c7] at H
        have c7b0 : decide ((l0.length : Int) ≤ a1) = false := decide_eq_false c7
        clear c7
        replace H := Option.bind_eq_some_iff.mp H
        obtain ⟨t287, A90, H⟩ := H
        replace H : (some t287) = some r := H
        have A9 := Aside0.mk A90
        clear A90
        obtain rfl := Option.some.inj H
        go_enter Try.func20, Try.ntmps20
        go_wp2_with (first | ((with_reducible refine gate_callee (f := 15) rfl ?_); refine goesL_ (some 9) rfl rfl Try.func15 (by kernel_rfl) rfl #[.slice A0 l0.length c0] rfl (by (try simp only [List.map_toArray, List.map_cons, List.map_nil]); first | done | rfl | (simp only [List.length_drop, List.length_take]; rfl)) ?_; (with_reducible refine (weighhouseref06_Match.calls k _ _ l0 t283 t284 _ ?side1 ?side2 A3.out).mono ?_); (case side1 => repeat (first | exact HR0.out | (with_reducible refine Kd.C_alloc ?_ _) | (with_reducible refine Kd.C_drewN ?_ _) | (with_reducible refine Kd.C_drew ?_))); (case side2 => exact HC0.out); rintro e w10 ⟨v285, rfl, ho0, hb⟩; refine ⟨_, rfl, ?_⟩; have n0_ := Aside0.mk (Kd.R_lower ho0 (below_size (by repeat (first | (with_reducible first | exact HB.out | apply below_alloc | apply pw_below_drewN | apply below_drew1) | exact HB.out)))); have n1_ := Aside0.mk (below_step (by repeat (first | (with_reducible first | exact HB.out | apply below_alloc | apply pw_below_drewN | apply below_drew1) | exact HB.out)) hb); clear HB; have HO286 := n0_; have HB := n1_; clear n0_ n1_; (try clear hb); (try clear hb2); (try clear hk); (try clear hi); (try clear ho0); obtain ⟨Ao11, co11, eo11⟩ := Kd.R_slice HO286.out; subst eo11) | ((with_reducible refine gate_callee (f := 24) rfl ?_); refine goesL_ (some 27) rfl rfl Try.func24 (by kernel_rfl) rfl #[.slice A0 l0.length c0, .slice Ao11 t283.length co11, .int .i64 a1] rfl (by (try simp only [List.map_toArray, List.map_cons, List.map_nil]); first | done | rfl | (simp only [List.length_drop, List.length_take]; rfl)) ?_; (with_reducible refine (weighhouseref06_opened.calls k _ _ l0 _ _ t283 a1 t287 _ ?side1 ?side2 ?side3 ?side4 A9.out).mono ?_); (case side1 => repeat (first | exact (Kd.C_below HR0.out HB.out) | (with_reducible refine Kd.C_alloc ?_ _) | (with_reducible refine Kd.C_drewN ?_ _) | (with_reducible refine Kd.C_drew ?_))); (case side2 => exact HC0.out); (case side3 => repeat (first | exact (Kd.R_reads' HO286.out).2.2 | (with_reducible refine Kd.C_alloc ?_ _) | (with_reducible refine Kd.C_drewN ?_ _) | (with_reducible refine Kd.C_drew ?_))); (case side4 => exact (Kd.R_reads' HO286.out).2.1); rintro e w12 ⟨v288, rfl, ho0, hb⟩; refine ⟨_, rfl, ?_⟩; have n0_ := Aside0.mk (Kd.R_elder' (by (with_reducible repeat (first | apply Kd.R_alloc | apply Kd.R_drewN | apply Kd.R_drew)); exact HO286.out) (Kd.R_base ho0) hb); have n1_ := Aside0.mk (Kd.R_lower (Kd.R_new' ho0 (Kd.R_lt (by (with_reducible repeat (first | apply Kd.R_alloc | apply Kd.R_drewN | apply Kd.R_drew)); exact HO286.out))) (below_size (by repeat (first | (with_reducible first | exact HB.out | apply below_alloc | apply pw_below_drewN | apply below_drew1) | exact HB.out)))); have n2_ := Aside0.mk (below_step (by repeat (first | (with_reducible first | exact HB.out | apply below_alloc | apply pw_below_drewN | apply below_drew1) | exact HB.out)) hb); clear HO286; clear HB; have HO286 := n0_; have HO289 := n1_; have HB := n2_; clear n0_ n1_ n2_; (try clear hb); (try clear hb2); (try clear hk); (try clear hi); (try clear ho0)))
        go_ret
        exact ⟨_, by first | rfl | (simp [errW_none, errW_some] <;> rfl) | (simp [*, errW_none, errW_some] <;> rfl), by (with_reducible repeat (first | apply Kd.R_alloc | apply Kd.R_drewN | apply Kd.R_drew)); exact Kd.R_mono HO289.out (fun _ hk => trivial), by repeat (first | (with_reducible first | exact HB.out | apply below_alloc | apply pw_below_drewN | apply below_drew1) | exact HB.out)⟩
  · rw [if_neg c4] at H
    have c4b0 : (t284 == 0) = false := beq_eq_false_iff_ne.mpr c4
    have c4b1 : (t284 != 0) = true := bne_iff_ne.mpr c4
    obtain rfl := Option.some.inj H
    go_enter Try.func20, Try.ntmps20
    go_wp2_with (first | ((with_reducible refine gate_callee (f := 15) rfl ?_); refine goesL_ (some 9) rfl rfl Try.func15 (by kernel_rfl) rfl #[.slice A0 l0.length c0] rfl (by (try simp only [List.map_toArray, List.map_cons, List.map_nil]); first | done | rfl | (simp only [List.length_drop, List.length_take]; rfl)) ?_; (with_reducible refine (weighhouseref06_Match.calls k _ _ l0 t283 t284 _ ?side1 ?side2 A3.out).mono ?_); (case side1 => repeat (first | exact HR0.out | (with_reducible refine Kd.C_alloc ?_ _) | (with_reducible refine Kd.C_drewN ?_ _) | (with_reducible refine Kd.C_drew ?_))); (case side2 => exact HC0.out); rintro e w13 ⟨v285, rfl, ho0, hb⟩; refine ⟨_, rfl, ?_⟩; have n0_ := Aside0.mk (Kd.R_lower ho0 (below_size (by repeat (first | (with_reducible first | exact HB.out | apply below_alloc | apply pw_below_drewN | apply below_drew1) | exact HB.out)))); have n1_ := Aside0.mk (below_step (by repeat (first | (with_reducible first | exact HB.out | apply below_alloc | apply pw_below_drewN | apply below_drew1) | exact HB.out)) hb); clear HB; have HO286 := n0_; have HB := n1_; clear n0_ n1_; (try clear hb); (try clear hb2); (try clear hk); (try clear hi); (try clear ho0)))
    go_ret
    exact ⟨_, by first | rfl | (simp [errW_none, errW_some] <;> rfl) | (simp [*, errW_none, errW_some] <;> rfl), by first | exact Kd.R_nil _ _ _ _ _ | exact Kd.N_nil _ _ _ _ _ | exact Kd.V_nil _ _ _ _ _ | exact Kd.Q_nil _ _ _ _ _ | exact Kd.S_nil _ _ _ _ _, by repeat (first | (with_reducible first | exact HB.out | apply below_alloc | apply pw_below_drewN | apply below_drew1) | exact HB.out)⟩

end Go.Proofs.Ytbdmbkmokhaflaa.Q
end

section
-- written by hprint.py (a program of these sessions) out of the translation; Lean checks it
namespace Go.Proofs.Ytbdmbkmokhaflaa.Q
open Go.RowKit Go.Proofs.YtbdmbkmokhaflaaW.Hb Go.Proofs.YtbdmbkmokhaflaaW.PrintWords Go.Proofs.YtbdmbkmokhaflaaW.PrintLast Go.Proofs.YtbdmbkmokhaflaaW.PrintMore
attribute [local go_sem] max2_int min2_int max_two min_two max_three min_three max_four min_four   -- for this text's walks alone
set_option linter.unusedVariables false
set_option linter.unusedSimpArgs false

/-! ### weighhouseref06_Depth: function 17 -/
def weighhouseref06_Depth.l0 : Nat → List (S31) → List Int → Int → Int → Option (Int × Int)
  | 0, _, _, _, _ => none
  | k + 1, x0, x4, x6, x7 => if x7 < (x0.length : Int) then ((weighhouseref06_opened.f k x0 x4 x7).bind fun t256 => (if 0 ≤ x7 then (if ((rd_T31 x0 x7).f0) = 48 then (weighhouseref06_Depth.l0 k x0 x4 (mx x6 (wrap64 ((t256.length : Int) + 1))) (wrap64 (x7 + 1))) else (if ((rd_T31 x0 x7).f0) = 51 then (weighhouseref06_Depth.l0 k x0 x4 (mx x6 (wrap64 ((t256.length : Int) + 1))) (wrap64 (x7 + 1))) else (weighhouseref06_Depth.l0 k x0 x4 (mx x6 (t256.length : Int)) (wrap64 (x7 + 1))))) else (none))) else (some (x6, 0))
def weighhouseref06_Depth.f (k : Nat) (l0 : List (S31)) : Option (Int × Int) := (weighhouseref06_Match.f k l0).bind fun bt252 => (if bt252.2 = 0 then (weighhouseref06_Depth.l0 k l0 bt252.1 0 0) else (some (0, bt252.2)))
theorem weighhouseref06_Depth.mono_l : ∀ k, (∀ y0 y1 y2 y3, LeO (weighhouseref06_Depth.l0 k y0 y1 y2 y3) (weighhouseref06_Depth.l0 (k + 1) y0 y1 y2 y3))
  | 0 => fun _ _ _ _ r h => by simp [weighhouseref06_Depth.l0] at h
  | k + 1 => by
    have ih0 := weighhouseref06_Depth.mono_l k
    · intro y0 y1 y2 y3
      unfold weighhouseref06_Depth.l0
      repeat' first
      | (with_reducible exact ih0 _ _ _ _)
      | (with_reducible exact weighhouseref06_Match.mono _ _)
      | (with_reducible exact weighhouseref06_opened.mono _ _ _ _)
      | (with_reducible exact LeO.refl _)
      | (with_reducible exact LeO.none _)
      | (with_reducible refine LeO.ite ?_ ?_)
      | (with_reducible refine LeO.bind ?_ (fun _ => ?_))
      | exact ih0 _ _ _ _
      | exact weighhouseref06_Match.mono _ _
      | exact weighhouseref06_opened.mono _ _ _ _
      | exact LeO.none _
      | refine LeO.ite ?_ ?_
      | refine LeO.bind ?_ (fun _ => ?_)
theorem weighhouseref06_Depth.mono : ∀ a0 k, LeO (weighhouseref06_Depth.f k a0) (weighhouseref06_Depth.f (k + 1) a0) := by
  intro a0 k
  have ih0 := weighhouseref06_Depth.mono_l k
  unfold weighhouseref06_Depth.f
  repeat' first
      | (with_reducible exact ih0 _ _ _ _)
      | (with_reducible exact weighhouseref06_Match.mono _ _)
      | (with_reducible exact weighhouseref06_opened.mono _ _ _ _)
      | (with_reducible exact LeO.refl _)
      | (with_reducible exact LeO.none _)
      | (with_reducible refine LeO.ite ?_ ?_)
      | (with_reducible refine LeO.bind ?_ (fun _ => ?_))
      | exact ih0 _ _ _ _
      | exact weighhouseref06_Match.mono _ _
      | exact weighhouseref06_opened.mono _ _ _ _
      | exact LeO.none _
      | refine LeO.ite ?_ ?_
      | refine LeO.bind ?_ (fun _ => ?_)
set_option maxHeartbeats 8000000 in
set_option maxRecDepth 100000 in
theorem weighhouseref06_Depth.calls (k : Nat) (A0 : Option Addr) (c0 : Nat) (l0 : List (S31)) (r1 : Int) (r2 : Int) (w : World) (hr0 : Kd.C k31 w A0 l0.length l0) (hc0 : l0.length ≤ c0) (h : weighhouseref06_Depth.f k l0 = some (r1, r2)) :
    Calls Try.prog 17 #[.slice A0 l0.length c0] w fun e w' => e = .returned (.tuple #[.int .i64 r1, .int .i64 r2]) ∧ Below w.heap.size w w' := by
  have HR0 := Aside0.mk hr0
  have HC0 := Aside0.mk hc0
  clear hr0 hc0
  have HB := Aside0.mk (Below.refl w.heap.size w)
  have H : ((weighhouseref06_Match.f k l0).bind fun bt252 => (if bt252.2 = 0 then (weighhouseref06_Depth.l0 k l0 bt252.1 0 0) else (some (0, bt252.2)))) = some (r1, r2) := h
  clear h
  replace H := Option.bind_eq_some_iff.mp H
  obtain ⟨⟨t252, t253⟩, A20, H⟩ := H
  replace H : (if t253 = 0 then (weighhouseref06_Depth.l0 k l0 t252 0 0) else (some (0, t253))) = some (r1, r2) := H
  have A2 := Aside0.mk A20
  clear A20
  by_cases c3 : t253 = 0
  · rw [if_pos c3] at H
    have c3b0 : (t253 == 0) = true := beq_iff_eq.mpr c3
    have c3b1 : (t253 != 0) = false := bne_eq_false_iff_eq.mpr c3
    clear c3
    have H' := Aside0.mk H
    clear H
    go_enter Try.func17, Try.ntmps17
    go_wp2_with (first | ((with_reducible refine gate_callee (f := 15) rfl ?_); refine goesL_ (some 11) rfl rfl Try.func15 (by kernel_rfl) rfl #[.slice A0 l0.length c0] rfl (by (try simp only [List.map_toArray, List.map_cons, List.map_nil]); first | done | rfl | (simp only [List.length_drop, List.length_take]; rfl)) ?_; (with_reducible refine (weighhouseref06_Match.calls k _ _ l0 t252 t253 _ ?side1 ?side2 A2.out).mono ?_); (case side1 => repeat (first | exact HR0.out | (with_reducible refine Kd.C_alloc ?_ _) | (with_reducible refine Kd.C_drewN ?_ _) | (with_reducible refine Kd.C_drew ?_))); (case side2 => exact HC0.out); rintro e w4 ⟨v254, rfl, ho0, hb⟩; refine ⟨_, rfl, ?_⟩; have n0_ := Aside0.mk (Kd.R_lower ho0 (below_size (by repeat (first | (with_reducible first | exact HB.out | apply below_alloc | apply pw_below_drewN | apply below_drew1) | exact HB.out)))); have n1_ := Aside0.mk (below_step (by repeat (first | (with_reducible first | exact HB.out | apply below_alloc | apply pw_below_drewN | apply below_drew1) | exact HB.out)) hb); clear HB; have HO255 := n0_; have HB := n1_; clear n0_ n1_; (try clear hb); (try clear hb2); (try clear hk); (try clear hi); (try clear ho0)))
    go_loopg [6, 7] k (fun kq v6 v7 w' => ∃ (x6_1 : Int) (x7_1 : Int), v6 = .int .i64 x6_1 ∧ v7 = .int .i64 x7_1 ∧ Aside0 (weighhouseref06_Depth.l0 kq l0 t252 x6_1 x7_1 = some (r1, r2)) ∧ Aside0 (kq ≤ k) ∧ Aside0 (Kd.R (Kd.int .i64) 3 w' w.heap.size (fun _ => True) v254 t252) ∧ Aside0 (Below w.heap.size w w'))
    case atStart => exact ⟨(0), (0), (by first | rfl | (simp; done) | (simp [*]; done)), (by first | rfl | (simp; done) | (simp [*]; done)), H', ⟨Nat.le_refl _⟩, ⟨by (with_reducible repeat (first | apply Kd.R_alloc | apply Kd.R_drewN | apply Kd.R_drew)); exact HO255.out⟩, ⟨by repeat (first | (with_reducible first | exact HB.out | apply below_alloc | apply pw_below_drewN | apply below_drew1) | exact HB.out)⟩⟩
    case round =>
      clear H'
      try clear c1
      try clear p2
      try clear c3
      try clear c3b0
      try clear c3b1
      obtain ⟨x6_1, x7_1, rfl, rfl, HA, HK1, HO_4, HB⟩ := hrel
      cases gk with
      | zero => exact absurd HA.out (by simp [weighhouseref06_Depth.l0])
      | succ k1 =>
        have H := HA.out
        clear HA
        simp only [weighhouseref06_Depth.l0] at H
        by_cases c5 : x7_1 < (l0.length : Int)
        · rw [if_pos c5] at H
          have c5b0 : decide (x7_1 < (l0.length : Int)) = true := decide_eq_true c5
          clear c5
          replace H := Option.bind_eq_some_iff.mp H
          obtain ⟨t256, A60, H⟩ := H
          replace H : (if 0 ≤ x7_1 then (if ((rd_T31 l0 x7_1).f0) = 48 then (weighhouseref06_Depth.l0 k1 l0 t252 (mx x6_1 (wrap64 ((t256.length : Int) + 1))) (wrap64 (x7_1 + 1))) else (if ((rd_T31 l0 x7_1).f0) = 51 then (weighhouseref06_Depth.l0 k1 l0 t252 (mx x6_1 (wrap64 ((t256.length : Int) + 1))) (wrap64 (x7_1 + 1))) else (weighhouseref06_Depth.l0 k1 l0 t252 (mx x6_1 (t256.length : Int)) (wrap64 (x7_1 + 1))))) else (none)) = some (r1, r2) := H
          have A6 := Aside0.mk A60
          clear A60
          by_cases c7 : 0 ≤ x7_1
          · rw [if_pos c7] at H
            have c7b0 : decide (0 ≤ x7_1) = true := decide_eq_true c7
            clear c7
            by_cases c8 : ((rd_T31 l0 x7_1).f0) = 48
            · rw [if_pos c8] at H
              have c8b0 : (((rd_T31 l0 x7_1).f0) == 48) = true := beq_iff_eq.mpr c8
              have c8b1 : (((rd_T31 l0 x7_1).f0) != 48) = false := bne_eq_false_iff_eq.mpr c8
              clear c8
              obtain ⟨ji9, hji9⟩ : ∃ j_ : Int, (mx x6_1 (wrap64 ((t256.length : Int) + 1))) = j_ := ⟨_, rfl⟩
              replace H : (weighhouseref06_Depth.l0 k1 l0 t252 ji9 (wrap64 (x7_1 + 1))) = some (r1, r2) := by first | (rw [hji9] at H; exact H) | (simp only [hji9] at H ⊢; exact H)
              (try rw [hji9] at A6)
              have hji9_ : (if x6_1 < (wrap64 ((t256.length : Int) + 1)) then (wrap64 ((t256.length : Int) + 1)) else x6_1) = ji9 := hji9
              have H' := Aside0.mk H
              clear H
              obtain ⟨Ao10, co10, eo10⟩ := Kd.R_slice HO_4.out
              subst eo10
              go_wp2_with (first | ((with_reducible refine gate_callee (f := 24) rfl ?_); refine goesL_ (some 26) rfl rfl Try.func24 (by kernel_rfl) rfl #[.slice A0 l0.length c0, .slice Ao10 t252.length co10, .int .i64 x7_1] rfl (by (try simp only [List.map_toArray, List.map_cons, List.map_nil]); first | done | rfl | (simp only [List.length_drop, List.length_take]; rfl)) ?_; (with_reducible refine (weighhouseref06_opened.calls k1 _ _ l0 _ _ t252 x7_1 t256 _ ?side1 ?side2 ?side3 ?side4 A6.out).mono ?_); (case side1 => repeat (first | exact (Kd.C_below HR0.out HB.out) | (with_reducible refine Kd.C_alloc ?_ _) | (with_reducible refine Kd.C_drewN ?_ _) | (with_reducible refine Kd.C_drew ?_))); (case side2 => exact HC0.out); (case side3 => repeat (first | exact (Kd.R_reads' HO_4.out).2.2 | (with_reducible refine Kd.C_alloc ?_ _) | (with_reducible refine Kd.C_drewN ?_ _) | (with_reducible refine Kd.C_drew ?_))); (case side4 => exact (Kd.R_reads' HO_4.out).2.1); rintro e w11 ⟨v257, rfl, ho0, hb⟩; refine ⟨_, rfl, ?_⟩; have n0_ := Aside0.mk (Kd.R_elder' (by (with_reducible repeat (first | apply Kd.R_alloc | apply Kd.R_drewN | apply Kd.R_drew)); exact HO_4.out) (Kd.R_base ho0) hb); have n1_ := Aside0.mk (Kd.R_lower (Kd.R_new' ho0 (Kd.R_lt (by (with_reducible repeat (first | apply Kd.R_alloc | apply Kd.R_drewN | apply Kd.R_drew)); exact HO_4.out))) (below_size (by repeat (first | (with_reducible first | exact HB.out | apply below_alloc | apply pw_below_drewN | apply below_drew1) | exact HB.out)))); have n2_ := Aside0.mk (below_step (by repeat (first | (with_reducible first | exact HB.out | apply below_alloc | apply pw_below_drewN | apply below_drew1) | exact HB.out)) hb); clear HO_4; clear HB; have HO_4 := n0_; have HO258 := n1_; have HB := n2_; clear n0_ n1_ n2_; (try clear hb); (try clear hb2); (try clear hk); (try clear hi); (try clear ho0); obtain ⟨Ao12, co12, eo12⟩ := Kd.R_slice HO258.out; subst eo12; have p259 : 0 ≤ (x7_1 : Int) := of_decide_eq_true (by first | (with_reducible assumption) | assumption); have q259 : x7_1 < (l0.length : Int) := of_decide_eq_true (by first | (with_reducible assumption) | assumption); obtain ⟨ad259, e259, hx259_0, hx259_1⟩ := at_T31 HR0.out x7_1 p259 q259; cases e259; replace hx259_0 := (HB.out.cell (World.block_lt_of_cell? w _ hx259_0)).trans hx259_0; replace hx259_1 := (HB.out.cell (World.block_lt_of_cell? w _ hx259_1)).trans hx259_1; replace p259 := eq_true p259; replace q259 := eq_true q259))
              go_roundg k1
              case measure => have := HK1.out; omega
              case rel => exact ⟨(ji9), (wrap64 (x7_1 + 1)), (by first | rfl | (simp; done) | (simp only [← hji9] <;> (first | rfl | simp)) | (simp [*]; done)), (by first | rfl | (simp; done) | (simp [*]; done)), (by first | exact H' | exact ⟨by rw [hji9]; exact H'.out⟩ | exact ⟨by simp only [hji9]; exact H'.out⟩), ⟨by have := HK1.out; omega⟩, ⟨by (with_reducible repeat (first | apply Kd.R_alloc | apply Kd.R_drewN | apply Kd.R_drew)); exact Kd.R_mono HO_4.out (fun _ hk => trivial)⟩, ⟨by repeat (first | (with_reducible first | exact HB.out | apply below_alloc | apply pw_below_drewN | apply below_drew1) | exact HB.out)⟩⟩
            · rw [if_neg c8] at H
              have c8b0 : (((rd_T31 l0 x7_1).f0) == 48) = false := beq_eq_false_iff_ne.mpr c8
              have c8b1 : (((rd_T31 l0 x7_1).f0) != 48) = true := bne_iff_ne.mpr c8
              by_cases c13 : ((rd_T31 l0 x7_1).f0) = 51
              · rw [if_pos c13] at H
                have c13b0 : (((rd_T31 l0 x7_1).f0) == 51) = true := beq_iff_eq.mpr c13
                have c13b1 : (((rd_T31 l0 x7_1).f0) != 51) = false := bne_eq_false_iff_eq.mpr c13
                clear c13
                obtain ⟨ji14, hji14⟩ : ∃ j_ : Int, (mx x6_1 (wrap64 ((t256.length : Int) + 1))) = j_ := ⟨_, rfl⟩
                replace H : (weighhouseref06_Depth.l0 k1 l0 t252 ji14 (wrap64 (x7_1 + 1))) = some (r1, r2) := by first | (rw [hji14] at H; exact H) | (simp only [hji14] at H ⊢; exact H)
                (try rw [hji14] at A6)
                have hji14_ : (if x6_1 < (wrap64 ((t256.length : Int) + 1)) then (wrap64 ((t256.length : Int) + 1)) else x6_1) = ji14 := hji14
                have H' := Aside0.mk H
                clear H
                obtain ⟨Ao15, co15, eo15⟩ := Kd.R_slice HO_4.out
                subst eo15
                go_wp2_with (first | ((with_reducible refine gate_callee (f := 24) rfl ?_); refine goesL_ (some 26) rfl rfl Try.func24 (by kernel_rfl) rfl #[.slice A0 l0.length c0, .slice Ao15 t252.length co15, .int .i64 x7_1] rfl (by (try simp only [List.map_toArray, List.map_cons, List.map_nil]); first | done | rfl | (simp only [List.length_drop, List.length_take]; rfl)) ?_; (with_reducible refine (weighhouseref06_opened.calls k1 _ _ l0 _ _ t252 x7_1 t256 _ ?side1 ?side2 ?side3 ?side4 A6.out).mono ?_); (case side1 => repeat (first | exact (Kd.C_below HR0.out HB.out) | (with_reducible refine Kd.C_alloc ?_ _) | (with_reducible refine Kd.C_drewN ?_ _) | (with_reducible refine Kd.C_drew ?_))); (case side2 => exact HC0.out); (case side3 => repeat (first | exact (Kd.R_reads' HO_4.out).2.2 | (with_reducible refine Kd.C_alloc ?_ _) | (with_reducible refine Kd.C_drewN ?_ _) | (with_reducible refine Kd.C_drew ?_))); (case side4 => exact (Kd.R_reads' HO_4.out).2.1); rintro e w16 ⟨v257, rfl, ho0, hb⟩; refine ⟨_, rfl, ?_⟩; have n0_ := Aside0.mk (Kd.R_elder' (by (with_reducible repeat (first | apply Kd.R_alloc | apply Kd.R_drewN | apply Kd.R_drew)); exact HO_4.out) (Kd.R_base ho0) hb); have n1_ := Aside0.mk (Kd.R_lower (Kd.R_new' ho0 (Kd.R_lt (by (with_reducible repeat (first | apply Kd.R_alloc | apply Kd.R_drewN | apply Kd.R_drew)); exact HO_4.out))) (below_size (by repeat (first | (with_reducible first | exact HB.out | apply below_alloc | apply pw_below_drewN | apply below_drew1) | exact HB.out)))); have n2_ := Aside0.mk (below_step (by repeat (first | (with_reducible first | exact HB.out | apply below_alloc | apply pw_below_drewN | apply below_drew1) | exact HB.out)) hb); clear HO_4; clear HB; have HO_4 := n0_; have HO258 := n1_; have HB := n2_; clear n0_ n1_ n2_; (try clear hb); (try clear hb2); (try clear hk); (try clear hi); (try clear ho0); obtain ⟨Ao17, co17, eo17⟩ := Kd.R_slice HO258.out; subst eo17; have p259 : 0 ≤ (x7_1 : Int) := of_decide_eq_true (by first | (with_reducible assumption) | assumption); have q259 : x7_1 < (l0.length : Int) := of_decide_eq_true (by first | (with_reducible assumption) | assumption); obtain ⟨ad259, e259, hx259_0, hx259_1⟩ := at_T31 HR0.out x7_1 p259 q259; cases e259; replace hx259_0 := (HB.out.cell (World.block_lt_of_cell? w _ hx259_0)).trans hx259_0; replace hx259_1 := (HB.out.cell (World.block_lt_of_cell? w _ hx259_1)).trans hx259_1; replace p259 := eq_true p259; replace q259 := eq_true q259; have p260 : 0 ≤ (x7_1 : Int) := of_decide_eq_true (by first | (with_reducible assumption) | assumption); have q260 : x7_1 < (l0.length : Int) := of_decide_eq_true (by first | (with_reducible assumption) | assumption); obtain ⟨ad260, e260, hx260_0, hx260_1⟩ := at_T31 HR0.out x7_1 p260 q260; obtain rfl : ad259 = ad260 := (by injection e260); replace hx260_0 := (HB.out.cell (World.block_lt_of_cell? w _ hx260_0)).trans hx260_0; replace hx260_1 := (HB.out.cell (World.block_lt_of_cell? w _ hx260_1)).trans hx260_1; replace p260 := eq_true p260; replace q260 := eq_true q260))
                go_roundg k1
                case measure => have := HK1.out; omega
                case rel => exact ⟨(ji14), (wrap64 (x7_1 + 1)), (by first | rfl | (simp; done) | (simp only [← hji14] <;> (first | rfl | simp)) | (simp [*]; done)), (by first | rfl | (simp; done) | (simp [*]; done)), (by first | exact H' | exact ⟨by rw [hji14]; exact H'.out⟩ | exact ⟨by simp only [hji14]; exact H'.out⟩), ⟨by have := HK1.out; omega⟩, ⟨by (with_reducible repeat (first | apply Kd.R_alloc | apply Kd.R_drewN | apply Kd.R_drew)); exact Kd.R_mono HO_4.out (fun _ hk => trivial)⟩, ⟨by repeat (first | (with_reducible first | exact HB.out | apply below_alloc | apply pw_below_drewN | apply below_drew1) | exact HB.out)⟩⟩
              · rw [if_neg c13] at H
                have c13b0 : (((rd_T31 l0 x7_1).f0) == 51) = false := beq_eq_false_iff_ne.mpr c13
                have c13b1 : (((rd_T31 l0 x7_1).f0) != 51) = true := bne_iff_ne.mpr c13
                obtain ⟨ji18, hji18⟩ : ∃ j_ : Int, (mx x6_1 (t256.length : Int)) = j_ := ⟨_, rfl⟩
                replace H : (weighhouseref06_Depth.l0 k1 l0 t252 ji18 (wrap64 (x7_1 + 1))) = some (r1, r2) := by first | (rw [hji18] at H; exact H) | (simp only [hji18] at H ⊢; exact H)
                (try rw [hji18] at A6)
                have hji18_ : (if x6_1 < (t256.length : Int) then (t256.length : Int) else x6_1) = ji18 := hji18
                have H' := Aside0.mk H
                clear H
                obtain ⟨Ao19, co19, eo19⟩ := Kd.R_slice HO_4.out
                subst eo19
                go_wp2_with (first | ((with_reducible refine gate_callee (f := 24) rfl ?_); refine goesL_ (some 26) rfl rfl Try.func24 (by kernel_rfl) rfl #[.slice A0 l0.length c0, .slice Ao19 t252.length co19, .int .i64 x7_1] rfl (by (try simp only [List.map_toArray, List.map_cons, List.map_nil]); first | done | rfl | (simp only [List.length_drop, List.length_take]; rfl)) ?_; (with_reducible refine (weighhouseref06_opened.calls k1 _ _ l0 _ _ t252 x7_1 t256 _ ?side1 ?side2 ?side3 ?side4 A6.out).mono ?_); (case side1 => repeat (first | exact (Kd.C_below HR0.out HB.out) | (with_reducible refine Kd.C_alloc ?_ _) | (with_reducible refine Kd.C_drewN ?_ _) | (with_reducible refine Kd.C_drew ?_))); (case side2 => exact HC0.out); (case side3 => repeat (first | exact (Kd.R_reads' HO_4.out).2.2 | (with_reducible refine Kd.C_alloc ?_ _) | (with_reducible refine Kd.C_drewN ?_ _) | (with_reducible refine Kd.C_drew ?_))); (case side4 => exact (Kd.R_reads' HO_4.out).2.1); rintro e w20 ⟨v257, rfl, ho0, hb⟩; refine ⟨_, rfl, ?_⟩; have n0_ := Aside0.mk (Kd.R_elder' (by (with_reducible repeat (first | apply Kd.R_alloc | apply Kd.R_drewN | apply Kd.R_drew)); exact HO_4.out) (Kd.R_base ho0) hb); have n1_ := Aside0.mk (Kd.R_lower (Kd.R_new' ho0 (Kd.R_lt (by (with_reducible repeat (first | apply Kd.R_alloc | apply Kd.R_drewN | apply Kd.R_drew)); exact HO_4.out))) (below_size (by repeat (first | (with_reducible first | exact HB.out | apply below_alloc | apply pw_below_drewN | apply below_drew1) | exact HB.out)))); have n2_ := Aside0.mk (below_step (by repeat (first | (with_reducible first | exact HB.out | apply below_alloc | apply pw_below_drewN | apply below_drew1) | exact HB.out)) hb); clear HO_4; clear HB; have HO_4 := n0_; have HO258 := n1_; have HB := n2_; clear n0_ n1_ n2_; (try clear hb); (try clear hb2); (try clear hk); (try clear hi); (try clear ho0); obtain ⟨Ao21, co21, eo21⟩ := Kd.R_slice HO258.out; subst eo21; have p259 : 0 ≤ (x7_1 : Int) := of_decide_eq_true (by first | (with_reducible assumption) | assumption); have q259 : x7_1 < (l0.length : Int) := of_decide_eq_true (by first | (with_reducible assumption) | assumption); obtain ⟨ad259, e259, hx259_0, hx259_1⟩ := at_T31 HR0.out x7_1 p259 q259; cases e259; replace hx259_0 := (HB.out.cell (World.block_lt_of_cell? w _ hx259_0)).trans hx259_0; replace hx259_1 := (HB.out.cell (World.block_lt_of_cell? w _ hx259_1)).trans hx259_1; replace p259 := eq_true p259; replace q259 := eq_true q259; have p260 : 0 ≤ (x7_1 : Int) := of_decide_eq_true (by first | (with_reducible assumption) | assumption); have q260 : x7_1 < (l0.length : Int) := of_decide_eq_true (by first | (with_reducible assumption) | assumption); obtain ⟨ad260, e260, hx260_0, hx260_1⟩ := at_T31 HR0.out x7_1 p260 q260; obtain rfl : ad259 = ad260 := (by injection e260); replace hx260_0 := (HB.out.cell (World.block_lt_of_cell? w _ hx260_0)).trans hx260_0; replace hx260_1 := (HB.out.cell (World.block_lt_of_cell? w _ hx260_1)).trans hx260_1; replace p260 := eq_true p260; replace q260 := eq_true q260))
                go_roundg k1
                case measure => have := HK1.out; omega
                case rel => exact ⟨(ji18), (wrap64 (x7_1 + 1)), (by first | rfl | (simp; done) | (simp only [← hji18] <;> (first | rfl | simp)) | (simp [*]; done)), (by first | rfl | (simp; done) | (simp [*]; done)), (by first | exact H' | exact ⟨by rw [hji18]; exact H'.out⟩ | exact ⟨by simp only [hji18]; exact H'.out⟩), ⟨by have := HK1.out; omega⟩, ⟨by (with_reducible repeat (first | apply Kd.R_alloc | apply Kd.R_drewN | apply Kd.R_drew)); exact Kd.R_mono HO_4.out (fun _ hk => trivial)⟩, ⟨by repeat (first | (with_reducible first | exact HB.out | apply below_alloc | apply pw_below_drewN | apply below_drew1) | exact HB.out)⟩⟩
          · rw [if_neg c7] at H
            exact absurd H (by simp)
        · rw [if_neg c5] at H
          have c5b0 : decide (x7_1 < (l0.length : Int)) = false := decide_eq_false c5
          clear c5
          simp only [Option.some.injEq, Prod.mk.injEq] at H
          obtain ⟨rfl, rfl⟩ := H
          go_wp2
          go_ret2
          exact ⟨by first | rfl | (simp [errW_none, errW_some] <;> rfl) | (simp [*, errW_none, errW_some] <;> rfl), by repeat (first | (with_reducible first | exact HB.out | apply below_alloc | apply pw_below_drewN | apply below_drew1) | exact HB.out)⟩
  · rw [if_neg c3] at H
    have c3b0 : (t253 == 0) = false := beq_eq_false_iff_ne.mpr c3
    have c3b1 : (t253 != 0) = true := bne_iff_ne.mpr c3
    simp only [Option.some.injEq, Prod.mk.injEq] at H
    obtain ⟨rfl, rfl⟩ := H
    go_enter Try.func17, Try.ntmps17
    go_wp2_with (first | ((with_reducible refine gate_callee (f := 15) rfl ?_); refine goesL_ (some 11) rfl rfl Try.func15 (by kernel_rfl) rfl #[.slice A0 l0.length c0] rfl (by (try simp only [List.map_toArray, List.map_cons, List.map_nil]); first | done | rfl | (simp only [List.length_drop, List.length_take]; rfl)) ?_; (with_reducible refine (weighhouseref06_Match.calls k _ _ l0 t252 t253 _ ?side1 ?side2 A2.out).mono ?_); (case side1 => repeat (first | exact HR0.out | (with_reducible refine Kd.C_alloc ?_ _) | (with_reducible refine Kd.C_drewN ?_ _) | (with_reducible refine Kd.C_drew ?_))); (case side2 => exact HC0.out); rintro e w22 ⟨v254, rfl, ho0, hb⟩; refine ⟨_, rfl, ?_⟩; have n0_ := Aside0.mk (Kd.R_lower ho0 (below_size (by repeat (first | (with_reducible first | exact HB.out | apply below_alloc | apply pw_below_drewN | apply below_drew1) | exact HB.out)))); have n1_ := Aside0.mk (below_step (by repeat (first | (with_reducible first | exact HB.out | apply below_alloc | apply pw_below_drewN | apply below_drew1) | exact HB.out)) hb); clear HB; have HO255 := n0_; have HB := n1_; clear n0_ n1_; (try clear hb); (try clear hb2); (try clear hk); (try clear hi); (try clear ho0)))
    go_ret2
    exact ⟨by first | rfl | (simp [errW_none, errW_some] <;> rfl) | (simp [*, errW_none, errW_some] <;> rfl), by repeat (first | (with_reducible first | exact HB.out | apply below_alloc | apply pw_below_drewN | apply below_drew1) | exact HB.out)⟩

end Go.Proofs.Ytbdmbkmokhaflaa.Q
end

section
/- layer 6: the document's answer, its last round, and that both answers are the same -/
set_option linter.unusedVariables false
set_option linter.unusedSimpArgs false
namespace Go.Proofs.Ytbdmbkmokhaflaa.Th
open Go.RowKit Go.Proofs.YtbdmbkmokhaflaaW.PrintWords Go.Proofs.YtbdmbkmokhaflaaW.Hb
open Go.Shape6 Go.Proofs.Ytbdmbkmokhaflaa.Q

/-- All blocks close. -/
def H1 (cs : List Ins) : Prop := ∀ a, a < cs.length → isOp (opc cs a) = true → 0 ≤ (xe cs a).2
theorem H1.fin {cs : List Ins} (h : H1 cs) {a : Nat} (ha : a < cs.length) (ho : isOp (opc cs a) = true) : ∃ (x : Int) (e : Nat), cl (opc cs) a cs.length = .fin x e ∧ xe cs a = (x, (e : Int)) := xe_ok ha (h a ha ho)
structure PB (cs : List Ins) (i : Nat) (m : List Int) : Prop where
  b1 : ∀ (a : Nat) (x : Int) (e : Nat), a < i → isOp (opc cs a) = true → cl (opc cs) a cs.length = .fin x e → m[a]? = some (if 0 ≤ x then x else (e : Int)) ∧ m[e]? = some (a : Int) ∧ (0 ≤ x → m[x.toNat]? = some (e : Int))
  b2 : ∀ k, k < cs.length → (k < i → isOp (opc cs k) = false) → (∀ (a : Nat) (x : Int) (e : Nat), a < i → isOp (opc cs a) = true → cl (opc cs) a cs.length = .fin x e → e ≠ k ∧ x ≠ (k : Int)) → m[k]? = some (-1)
theorem end_inj {cs : List Ins} {a b : Nat} {x y : Int} {e : Nat} (ha : a < cs.length) (hb : b < cs.length) (hoa : isOp (opc cs a) = true) (hob : isOp (opc cs b) = true) (h1 : cl (opc cs) a cs.length = .fin x e) (h2 : cl (opc cs) b cs.length = .fin y e) : a = b := by
  have p1 := cl_end ha x e h1
  have p2 := cl_end hb y e h2
  exact run0_inj hoa hob p1.1 p2.1 p1.2.2 p2.2.2
theorem else_inj {cs : List Ins} {a b : Nat} {x : Nat} {e f : Nat} (ha : a < cs.length) (hb : b < cs.length) (hoa : isOp (opc cs a) = true) (hob : isOp (opc cs b) = true) (h1 : cl (opc cs) a cs.length = .fin x e) (h2 : cl (opc cs) b cs.length = .fin x f) : a = b := by
  have p1 := (cl_else ha).2 x e (by omega) h1
  have p2 := (cl_else hb).2 x f (by omega) h2
  exact run0_inj hoa hob p1.1 p2.1 p1.2.2 p2.2.2
theorem PB_ok {cs : List Ins} (hH : H1 cs) (i : Nat) (hi : i ≤ cs.length) : PB cs i (mB cs i) := by
  induction i with
  | zero =>
    exact ⟨fun a x e ha => absurd ha (Nat.not_lt_zero a), fun k hk _ _ => by
      show (List.replicate cs.length (-1 : Int))[k]? = some (-1)
      rw [List.getElem?_replicate, if_pos hk]⟩
  | succ i ih =>
    have hI := ih (by omega)
    have hlen := mB_len cs i
    show PB cs (i + 1) (mBs cs i (mB cs i))
    by_cases ho : opc cs i = 48 ∨ opc cs i = 51
    · have hop := isOp_iff.2 ho
      obtain ⟨x0, e0, hc0, hxe⟩ := hH.fin (by omega) hop
      obtain ⟨f1, f2, f3, f4⟩ := fin_facts (by omega : i < cs.length) hc0
      have hmb : mBs cs i (mB cs i) = if 0 ≤ x0 then ((((mB cs i).set i (e0 : Int)).set e0 (i : Int)).set i x0).set x0.toNat (e0 : Int) else ((mB cs i).set i (e0 : Int)).set e0 (i : Int) := by
        unfold mBs
        rw [if_pos hop, hxe]
        simp only [Int.toNat_natCast]
      have hfar : ∀ k, k ≠ i → k ≠ e0 → (0 ≤ x0 → k ≠ x0.toNat) → (mBs cs i (mB cs i))[k]? = (mB cs i)[k]? := by
        intro k k1 k2 k3
        rw [hmb]
        split
        · rename_i hx
          rw [List.getElem?_set_ne (fun e => k3 hx e.symm), List.getElem?_set_ne (fun e => k1 e.symm), List.getElem?_set_ne (fun e => k2 e.symm), List.getElem?_set_ne (fun e => k1 e.symm)]
        · rw [List.getElem?_set_ne (fun e => k2 e.symm), List.getElem?_set_ne (fun e => k1 e.symm)]
      have hati : (mBs cs i (mB cs i))[i]? = some (if 0 ≤ x0 then x0 else (e0 : Int)) := by
        rw [hmb]
        split
        · rename_i hx
          rcases f4 with f4 | ⟨f4, f5, f6, f7⟩
          · omega
          · rw [List.getElem?_set_ne (by omega), List.getElem?_set_self (by simp; omega)]
        · rw [List.getElem?_set_ne (by omega), List.getElem?_set_self (by omega)]
      have hate : (mBs cs i (mB cs i))[e0]? = some (i : Int) := by
        rw [hmb]
        split
        · rename_i hx
          rcases f4 with f4 | ⟨f4, f5, f6, f7⟩
          · omega
          · rw [List.getElem?_set_ne (by omega), List.getElem?_set_ne (by omega), List.getElem?_set_self (by simp; omega)]
        · rw [List.getElem?_set_self (by simp; omega)]
      have hatx : 0 ≤ x0 → (mBs cs i (mB cs i))[x0.toNat]? = some (e0 : Int) := fun hx => by
        rw [hmb, if_pos hx, List.getElem?_set_self (by simp; omega)]
      refine ⟨fun a x e ha hoa hc => ?_, fun k hk hk1 hk2 => ?_⟩
      · have hoa2 := isOp_iff.1 hoa
        by_cases hai : a = i
        · subst hai
          rw [hc0] at hc
          injection hc with g1 g2
          have g3 : e = e0 := by omega
          subst g1 g3
          exact ⟨hati, hate, hatx⟩
        · obtain ⟨g1, g2, g3⟩ := hI.b1 a x e (by omega) hoa hc
          obtain ⟨d1, d2, d3, d4⟩ := fin_facts (by omega : a < cs.length) hc
          have hee : e ≠ e0 := fun h => by
            subst h
            exact hai (end_inj (by omega) (by omega) hoa hop hc hc0)
          have hx9 : 0 ≤ x0 → opc cs x0.toNat = 49 := fun hx => by
            rcases f4 with f4 | ⟨f4, f5, f6, f7⟩
            · omega
            · exact f6
          refine ⟨?_, ?_, fun hx => ?_⟩
          · rw [hfar a hai (fun h => by rw [h] at hoa2; omega) (fun hx h => by have := hx9 hx; rw [← h] at this; omega)]
            exact g1
          · rw [hfar e (fun h => by rw [h] at d3; omega) hee (fun hx h => by have := hx9 hx; rw [← h] at this; omega)]
            exact g2
          · rcases d4 with d4 | ⟨d4, d5, d6, d7⟩
            · omega
            · rw [hfar x.toNat (fun h => by rw [h] at d6; omega) (fun h => by rw [h] at d6; omega) (fun hx' h => by
                refine hai (else_inj (x := x.toNat) (e := e) (f := e0) (by omega) (by omega) hoa hop (by rw [Int.toNat_of_nonneg hx]; exact hc) (by rw [h, Int.toNat_of_nonneg hx']; exact hc0)))]
              exact g3 hx
      · have hki : k ≠ i := fun h => by
          subst h
          have := hk1 (by omega)
          rw [hop] at this
          cases this
        have h0 := hk2 i x0 e0 (by omega) hop hc0
        rw [hfar k hki (fun h => h0.1 h.symm) (fun hx h => h0.2 (by omega))]
        exact hI.b2 k hk (fun h => hk1 (by omega)) (fun a x e ha hoa hc => hk2 a x e (by omega) hoa hc)
    · have hno := isOp_not ho
      have e1 : mBs cs i (mB cs i) = mB cs i := by
        unfold mBs
        rw [hno, if_neg (by decide)]
      rw [e1]
      refine ⟨fun a x e ha hoa hc => ?_, fun k hk hk1 hk2 => ?_⟩
      · by_cases hai : a = i
        · subst hai
          rw [hno] at hoa
          cases hoa
        · exact hI.b1 a x e (by omega) hoa hc
      · exact hI.b2 k hk (fun h => hk1 (by omega)) (fun a x e ha hoa hc => hk2 a x e (by omega) hoa hc)
theorem rd_get {l : List Int} {k : Nat} {v : Int} (h : l[k]? = some v) : rd l (k : Int) = v := by
  have hk := lt_of_get h
  rw [rdN l k hk]
  rw [List.getElem?_eq_getElem hk] at h
  exact Option.some.inj h
/-- Elses and ends belong to blocks, when the check passes. -/
theorem H2_of {cs : List Ins} (hH : H1 cs) (hC : ∀ k, k < cs.length → ¬ bad cs (mB cs cs.length) k) {k : Nat} (hk : k < cs.length) (ho : opc cs k = 49 ∨ opc cs k = 50) : ∃ (a : Nat) (x : Int) (e : Nat), a < cs.length ∧ isOp (opc cs a) = true ∧ cl (opc cs) a cs.length = .fin x e ∧ ((opc cs k = 49 ∧ x = (k : Int)) ∨ (opc cs k = 50 ∧ e = k)) := by
  refine Classical.byContradiction fun hn => ?_
  have hP := PB_ok hH cs.length (Nat.le_refl _)
  have hb := hP.b2 k hk (fun _ => isOp_not (by omega)) (fun a x e ha hoa hc => ⟨fun he => ?_, fun hx => ?_⟩)
  · exact hC k hk ⟨ho, by rw [rd_get hb]; decide⟩
  · obtain ⟨d1, d2, d3, d4⟩ := fin_facts ha hc
    subst he
    exact hn ⟨a, x, e, ha, hoa, hc, .inr ⟨d3, rfl⟩⟩
  · obtain ⟨d1, d2, d3, d4⟩ := fin_facts ha hc
    rcases d4 with d4 | ⟨d4, d5, d6, d7⟩
    · omega
    · rw [hx, Int.toNat_natCast] at d6
      exact hn ⟨a, x, e, ha, hoa, hc, .inl ⟨d6, hx⟩⟩
/-- Where the scan stops while all blocks close. -/
theorem step_fail {cs : List Ins} (hH : H1 cs) (hC : ∀ k, k < cs.length → ¬ bad cs (mB cs cs.length) k) {i : Nat} (hi : i < cs.length) {m : List Int} {fs : List Fr} (h : scanTo cs i = some (m, fs)) (hs : scanStep cs i m fs = none) :
    (isOp (opc cs i) = true ∧ 8 ≤ fs.length) ∨ (opc cs i = 52 ∧ topLoop cs (fs.map Fr.a) = none) := by
  have hL := scan_L1 h
  have htop : ∀ a x, a < i → isOp (opc cs a) = true → cl (opc cs) a i = .run 0 x → ∃ b, fs.getLast? = some b ∧ b.a = a ∧ b.o = x := by
    intro a x ha hoa hc
    obtain ⟨j, hj, hd⟩ := hL.run_ ha hoa hc
    have hl := lt_of_get hj
    rw [List.getElem?_map] at hj
    obtain ⟨b, hb, hbe⟩ := Option.map_eq_some_iff.1 hj
    rw [List.length_map] at hl hd
    refine ⟨b, ?_, by have := congrArg Prod.fst hbe; exact this, by have := congrArg Prod.snd hbe; exact this⟩
    rw [List.getLast?_eq_getElem?, show fs.length - 1 = j by omega]
    exact hb
  unfold scanStep at hs
  split at hs
  · rename_i ho
    split at hs
    · cases hs
    · exact .inl ⟨isOp_iff.2 ho, by omega⟩
  · rename_i ho
    split at hs
    · rename_i h9
      exfalso
      obtain ⟨a, x, e, h1, h2, h3, h4⟩ := H2_of hH hC hi (.inl h9)
      have h9 : opc cs i = 49 := h9
      rcases h4 with ⟨_, h4⟩ | ⟨h4, _⟩
      · subst h4
        have p := (cl_else h1).2 i e (by omega) h3
        obtain ⟨b, hb, hba, hbo⟩ := htop a (-1) p.1 h2 p.2.2
        obtain ⟨d1, d2, d3, d4⟩ := fin_facts h1 h3
        rw [hb] at hs
        dsimp only at hs
        rw [if_neg (by
          rintro (hh | hh)
          · omega
          · apply hh
            rw [hba]
            rcases d4 with d4 | d4
            · omega
            · exact d4.2.2.2)] at hs
        cases hs
      · omega
    · rename_i h9
      split at hs
      · rename_i h0
        exfalso
        have h0 : opc cs i = 50 := h0
        obtain ⟨a, x, e, h1, h2, h3, h4⟩ := H2_of hH hC hi (.inr h0)
        rcases h4 with ⟨h4, _⟩ | ⟨_, h4⟩
        · omega
        · subst h4
          have p := cl_end h1 x e h3
          obtain ⟨b, hb, _⟩ := htop a x p.1 h2 p.2.2
          rw [hb] at hs
          cases hs
      · split at hs
        · rename_i h52
          split at hs
          · rename_i ht
            exact .inr ⟨h52, ht⟩
          · cases hs
        · cases hs
/-- What holds when the scan ends well. -/
theorem scan_good {cs : List Ins} {m : List Int} {fs : List Fr} (h : scanTo cs cs.length = some (m, fs)) (hl : fs.length = 0) : H1 cs ∧ ∀ k, k < cs.length → ¬ bad cs (mB cs cs.length) k := by
  have hfs : fs = [] := List.eq_nil_of_length_eq_zero hl
  subst hfs
  have hL := scan_L1 h
  have hH : H1 cs := by
    intro a ha ho
    obtain ⟨x, e, h1, h2⟩ := hL.cl_ a ha ho (fun j x hj => by simp at hj)
    rw [xe_of h1]
    exact h2
  refine ⟨hH, fun k hk hb => ?_⟩
  have hP := PB_ok hH cs.length (Nat.le_refl _)
  rcases hb with ⟨h9 | h0, hlt⟩
  · obtain ⟨a, h1, h2, h3⟩ := hL.el k hk h9
    rcases h3 with ⟨d, h3⟩ | ⟨e, h3, h4⟩
    · obtain ⟨j, hj, _⟩ := hL.run_ (by omega) h2 h3
      simp at hj
    · obtain ⟨n, rfl⟩ := Int.eq_ofNat_of_zero_le h4
      have g := (hP.b1 a k n (by omega) h2 h3).2.2 (by omega)
      rw [Int.toNat_natCast] at g
      rw [rd_get g] at hlt
      omega
  · obtain ⟨a, h1, h2, x, h3⟩ := hL.en k hk h0
    have g := (hP.b1 a x k (by omega) h2 h3).2.1
    rw [rd_get g] at hlt
    omega
theorem all_closed {cs : List Ins} (hH : H1 cs) {m : List Int} {fs : List Fr} (h : scanTo cs cs.length = some (m, fs)) : fs.length = 0 := by
  refine Classical.byContradiction fun hn => ?_
  have hL := scan_L1 h
  have hj : (fs.map pr)[0]? = some ((fs[0]'(by omega)).a, (fs[0]'(by omega)).o) := by
    rw [List.getElem?_map, List.getElem?_eq_getElem (by omega)]
    rfl
  obtain ⟨h1, h2, h3⟩ := hL.fr 0 _ _ hj
  obtain ⟨x, e, h4, _⟩ := hH.fin h1 h2
  rw [h3] at h4
  cases h4
end Go.Proofs.Ytbdmbkmokhaflaa.Th
end

section
/- layer 6: the document's last round over the scan: both Matches are the same -/
set_option linter.unusedVariables false
set_option linter.unusedSimpArgs false
namespace Go.Proofs.Ytbdmbkmokhaflaa.Th
open Go.RowKit Go.Proofs.YtbdmbkmokhaflaaW.PrintWords Go.Proofs.YtbdmbkmokhaflaaW.Hb
open Go.Shape6 Go.Proofs.Ytbdmbkmokhaflaa.Q

def isOpen (cs : List Ins) (i a : Nat) : Bool := isOp (opc cs a) && decide ((i : Int) ≤ (xe cs a).2)
def openL (cs : List Ins) (i : Nat) : List Nat := (List.range i).filter (isOpen cs i)
def toI (l : List Nat) : List Int := l.map (fun (n : Nat) => (n : Int))
structure DI (cs : List Ins) (i : Nat) (m : List Int) : Prop where
  len : m.length = cs.length
  nl : ∀ k, k < cs.length → opc cs k ≠ 52 → m[k]? = (mB cs cs.length)[k]?
  lt : ∀ k, k < i → opc cs k = 52 → ∃ (a : Nat) (x : Int) (e : Nat), Tgt cs k a ∧ cl (opc cs) a cs.length = .fin x e ∧ m[k]? = some (e : Int)
  ge : ∀ k, i ≤ k → k < cs.length → opc cs k = 52 → m[k]? = some (-1)
theorem DI.zero {cs : List Ins} (hH : H1 cs) : DI cs 0 (mB cs cs.length) := by
  refine ⟨mB_len _ _, fun _ _ _ => rfl, fun k hk => absurd hk (Nat.not_lt_zero k), fun k _ hk h52 => ?_⟩
  refine (PB_ok hH cs.length (Nat.le_refl _)).b2 k hk (fun _ => isOp_not (by omega)) (fun a x e ha hoa hc => ⟨fun h => ?_, fun h => ?_⟩)
  · obtain ⟨d1, d2, d3, d4⟩ := fin_facts ha hc
    rw [h] at d3
    omega
  · obtain ⟨d1, d2, d3, d4⟩ := fin_facts ha hc
    rcases d4 with d4 | ⟨d4, d5, d6, d7⟩
    · omega
    · rw [h, Int.toNat_natCast] at d6
      omega
theorem last_ev {cs : List Ins} {i : Nat} {m : List Int} (hH : H1 cs) (hD : DI cs i m) {a : Nat} (ha : a < cs.length) (ho : isOp (opc cs a) = true) : weighhouseref06_last.f cs m (a : Int) = some (xe cs a).2 := by
  obtain ⟨x, e, hc, hxe⟩ := hH.fin ha ho
  obtain ⟨d1, d2, d3, d4⟩ := fin_facts ha hc
  obtain ⟨g1, g2, g3⟩ := (PB_ok hH cs.length (Nat.le_refl _)).b1 a x e ha ho hc
  have hl := hD.len
  have ho2 := isOp_iff.1 ho
  rw [hxe]
  unfold weighhouseref06_last.f
  rw [if_pos (by omega), if_pos (by omega), rd_get ((hD.nl a ha (by omega)).trans g1)]
  by_cases hx : 0 ≤ x
  · rcases d4 with d4 | ⟨d4, d5, d6, d7⟩
    · omega
    · obtain ⟨n, rfl⟩ := Int.eq_ofNat_of_zero_le hx
      rw [Int.toNat_natCast] at d6 g3
      rw [if_pos hx, if_pos hx, if_pos (by omega), rdI cs n (by omega), if_pos d6, if_pos (by omega), rd_get ((hD.nl n (by omega) (by omega)).trans (g3 hx))]
  · rw [if_neg hx, if_pos (by omega), if_pos (by omega), rdI cs e (by omega), if_neg (by omega)]
theorem opened_l0 {cs : List Ins} (hm : cs.length ≤ 1048576) {i0 : Nat} {m : List Int} (hH : H1 cs) (hD : DI cs i0 m) (i : Nat) (hi : i ≤ cs.length) (q : Nat) : ∀ j, i - j = q → j ≤ i →
    Ev (fun k => weighhouseref06_opened.l0 k cs m (i : Int) (toI ((List.range j).filter (isOpen cs i))) (j : Int)) (toI (openL cs i)) := by
  induction q with
  | zero =>
    intro j hq hj
    have e : j = i := by omega
    subst e
    refine Ev.step (f := fun _ => some (toI (openL cs j))) (fun k => ?_) (Ev.now _)
    simp only [weighhouseref06_opened.l0]
    rw [if_neg (by omega)]
    rfl
  | succ q ih =>
    intro j hq hj
    have hjn : j < cs.length := by omega
    have hnext := ih (j + 1) (by omega) (by omega)
    rw [List.range_succ, List.filter_append] at hnext
    have hw : wrap64 ((j : Int) + 1) = ((j + 1 : Nat) : Int) := by rw [w64 (by omega) (by omega)]; rfl
    have hacc : (toI ((List.range j).filter (isOpen cs i))).length ≤ j := by
      unfold toI
      rw [List.length_map]
      exact Nat.le_trans (List.length_filter_le _ _) (by simp)
    refine Ev.step (fun k => ?_) hnext
    simp only [weighhouseref06_opened.l0]
    rw [if_pos (by omega), if_pos (by omega), if_pos (by omega), rdI cs j hjn, hw]
    by_cases ho : opc cs j = 48 ∨ opc cs j = 51
    · have hop := isOp_iff.2 ho
      rw [last_ev hH hD hjn hop]
      have hbr : ∀ X : Option (List Int), (if opc cs j = 48 then X else if opc cs j = 51 then X else (weighhouseref06_opened.l0 k cs m (i : Int) (toI ((List.range j).filter (isOpen cs i))) ((j + 1 : Nat) : Int))) = X := fun X => by
        rcases ho with h | h
        · rw [if_pos h]
        · rw [if_neg (by omega), if_pos h]
      rw [hbr, Option.bind_some]
      by_cases hge : (xe cs j).2 ≥ (i : Int)
      · have hf : isOpen cs i j = true := by unfold isOpen; rw [hop, decide_eq_true hge]; rfl
        rw [if_pos hge, if_pos (by omega)]
        congr 1
        simp [toI, hf]
      · have hf : isOpen cs i j = false := by unfold isOpen; rw [hop, decide_eq_false hge]; rfl
        rw [if_neg hge]
        congr 1
        simp [toI, hf]
    · have hf : isOpen cs i j = false := by unfold isOpen; rw [isOp_not ho]; rfl
      rw [if_neg (by omega), if_neg (by omega)]
      congr 1
      simp [toI, hf]
theorem opened_ev {cs : List Ins} (hm : cs.length ≤ 1048576) {i0 : Nat} {m : List Int} (hH : H1 cs) (hD : DI cs i0 m) (i : Nat) (hi : i ≤ cs.length) : Ev (fun k => weighhouseref06_opened.f k cs m (i : Int)) (toI (openL cs i)) :=
  opened_l0 hm hH hD i hi i 0 (by omega) (Nat.zero_le _)
theorem sorted_ext {l l' : List Nat} (h : l.Pairwise (· < ·)) (h' : l'.Pairwise (· < ·)) (he : ∀ x, x ∈ l ↔ x ∈ l') : l = l' := by
  induction l generalizing l' with
  | nil =>
    cases l' with
    | nil => rfl
    | cons y l' => exact absurd ((he y).2 (List.mem_cons_self ..)) (by simp)
  | cons x l ih =>
    cases l' with
    | nil => exact absurd ((he x).1 (List.mem_cons_self ..)) (by simp)
    | cons y l' =>
      obtain ⟨h1, h2⟩ := List.pairwise_cons.1 h
      obtain ⟨h3, h4⟩ := List.pairwise_cons.1 h'
      have exy : x = y := by
        rcases List.mem_cons.1 ((he x).1 (List.mem_cons_self ..)) with e | e
        · exact e
        · rcases List.mem_cons.1 ((he y).2 (List.mem_cons_self ..)) with e2 | e2
          · exact e2.symm
          · have := h3 x e
            have := h1 y e2
            omega
      subst exy
      congr 1
      refine ih h2 h4 (fun z => ⟨fun hz => ?_, fun hz => ?_⟩)
      · rcases List.mem_cons.1 ((he z).1 (List.mem_cons_of_mem _ hz)) with e | e
        · have := h1 z hz
          omega
        · exact e
      · rcases List.mem_cons.1 ((he z).2 (List.mem_cons_of_mem _ hz)) with e | e
        · have := h3 z hz
          omega
        · exact e
theorem openL_eq {cs : List Ins} (hH : H1 cs) {i : Nat} (hi : i ≤ cs.length) {m : List Int} {fs : List Fr} (h : scanTo cs i = some (m, fs)) : openL cs i = fs.map Fr.a := by
  have hL := scan_L1 h
  have hget : ∀ (j : Nat) (b : Fr), fs[j]? = some b → (fs.map pr)[j]? = some (b.a, b.o) := fun j b hb => by rw [List.getElem?_map, hb]; rfl
  refine sorted_ext ?_ ?_ (fun a => ?_)
  · exact List.Pairwise.filter _ List.pairwise_lt_range
  · rw [List.pairwise_iff_getElem]
    intro j j' hj hj' hjj
    rw [List.getElem_map, List.getElem_map]
    rw [List.length_map] at hj hj'
    exact hL.up j j' _ _ _ _ hjj (hget j _ (List.getElem?_eq_getElem hj)) (hget j' _ (List.getElem?_eq_getElem hj'))
  · unfold openL isOpen
    rw [List.mem_filter, List.mem_range, Bool.and_eq_true, decide_eq_true_iff, List.mem_map]
    constructor
    · rintro ⟨ha, hop, he⟩
      obtain ⟨x, e, hc, hxe⟩ := hH.fin (by omega) hop
      rw [hxe] at he
      have he : (i : Int) ≤ (e : Int) := he
      refine Classical.byContradiction fun hn => ?_
      obtain ⟨y, f, hf, hf0⟩ := hL.cl_ a ha hop (fun j x' hj => by
        rw [List.getElem?_map] at hj
        obtain ⟨b, hb, hbe⟩ := Option.map_eq_some_iff.1 hj
        exact hn ⟨b, List.mem_of_getElem? hb, congrArg Prod.fst hbe⟩)
      obtain ⟨f', rfl⟩ := Int.eq_ofNat_of_zero_le hf0
      have h2 := cl_fin_mono hf ha hi
      rw [hc] at h2
      injection h2 with h3 h4
      have := (cl_end ha y f' hf).2.1
      omega
    · rintro ⟨b, hb, hba⟩
      obtain ⟨j, hj, hje⟩ := List.getElem_of_mem hb
      obtain ⟨f1, f2, f3⟩ := hL.fr j b.a b.o (hget j b (by rw [List.getElem?_eq_getElem hj, hje]))
      rw [hba] at f1 f2 f3
      obtain ⟨x, e, hc, hxe⟩ := hH.fin (by omega) f2
      refine ⟨f1, f2, ?_⟩
      rw [hxe]
      show (i : Int) ≤ (e : Int)
      rcases Nat.lt_or_ge e i with hlt | hge
      · have p := cl_end (by omega) x e hc
        have h4 : cl (opc cs) a (e + 1) = .fin x e := by
          have q1 := cl_succ (opc cs) a e p.1
          rw [p.2.2] at q1
          obtain ⟨d1, d2, d3, d4⟩ := fin_facts (by omega : a < cs.length) hc
          unfold clS at q1
          dsimp only at q1
          rw [isOp_not (by omega), if_neg (by decide), if_neg (by omega), if_pos d3, if_pos rfl] at q1
          exact q1
        have h5 := cl_fin_mono h4 (by omega) (by omega : e + 1 ≤ i)
        rw [f3] at h5
        cases h5
      · omega
def lastLoop (cs : List Ins) (l : List Nat) : Option Nat := l.reverse.find? (fun a => opc cs a == 51)
def vL (cs : List Ins) (l : List Nat) : Int := match lastLoop cs l with | none => -1 | some a => (xe cs a).2
theorem lastLoop_snoc (cs : List Ins) (l : List Nat) (a : Nat) : lastLoop cs (l ++ [a]) = if opc cs a = 51 then some a else lastLoop cs l := by
  unfold lastLoop
  rw [List.reverse_append, List.reverse_singleton, List.singleton_append, List.find?_cons]
  by_cases h : opc cs a = 51
  · rw [if_pos h, h]
    rfl
  · rw [if_neg h, show (opc cs a == 51) = false by simp; exact h]
theorem loopAt_iff {cs : List Ins} {ats : List Nat} {j : Nat} (hj : j < ats.length) : loopAt cs ats j = (opc cs ats[j] == 51) := by
  unfold loopAt
  rw [List.getElem?_eq_getElem hj, Option.getD_some]
  show decide (opc cs ats[j] = 51) = _
  rw [Bool.beq_eq_decide_eq]
theorem topLoop_last (cs : List Ins) (ats : List Nat) : (topLoop cs ats = none → lastLoop cs ats = none) ∧ ∀ j, topLoop cs ats = some j → ∃ h : j < ats.length, lastLoop cs ats = some ats[j] := by
  constructor
  · intro h
    unfold lastLoop
    rw [List.find?_eq_none]
    intro a ha
    rw [List.mem_reverse] at ha
    obtain ⟨j, hj, rfl⟩ := List.getElem_of_mem ha
    unfold topLoop at h
    rw [List.find?_eq_none] at h
    have := h j (by rw [List.mem_reverse, List.mem_range]; exact hj)
    rw [loopAt_iff hj] at this
    exact this
  · intro j h
    have hj := topLoop_lt h
    refine ⟨hj, ?_⟩
    unfold topLoop at h
    rw [List.find?_eq_some_iff_append] at h
    obtain ⟨h1, pre, bs, h2, h3⟩ := h
    unfold lastLoop
    rw [List.find?_eq_some_iff_append]
    rw [loopAt_iff hj] at h1
    refine ⟨h1, (ats.drop (j + 1)).reverse, (ats.take j).reverse, ?_, fun a ha => ?_⟩
    · conv => lhs; rw [← List.take_append_drop (j + 1) ats, List.reverse_append, List.take_succ_eq_append_getElem hj, List.reverse_append]
      simp
    · rw [List.mem_reverse] at ha
      obtain ⟨q, hq, rfl⟩ := List.getElem_of_mem ha
      rw [List.length_drop] at hq
      rw [List.getElem_drop]
      have hmem : j + 1 + q ∈ pre := by
        have hall : j + 1 + q ∈ (List.range ats.length).reverse := by rw [List.mem_reverse, List.mem_range]; omega
        rw [h2] at hall
        rcases List.mem_append.1 hall with h4 | h4
        · exact h4
        · have hpw : ((List.range ats.length).reverse).Pairwise (· > ·) := by
            rw [List.pairwise_reverse]
            exact List.pairwise_lt_range
          rw [h2, List.pairwise_append] at hpw
          have hp2 := (List.pairwise_cons.1 hpw.2.1).1
          rcases List.mem_cons.1 h4 with h5 | h5
          · omega
          · have := hp2 _ h5
            omega
      have := h3 _ hmem
      rw [loopAt_iff (by omega)] at this
      exact this
theorem l4_ev {cs : List Ins} (hm : cs.length ≤ 1048576) {i : Nat} (hi : i < cs.length) {m : List Int} (hH : H1 cs) (hD : DI cs i m) (L : List Nat) (hL : ∀ a ∈ L, a < i ∧ isOp (opc cs a) = true) (hll : L.length ≤ 1048576) (r : List Int × Int) (hno : vL cs L < 0 → r = ([], 31)) (hok : ¬ vL cs L < 0 → Ev (fun k => weighhouseref06_Match.l3 k cs (m.set i (vL cs L)) ((i + 1 : Nat) : Int)) r) (q : Nat) : ∀ j, L.length - j = q → j ≤ L.length →
    Ev (fun k => weighhouseref06_Match.l4 k cs (m.set i (vL cs (L.take j))) (i : Int) (toI L) (j : Int)) r := by
  have hlen := hD.len
  have htl : (toI L).length = L.length := by unfold toI; rw [List.length_map]
  have hw : wrap64 ((i : Int) + 1) = ((i + 1 : Nat) : Int) := by rw [w64 (by omega) (by omega)]; rfl
  induction q with
  | zero =>
    intro j hq hj
    have e : j = L.length := by omega
    subst e
    rw [List.take_length]
    have hrd : rd (m.set i (vL cs L)) (i : Int) = vL cs L := rd_get (List.getElem?_set_self (by omega))
    by_cases hv : vL cs L < 0
    · rw [hno hv]
      refine Ev.step (f := fun _ => some ([], 31)) (fun k => ?_) (Ev.now _)
      simp only [weighhouseref06_Match.l4]
      rw [if_neg (by omega), if_pos (by omega), if_pos (by rw [List.length_set]; omega), hrd, if_pos hv]
    · refine Ev.step (fun k => ?_) (hok hv)
      simp only [weighhouseref06_Match.l4]
      rw [if_neg (by omega), if_pos (by omega), if_pos (by rw [List.length_set]; omega), hrd, if_neg hv, hw]
  | succ q ih =>
    intro j hq hj
    have hjl : j < L.length := by omega
    have hnext := ih (j + 1) (by omega) (by omega)
    have hwj : wrap64 ((j : Int) + 1) = ((j + 1 : Nat) : Int) := by rw [w64 (by omega) (by omega)]; rfl
    rw [List.take_succ_eq_append_getElem hjl] at hnext
    obtain ⟨h1, h2⟩ := hL L[j] (List.getElem_mem hjl)
    have hrl : rd (toI L) (j : Int) = (L[j] : Int) := rd_get (by unfold toI; rw [List.getElem?_map, List.getElem?_eq_getElem hjl]; rfl)
    refine Ev.step (fun k => ?_) hnext
    simp only [weighhouseref06_Match.l4]
    rw [if_pos (by omega), if_pos (by omega), hrl, if_pos (by omega), if_pos (by omega), rdI cs L[j] (by omega)]
    by_cases h51 : opc cs L[j] = 51
    · obtain ⟨x, e, hc, hxe⟩ := hH.fin (by omega) h2
      obtain ⟨d1, d2, d3, d4⟩ := fin_facts (by omega : L[j] < cs.length) hc
      have g1 := ((PB_ok hH cs.length (Nat.le_refl _)).b1 L[j] x e (by omega) h2 hc).1
      have hx : ¬ 0 ≤ x := by
        rcases d4 with d4 | d4 <;> omega
      rw [if_neg hx] at g1
      have hrm : rd (m.set i (vL cs (L.take j))) (L[j] : Int) = (e : Int) := rd_get (by
        rw [List.getElem?_set_ne (by omega)]
        exact (hD.nl L[j] (by omega) (by omega)).trans g1)
      have hv : vL cs (L.take j ++ [L[j]]) = (e : Int) := by
        unfold vL
        rw [lastLoop_snoc, if_pos h51]
        show (xe cs L[j]).2 = _
        rw [hxe]
      rw [if_pos h51, if_pos (by rw [List.length_set]; omega), if_pos (by omega), if_pos (by rw [List.length_set]; omega), hrm, Int.toNat_natCast, List.set_set, hwj, hv]
    · have hv : vL cs (L.take j ++ [L[j]]) = vL cs (L.take j) := by
        unfold vL
        rw [lastLoop_snoc, if_neg h51]
      rw [if_neg h51, hwj, hv]
def matchRes (cs : List Ins) : List Int × Int := match scanAll cs with | none => ([], 31) | some m => (m, 0)
theorem scanAll_some {cs : List Ins} {m : List Int} {fs : List Fr} (h : scanTo cs cs.length = some (m, fs)) (hl : fs.length = 0) : scanAll cs = some m := by
  unfold scanAll
  rw [h]
  show (if fs.length = 0 then some m else none) = some m
  rw [if_pos hl]
/-- Both end with the same row. -/
theorem same_row {cs : List Ins} (hH : H1 cs) {m m' : List Int} {fs : List Fr} (h : scanTo cs cs.length = some (m, fs)) (hl : fs.length = 0) (hD : DI cs cs.length m') : m' = m := by
  have hfs : fs = [] := List.eq_nil_of_length_eq_zero hl
  subst hfs
  have hL := scan_L1 h
  have h2 := scan_L2 (Nat.le_refl _) h
  have hP := PB_ok hH cs.length (Nat.le_refl _)
  have hlm := (scanTo_ok h).1
  apply List.ext_getElem?
  intro k
  rcases Nat.lt_or_ge k cs.length with hk | hk
  · by_cases h52 : opc cs k = 52
    · obtain ⟨a, x, e, t1, t2, t3⟩ := hD.lt k hk h52
      obtain ⟨a', s1, s2⟩ := h2.m4 k hk h52
      have := Tgt.det t1 s1
      subst this
      rcases s2 with ⟨b, hb, _⟩ | ⟨y, f, s3, s4⟩
      · cases hb
      · rw [t2] at s3
        injection s3 with s5 s6
        rw [t3, s4, s6]
    · rw [hD.nl k hk h52]
      by_cases hop : opc cs k = 48 ∨ opc cs k = 51
      · obtain ⟨x, e, hc, _⟩ := hH.fin hk (isOp_iff.2 hop)
        rw [(hP.b1 k x e hk (isOp_iff.2 hop) hc).1, h2.m1 k hk (isOp_iff.2 hop), hc]
        rfl
      · by_cases h9 : opc cs k = 49
        · obtain ⟨a, p1, p2, p3⟩ := hL.el k hk h9
          rcases p3 with ⟨d, p3⟩ | ⟨e, p3, p4⟩
          · obtain ⟨j, hj, _⟩ := hL.run_ (by omega) p2 p3
            simp at hj
          · obtain ⟨n, rfl⟩ := Int.eq_ofNat_of_zero_le p4
            have g := (hP.b1 a k n (by omega) p2 p3).2.2 (by omega)
            have g' := (h2.m2 a k n (by omega) p2 p3).2 (by omega)
            rw [Int.toNat_natCast] at g g'
            rw [g, g']
        · by_cases h0 : opc cs k = 50
          · obtain ⟨a, p1, p2, x, p3⟩ := hL.en k hk h0
            rw [(hP.b1 a x k (by omega) p2 p3).2.1, (h2.m2 a x k (by omega) p2 p3).1]
          · rw [h2.m5 k hk (by unfold special; omega)]
            refine hP.b2 k hk (fun _ => isOp_not hop) (fun a x e ha hoa hc => ⟨fun he => ?_, fun hx => ?_⟩)
            · obtain ⟨d1, d2, d3, d4⟩ := fin_facts ha hc
              rw [he] at d3
              exact h0 d3
            · obtain ⟨d1, d2, d3, d4⟩ := fin_facts ha hc
              rcases d4 with d4 | ⟨d4, d5, d6, d7⟩
              · omega
              · rw [hx, Int.toNat_natCast] at d6
                exact h9 d6
  · rw [List.getElem?_eq_none (by rw [hD.len]; exact hk), List.getElem?_eq_none (by rw [hlm]; exact hk)]
theorem l3_ev {cs : List Ins} (hm : cs.length ≤ 1048576) (hH : H1 cs) (hC : ∀ k, k < cs.length → ¬ bad cs (mB cs cs.length) k) (q : Nat) : ∀ (i : Nat) (m4 m : List Int) (fs : List Fr), cs.length - i = q → i ≤ cs.length → scanTo cs i = some (m, fs) → DI cs i m4 →
    Ev (fun k => weighhouseref06_Match.l3 k cs m4 (i : Int)) (matchRes cs) := by
  induction q with
  | zero =>
    intro i m4 m fs hq hi h hD
    have e : i = cs.length := by omega
    subst e
    have hl := all_closed hH h
    have e1 : matchRes cs = (m4, 0) := by
      unfold matchRes
      rw [scanAll_some h hl, same_row hH h hl hD]
    rw [e1]
    refine Ev.step (f := fun _ => some (m4, 0)) (fun k => ?_) (Ev.now _)
    simp only [weighhouseref06_Match.l3]
    rw [if_neg (by omega)]
  | succ q ih =>
    intro i m4 m fs hq hi h hD
    have hil : i < cs.length := by omega
    have hok := scanTo_ok h
    have hop := openL_eq hH hi h
    have hw : wrap64 ((i : Int) + 1) = ((i + 1 : Nat) : Int) := by rw [w64 (by omega) (by omega)]; rfl
    have htl : (toI (openL cs i)).length = fs.length := by unfold toI; rw [List.length_map, hop, List.length_map]
    have hnone : scanStep cs i m fs = none → matchRes cs = ([], 31) := fun hs => by
      unfold matchRes
      rw [scanAll_none hil h hs]
    have hgo : ∀ m4', (∀ k, k < cs.length → k ≠ i → m4'[k]? = m4[k]?) → m4'.length = cs.length → (opc cs i ≠ 52 → m4'[i]? = m4[i]?) → (opc cs i = 52 → ∃ (a : Nat) (x : Int) (e : Nat), Tgt cs i a ∧ cl (opc cs) a cs.length = .fin x e ∧ m4'[i]? = some (e : Int)) → scanStep cs i m fs ≠ none → Ev (fun k => weighhouseref06_Match.l3 k cs m4' ((i + 1 : Nat) : Int)) (matchRes cs) := by
      intro m4' g1 g2 g3 g4 g5
      obtain ⟨⟨m', fs'⟩, hs⟩ := Option.ne_none_iff_exists'.1 g5
      refine ih (i + 1) m4' m' fs' (by omega) (by omega) ((scanTo_succ h).trans hs) ⟨g2, fun k hk h52 => ?_, fun k hk h52 => ?_, fun k hk hk2 h52 => ?_⟩
      · by_cases hki : k = i
        · rw [hki] at h52 ⊢
          rw [g3 h52]
          exact hD.nl i hil h52
        · rw [g1 k hk hki]
          exact hD.nl k hk h52
      · by_cases hki : k = i
        · rw [hki] at h52 ⊢
          exact g4 h52
        · obtain ⟨a, x, e, t1, t2, t3⟩ := hD.lt k (by omega) h52
          exact ⟨a, x, e, t1, t2, by rw [g1 k (by omega) hki]; exact t3⟩
      · rw [g1 k hk2 (by omega)]
        exact hD.ge k (by omega) hk2 h52
    -- the part behind the count
    have hj6 : ∀ n : Nat, (n > 8 → scanStep cs i m fs = none) → (n ≤ 8 → ¬ (isOp (opc cs i) = true ∧ 8 ≤ fs.length)) → Ev (fun k => weighhouseref06_Match.j6 k cs m4 (i : Int) (toI (openL cs i)) (n : Int)) (matchRes cs) := by
      intro n hn1 hn2
      by_cases hn : n > 8
      · rw [hnone (hn1 hn)]
        refine Ev.step (f := fun _ => some ([], 31)) (fun k => ?_) (Ev.now _)
        simp only [weighhouseref06_Match.j6]
        rw [if_pos (by omega)]
      · have hnd := hn2 (by omega)
        by_cases h52 : opc cs i = 52
        · have hset : m4.set i (-1) = m4 := by
            have hgi := hD.ge i (Nat.le_refl _) hil h52
            apply List.ext_getElem?
            intro k
            rw [List.getElem?_set]
            split
            · rename_i e
              subst e
              rw [if_pos (by rw [hD.len]; exact hil), hgi]
            · rfl
          have hv0 : vL cs ((openL cs i).take 0) = -1 := rfl
          refine Ev.step (f := fun k => weighhouseref06_Match.l4 k cs (m4.set i (vL cs ((openL cs i).take 0))) (i : Int) (toI (openL cs i)) ((0 : Nat) : Int)) (fun k => ?_) (l4_ev hm hil hH hD (openL cs i) (fun a ha => ?_) (by rw [hop, List.length_map]; have := hok.2.1; omega) _ (fun hv => ?_) (fun hv => ?_) _ 0 rfl (Nat.zero_le _))
          · simp only [weighhouseref06_Match.j6]
            rw [if_neg (by omega), if_pos (by omega), if_pos (by omega), rdI cs i hil, if_pos h52, hv0, hset]
            rfl
          · unfold openL isOpen at ha
            rw [List.mem_filter, List.mem_range, Bool.and_eq_true] at ha
            exact ⟨ha.1, ha.2.1⟩
          · apply hnone
            cases ht : topLoop cs (fs.map Fr.a) with
            | none =>
              unfold scanStep
              rw [if_neg (by show ¬ (opc cs i = 48 ∨ opc cs i = 51); omega), if_neg (by show ¬ opc cs i = 49; omega), if_neg (by show ¬ opc cs i = 50; omega), if_pos h52, ht]
            | some j =>
              obtain ⟨hjl, hll⟩ := (topLoop_last cs _).2 j ht
              exfalso
              unfold vL at hv
              rw [hop, hll] at hv
              have hmem : (fs.map Fr.a)[j] ∈ openL cs i := by rw [hop]; exact List.getElem_mem _
              unfold openL isOpen at hmem
              rw [List.mem_filter, List.mem_range, Bool.and_eq_true] at hmem
              have := hH _ (by omega) hmem.2.1
              have hv : (xe cs (fs.map Fr.a)[j]).2 < 0 := hv
              omega
          · cases ht : topLoop cs (fs.map Fr.a) with
            | none =>
              have := (topLoop_last cs _).1 ht
              exfalso
              apply hv
              unfold vL
              rw [hop, this]
              show (-1 : Int) < 0
              decide
            | some j =>
              obtain ⟨hjl, hll⟩ := (topLoop_last cs _).2 j ht
              have hjf : j < fs.length := by rw [List.length_map] at hjl; exact hjl
              have hmem : (fs.map Fr.a)[j] ∈ openL cs i := by rw [hop]; exact List.getElem_mem _
              unfold openL isOpen at hmem
              rw [List.mem_filter, List.mem_range, Bool.and_eq_true] at hmem
              obtain ⟨x, e, hc, hxe⟩ := hH.fin (by omega) hmem.2.1
              have hve : vL cs (openL cs i) = (e : Int) := by
                unfold vL
                rw [hop, hll]
                show (xe cs (fs.map Fr.a)[j]).2 = _
                rw [hxe]
              refine hgo _ (fun k hk hki => List.getElem?_set_ne (fun e => hki e.symm)) (by rw [List.length_set]; exact hD.len) (fun h => absurd h52 h) (fun _ => ⟨(fs.map Fr.a)[j], x, e, ⟨m, fs, j, fs[j], h, ht, List.getElem?_eq_getElem hjf, by rw [List.getElem_map]⟩, hc, ?_⟩) (fun hs => ?_)
              · rw [List.getElem?_set_self (by rw [hD.len]; exact hil), hve]
              · rcases step_fail hH hC hil h hs with h6 | h6
                · exact hnd h6
                · rw [ht] at h6
                  cases h6.2
        · refine Ev.step (fun k => ?_) (hgo m4 (fun _ _ _ => rfl) hD.len (fun _ => rfl) (fun h => absurd h h52) (fun hs => ?_))
          · simp only [weighhouseref06_Match.j6]
            rw [if_neg (by omega), if_pos (by omega), if_pos (by omega), rdI cs i hil, if_neg h52, hw]
          · rcases step_fail hH hC hil h hs with h6 | h6
            · exact hnd h6
            · exact h52 h6.1
    have hj5 : ∀ b : Bool, b = isOp (opc cs i) → Ev (fun k => weighhouseref06_Match.j5 k cs m4 (i : Int) (toI (openL cs i)) (((toI (openL cs i)).length : Nat) : Int) b) (matchRes cs) := by
      intro b hb
      rw [htl]
      cases b with
      | true =>
        refine Ev.step (f := fun k => weighhouseref06_Match.j6 k cs m4 (i : Int) (toI (openL cs i)) ((fs.length + 1 : Nat) : Int)) (fun k => ?_) (hj6 _ (fun hn => ?_) (fun hn hh => by omega))
        · simp only [weighhouseref06_Match.j5]
          rw [if_true, w64 (by have := hok.2.1; omega) (by have := hok.2.1; omega)]
          rfl
        · unfold scanStep
          rw [if_pos (isOp_iff.1 hb.symm), if_neg (by omega)]
      | false =>
        refine Ev.step (f := fun k => weighhouseref06_Match.j6 k cs m4 (i : Int) (toI (openL cs i)) (fs.length : Int)) (fun k => ?_) (hj6 _ (fun hn => by have := hok.2.1; omega) (fun hn hh => by rw [← hb] at hh; cases hh.1))
        simp only [weighhouseref06_Match.j5]
        rw [if_neg (by decide)]
    refine Ev.step (f := fun k => (weighhouseref06_opened.f k cs m4 (i : Int)).bind fun t240 => (if 0 ≤ (i : Int) then (if ((rd_T31 cs (i : Int)).f0) = 48 then (weighhouseref06_Match.j5 k cs m4 (i : Int) t240 (t240.length : Int) true) else (weighhouseref06_Match.j5 k cs m4 (i : Int) t240 (t240.length : Int) (((rd_T31 cs (i : Int)).f0) == 51))) else (none))) (fun k => ?_) (Ev.bind (opened_ev hm hH hD i hi) ?_)
    · simp only [weighhouseref06_Match.l3]
      rw [if_pos (by omega)]
    · refine Ev.congr (fun k => ?_) (hj5 (isOp (opc cs i)) rfl)
      rw [if_pos (by omega), rdI cs i hil]
      by_cases h48 : opc cs i = 48
      · rw [if_pos h48, isOp_iff.2 (.inl h48)]
      · rw [if_neg h48]
        congr 1
        by_cases h51 : opc cs i = 51
        · rw [isOp_iff.2 (.inr h51), h51]
          rfl
        · rw [isOp_not (by omega)]
          simp [h51]
theorem ref_match (cs : List Ins) (hm : cs.length ≤ 1048576) : Ev (fun k => weighhouseref06_Match.f k cs) (matchRes cs) := by
  have hbig : cs.length ≤ 4611686018427387904 := by omega
  have hA : ∀ r, Ev (fun k => weighhouseref06_Match.l1 k cs (mB cs 0) ((0 : Nat) : Int)) r → Ev (fun k => weighhouseref06_Match.f k cs) r := fun r hr => by
    have h := A_ok cs hbig r hr cs.length 0 (by omega) (Nat.zero_le _)
    refine Ev.congr (fun k => ?_) h
    unfold weighhouseref06_Match.f
    rw [if_pos (by omega), if_pos (by omega), Int.toNat_natCast]
    simp
  by_cases hH : H1 cs
  · refine hA _ (B_ok cs hbig _ hH ?_ cs.length 0 (by omega) (Nat.zero_le _))
    by_cases hC : ∀ k, k < cs.length → ¬ bad cs (mB cs cs.length) k
    · refine C_ok cs hbig _ (mB_len _ _) _ hC ?_ cs.length 0 (by omega) (Nat.zero_le _)
      exact l3_ev hm hH hC cs.length 0 _ _ _ (by omega) (Nat.zero_le _) rfl (DI.zero hH)
    · have hn : scanAll cs = none := by
        cases h : scanTo cs cs.length with
        | none => unfold scanAll; rw [h]; rfl
        | some s =>
          unfold scanAll
          rw [h]
          show (if s.2.length = 0 then some s.1 else none) = none
          by_cases hl : s.2.length = 0
          · exact absurd (scan_good (m := s.1) (fs := s.2) h hl).2 hC
          · rw [if_neg hl]
      have e : matchRes cs = ([], 31) := by unfold matchRes; rw [hn]
      rw [e]
      refine C_fail cs hbig _ (mB_len _ _) cs.length 0 (by omega) (Nat.zero_le _) ?_
      refine Classical.byContradiction fun hx => hC fun k hk hb => hx ⟨k, Nat.zero_le _, hk, hb⟩
  · have hn : scanAll cs = none := by
      cases h : scanTo cs cs.length with
      | none => unfold scanAll; rw [h]; rfl
      | some s =>
        unfold scanAll
        rw [h]
        show (if s.2.length = 0 then some s.1 else none) = none
        by_cases hl : s.2.length = 0
        · exact absurd (scan_good (m := s.1) (fs := s.2) h hl).1 hH
        · rw [if_neg hl]
    have e : matchRes cs = ([], 31) := by unfold matchRes; rw [hn]
    rw [e]
    refine hA _ (B_fail cs hbig cs.length 0 _ (by omega) (Nat.zero_le _) (mB_len _ _) ?_)
    refine Classical.byContradiction fun hx => hH fun a ha ho => ?_
    rcases Int.lt_or_le (xe cs a).2 0 with h | h
    · exact absurd ⟨a, Nat.zero_le _, ha, ho, h⟩ hx
    · exact h
end Go.Proofs.Ytbdmbkmokhaflaa.Th
end

section
-- written by hprint.py (a program of these sessions) out of the translation; Lean checks it
namespace Go.Proofs.Ytbdmbkmokhaflaa.Q
open Go.RowKit Go.Proofs.YtbdmbkmokhaflaaW.Hb Go.Proofs.YtbdmbkmokhaflaaW.PrintWords Go.Proofs.YtbdmbkmokhaflaaW.PrintLast Go.Proofs.YtbdmbkmokhaflaaW.PrintMore
attribute [local go_sem] max2_int min2_int max_two min_two max_three min_three max_four min_four   -- for this text's walks alone
set_option linter.unusedVariables false
set_option linter.unusedSimpArgs false

/-! ### shape_Depth_lit1_25: function 25, by hand -/
def opens (o : Int) : Bool := decide (o = 48) || decide (o = 51)
def deeper (m : Int) (n : Nat) (o : Int) : Int := max m ((n : Int) + if opens o then 1 else 0)
set_option maxRecDepth 100000 in
set_option maxHeartbeats 1000000 in
theorem shape_Depth_lit1_25.calls (w : World) (bc bm i n co cc : Nat) (A Ao : Option Addr) (cs : List Ins) (m : Int) (h0 : w.cell? ⟨bc, 0, none⟩ = some (.slice A cs.length cc)) (hr : Kd.C k31 w A cs.length cs) (hb : Blk w bm 3 #[.int .i64 m]) (hi : i < cs.length) (hn : n ≤ 1048576) :
    Calls Try.prog 25 #[.int .i64 i, .slice Ao n co, .pointer (some ⟨bc, 0, none⟩), .pointer (some ⟨bm, 0, none⟩)] w fun e w' => e = .returned (.tuple #[]) ∧ Blk w' bm 3 #[.int .i64 (deeper m n cs[i].f0)] ∧ Chg w w' (fun k => k = bm) := by
  obtain ⟨ad, e, hc, _⟩ := at_Ins hr i hi
  cases e
  have hm : cs.length ≤ 9223372036854775807 := hr.2.1
  obtain ⟨v, hv⟩ : ∃ v, cs[i].f0 = v := ⟨_, rfl⟩
  rw [hv] at hc ⊢
  have q1 : (i : Int) < (cs.length : Int) := by omega
  have hbm : w.cell? ⟨bm, 0, none⟩ = some (.int .i64 m) := hb.cell 0
  have hfm : w.frozen? ⟨bm, 0, none⟩ = false := hb.frozen 0
  have HB := Aside0.mk hb
  have hw : wrap64 ((n : Int) + 1) = (n : Int) + 1 := by unfold wrap64; omega
  clear hr hb
  have fin : ∀ (x : Int), deeper m n v = max m x → ∀ (w1 : World) (y : Int), w1 = w.setCell ⟨bm, 0, none⟩ (.int .i64 y) → y = max m x → Blk w1 bm 3 #[.int .i64 (deeper m n v)] ∧ Chg w w1 (fun k => k = bm) := by
    intro x hx w1 y hw1 hy
    subst hw1 hy
    rw [hx]
    exact ⟨by simpa using HB.out.set_ 0 (.int .i64 (max m x)), Chg.set_ w ⟨bm, 0, none⟩ _⟩
  by_cases h48 : v = 48
  · subst h48
    have HX := Aside0.mk (fin ((n : Int) + 1) (by simp [deeper, opens]))
    clear fin
    go_enter Try.func25, Try.ntmps25
    go_wp2
    all_goals refine bodyPost_end (results_none rfl _ _ _) rfl ?_
    all_goals exact ⟨rfl, HX.out _ _ rfl (by omega)⟩
  · by_cases h51 : v = 51
    · subst h51
      have HX := Aside0.mk (fin ((n : Int) + 1) (by simp [deeper, opens]))
      clear fin
      go_enter Try.func25, Try.ntmps25
      go_wp2
      all_goals refine bodyPost_end (results_none rfl _ _ _) rfl ?_
      all_goals exact ⟨rfl, HX.out _ _ rfl (by omega)⟩
    · have d1 : (v == 48) = false := by simp [h48]
      have d2 : (v == 51) = false := by simp [h51]
      have HX := Aside0.mk (fin (n : Int) (by simp [deeper, opens, h48, h51]))
      clear fin h48 h51
      go_enter Try.func25, Try.ntmps25
      go_wp2
      all_goals refine bodyPost_end (results_none rfl _ _ _) rfl ?_
      all_goals exact ⟨rfl, HX.out _ _ rfl (by omega)⟩


end Go.Proofs.Ytbdmbkmokhaflaa.Q
end

section
-- written by hprint.py (a program of these sessions) out of the translation; Lean checks it
namespace Go.Proofs.Ytbdmbkmokhaflaa.Q
open Go.RowKit Go.Proofs.YtbdmbkmokhaflaaW.Hb Go.Proofs.YtbdmbkmokhaflaaW.PrintWords Go.Proofs.YtbdmbkmokhaflaaW.PrintLast Go.Proofs.YtbdmbkmokhaflaaW.PrintMore
attribute [local go_sem] max2_int min2_int max_two min_two max_three min_three max_four min_four   -- for this text's walks alone
set_option linter.unusedVariables false
set_option linter.unusedSimpArgs false

/-! ### shape_Depth: function 16, by hand -/
def openAt (cs : List Ins) (i : Nat) : Nat := ((scanTo cs i).map (fun s => s.2.length)).getD 0
def depthTo (cs : List Ins) : Nat → Int
  | 0 => 0
  | i + 1 => deeper (depthTo cs i) (openAt cs i) (opAt cs i)
def shape_Depth.f (l0 : List Ins) : Option (Int × Int) := if l0.length ≤ 1048576 then some (match scanAll l0 with | none => (0, 31) | some _ => (depthTo l0 l0.length, 0)) else none
theorem cf_depth (args : Array Value) (W : World) : (callFunc 25 args).run Try.prog W = .ok (.enter 25 args) W := by go_simp
theorem sees_depth (cs : List Ins) (w : World) (bc bm cc : Nat) (A : Option Addr) (h0 : w.cell? ⟨bc, 0, none⟩ = some (.slice A cs.length cc)) (hr : Kd.C k31 w A cs.length cs) (hbc : bc ≠ bm) (hA : 0 < cs.length → ∀ ad, A = some ad → ad.block ≠ bm) : Sees cs w (fun k => k = bm) 25 #[.pointer (some ⟨bc, 0, none⟩), .pointer (some ⟨bm, 0, none⟩)] (fun i W T => T = (fun k => k = bm) ∧ Blk W bm 3 #[.int .i64 (depthTo cs i)]) := by
  refine ⟨fun i W W' T S hi hc hS => ⟨hi.1, blk_kept hi.2 hc.2 (fun hs => (hS bm hs).1 (by rw [hi.1]))⟩, fun i W T Ao c ps ats hi hI hc _ _ hats hlen h8 _ => ?_⟩
  obtain ⟨rfl, hb⟩ := hI
  have hrW : Kd.C k31 W A cs.length cs := Kd.C_foot_neS (fun h => h) hr (fun ad e hn => hA hn ad e) W hc.2
  refine (shape_Depth_lit1_25.calls W bc bm i ps.length c cc A Ao cs (depthTo cs i) (cellS h0 hc.2 hbc) hrW hb hi (by omega)).mono ?_
  rintro e W' ⟨rfl, hb', hc'⟩
  have ho : openAt cs i = ps.length := by
    unfold openAt
    cases hs : scanTo cs i with
    | none => rw [hs] at hats; cases hats
    | some s =>
      rw [hs] at hats
      have : s.2.map Fr.a = ats := Option.some.inj hats
      rw [← hlen, ← this]
      simp
  refine ⟨rfl, hc', fun k => k = bm, ⟨rfl, ?_⟩, fun k hk => ⟨.inl hk, hk ▸ hb'.lt⟩⟩
  show Blk W' bm 3 #[.int .i64 (deeper (depthTo cs i) (openAt cs i) (opAt cs i))]
  rw [ho, opAt_lt hi]
  exact hb'
set_option maxRecDepth 100000 in
set_option maxHeartbeats 4000000 in
theorem shape_Depth.calls (A0 : Option Addr) (c0 : Nat) (l0 : List (S31)) (r1 : Int) (r2 : Int) (w : World) (hr0 : Kd.C k31 w A0 l0.length l0) (hc0 : l0.length ≤ c0) (h : shape_Depth.f l0 = some (r1, r2)) :
    Calls Try.prog 16 #[.slice A0 l0.length c0] w fun e w' => e = .returned (.tuple #[.int .i64 r1, .int .i64 r2]) ∧ Below w.heap.size w w' := by
  unfold shape_Depth.f at h
  split at h
  · rename_i hl
    have hB1 : Below w.heap.size w ((w.alloc (.cells #[.slice A0 l0.length c0] 22)).alloc (.cells #[.int .i64 0] 3)) := ((Below.refl _ w).alloc (Nat.le_refl _) _).alloc (by rw [World.size_alloc]; omega) _
    have b0 := (Blk.new w 22 #[.slice A0 l0.length c0]).alloc (.cells #[.int .i64 0] 3)
    have b1 := Blk.new (w.alloc (.cells #[.slice A0 l0.length c0] 22)) 3 #[.int .i64 0]
    rw [World.size_alloc] at b1
    have hrC := Kd.C_below hr0 hB1
    have hA1 : 0 < l0.length → ∀ ad, A0 = some ad → ad.block ≠ w.heap.size + 1 := fun hn ad e => by
      subst e
      have := Kd.C_lt hr0 hn (by decide)
      omega
    have HS := Aside0.mk (shape_scan.calls _ A0 c0 25 l0 (fun k => k = w.heap.size + 1) #[.pointer (some ⟨w.heap.size, 0, none⟩), .pointer (some ⟨w.heap.size + 1, 0, none⟩)] (fun i W T => T = (fun k => k = w.heap.size + 1) ∧ Blk W (w.heap.size + 1) 3 #[.int .i64 (depthTo l0 i)]) hrC (fun k hk => by rw [World.size_alloc, World.size_alloc]; omega) hA1 ⟨rfl, b1⟩ (sees_depth l0 _ w.heap.size (w.heap.size + 1) c0 A0 (b0.cell 0) hrC (by omega) hA1) cf_depth hl)
    have q0 : ((w.alloc (.cells #[.slice A0 l0.length c0] 22)).alloc (.cells #[.int .i64 0] 3)).cell? ⟨w.heap.size, 0, none⟩ = some (.slice A0 l0.length c0) := b0.cell 0
    have HB1 := Aside0.mk hB1
    have HBE := Aside0.mk (fun (w' : World) (hc : Chg ((w.alloc (.cells #[.slice A0 l0.length c0] 22)).alloc (.cells #[.int .i64 0] 3)) w' (fun k => k = w.heap.size + 1)) => hB1.trans (hc.below (B := w.heap.size) (by rw [World.size_alloc, World.size_alloc]; omega) (fun k hk => by omega)))
    clear hr0 hl hB1 b0 b1 hrC hA1
    cases hs : scanAll l0 with
    | none =>
      rw [hs] at h
      obtain ⟨rfl, rfl⟩ := Prod.mk.inj (Option.some.inj h)
      have HX := Aside0.mk hs
      clear h hs
      go_enter Try.func16, Try.ntmps16
      go_wp2_with (go_at_call 21; (with_reducible refine HS.out.mono ?_); rintro e w' ⟨hc, hm⟩; rw [HX.out] at hm; obtain rfl := hm; have HC := Aside0.mk hc; clear hc)
      go_ret2
      exact ⟨rfl, HBE.out w' HC.out⟩
    | some m =>
      rw [hs] at h
      obtain ⟨rfl, rfl⟩ := Prod.mk.inj (Option.some.inj h)
      have HX := Aside0.mk hs
      clear h hs
      go_enter Try.func16, Try.ntmps16
      go_wp2_with (go_at_call 21; (with_reducible refine HS.out.mono ?_); rintro e w' ⟨hc, hm⟩; rw [HX.out] at hm; obtain ⟨v, T, rfl, hR, ⟨_, hb⟩, _⟩ := hm; have hq : w'.cell? ⟨w.heap.size + 1, 0, none⟩ = some (.int .i64 (depthTo l0 l0.length)) := hb.cell 0; have HC := Aside0.mk hc; clear hc hR hb)
      go_ret2
      exact ⟨rfl, HBE.out w' HC.out⟩
  · cases h


end Go.Proofs.Ytbdmbkmokhaflaa.Q
end

section
-- written by hprint.py (a program of these sessions) out of the translation; Lean checks it
namespace Go.Proofs.Ytbdmbkmokhaflaa.Q
open Go.RowKit Go.Proofs.YtbdmbkmokhaflaaW.Hb Go.Proofs.YtbdmbkmokhaflaaW.PrintWords Go.Proofs.YtbdmbkmokhaflaaW.PrintLast Go.Proofs.YtbdmbkmokhaflaaW.PrintMore
attribute [local go_sem] max2_int min2_int max_two min_two max_three min_three max_four min_four   -- for this text's walks alone
set_option linter.unusedVariables false
set_option linter.unusedSimpArgs false

/-! ### shape_Around_lit1_26: function 26, by hand -/
/-- A store and what it leaves. -/
theorem own_setCell {w : World} {g : Nat} {t : TypeId} {v v' : Value} {base e : Nat} {ok : Nat → Prop} {xs : List Int} (hb : Blk w g t #[v]) (hr : (Kd.int .i64).R e w base ok v' xs) (hg : ¬ ok g) : Blk (w.setCell ⟨g, 0, none⟩ v') g t #[v'] ∧ (Kd.int .i64).R e (w.setCell ⟨g, 0, none⟩ v') base ok v' xs :=
  ⟨by simpa using hb.set_ 0 v', Kd.R_far hr (p := ⟨g, 0, none⟩) (fun k hk he => hg (by have he : k = g := he; rw [← he]; exact hk)) _⟩
set_option maxRecDepth 100000 in
set_option maxHeartbeats 2000000 in
theorem shape_Around_lit1_26.calls (w : World) (i at_ : Int) (Ao : Option Addr) (co : Nat) (ps : List Nat) (ats : List Int) (bat bout base : Nat) (vo : Value) (out : List Int) (ok : Nat → Prop) (hat : w.cell? ⟨bat, 0, none⟩ = some (.int .i64 at_)) (hbat : ¬ ok bat ∧ bat ≠ bout) (hps : kP.C w Ao ps.length ps) (hpo : ∀ ad, Ao = some ad → ¬ ok ad.block ∧ ad.block ≠ bout) (hlen : ats.length = ps.length) (hcl : ∀ j (hj : j < ps.length) (hj2 : j < ats.length), w.cell? ⟨ps[j], 0, none⟩ = some (.int .i64 ats[j]) ∧ ¬ ok ps[j] ∧ ps[j] ≠ bout) (hb : Blk w bout 24 #[vo]) (hr : (Kd.int .i64).R 3 w base ok vo out) (hg : ¬ ok bout) (hbase : base ≤ w.heap.size) (hl : out.length + ps.length ≤ 1048576) :
    Calls Try.prog 26 #[.int .i64 i, .slice Ao ps.length co, .pointer (some ⟨bat, 0, none⟩), .pointer (some ⟨bout, 0, none⟩)] w fun e w' => e = .returned (.tuple #[]) ∧ ∃ v', Blk w' bout 24 #[v'] ∧ (Kd.int .i64).R 3 w' base (fun k => ok k ∨ w.heap.size ≤ k) v' (if i = at_ then out ++ ats else out) ∧ Chg w w' (fun k => k = bout ∨ ok k) := by
  have HAT := Aside0.mk hat
  have HPS := Aside0.mk hps
  have HPO := Aside0.mk hpo
  have HCL := Aside0.mk hcl
  have HB := Aside0.mk hb
  have HR := Aside0.mk (Kd.R_mono (ok' := fun k => ok k ∨ w.heap.size ≤ k) hr (fun k hk => .inl hk))
  have HRO := Aside0.mk hr
  have HG := Aside0.mk hg
  have HBAT := Aside0.mk hbat
  have hgl := hb.lt
  have hm : ps.length ≤ 9223372036854775807 := hps.2.1
  clear hat hps hpo hcl hb hr hg hbat
  by_cases hi : i = at_
  rotate_left
  · have HE := Aside0.mk (show (if i = at_ then out ++ ats else out) = out from if_neg hi)
    have hd : (i == at_) = false := by simp [hi]
    rw [HE.out]
    clear hi HE
    go_enter Try.func26, Try.ntmps26
    go_wp2
    go_loopw [10] (fun k wr => ∃ j : Nat, j ≤ ps.length ∧ k = .int .i64 j ∧ wr = w) (fun k _ => ps.length - (intOf k).toNat)
    case atStart => exact ⟨0, Nat.zero_le _, rfl, rfl⟩
    case round =>
      obtain ⟨j, hj, rfl, rfl⟩ := hrel
      by_cases hlt : j < ps.length
      · obtain ⟨ad, e, hcell⟩ := at_P HPS.out j hlt
        cases e
        have hcell2 : wr.cell? (ad.add j) = some (.pointer (some ⟨ps[j], 0, none⟩)) := hcell
        have hat := HAT.out
        have q1 : (j : Int) < (ps.length : Int) := by omega
        clear hcell
        go_wp2
        go_roundw
        case rel => exact ⟨j + 1, by omega, by go_num, by first | rfl | trivial⟩
        case measure => simp [intOf]; omega
      · have q1 : ¬ (j : Int) < (ps.length : Int) := by omega
        go_wp2
        refine bodyPost_end (results_none rfl _ _ _) rfl ?_
        exact ⟨rfl, vo, HB.out, HR.out, Chg.refl _ _⟩
  · have HE := Aside0.mk (show (if i = at_ then out ++ ats else out) = out ++ ats from if_pos hi)
    have hd : (i == at_) = true := by simp [hi]
    rw [HE.out]
    clear HE
    go_enter Try.func26, Try.ntmps26
    go_wp2
    go_loopw [10] (fun k wr => ∃ (j : Nat) (v : Value), j ≤ ps.length ∧ k = .int .i64 j ∧ Aside0 (Blk wr bout 24 #[v]) ∧ Aside0 ((Kd.int .i64).R 3 wr base (fun k => ok k ∨ w.heap.size ≤ k) v (out ++ ats.take j)) ∧ Aside0 (Chg w wr (fun k => k = bout ∨ ok k))) (fun k _ => ps.length - (intOf k).toNat)
    case atStart => exact ⟨0, vo, Nat.zero_le _, rfl, HB, ⟨by simpa using HR.out⟩, ⟨Chg.refl _ _⟩⟩
    case round =>
      clear HB HR
      obtain ⟨j, v, hj, rfl, HB, HR, HK⟩ := hrel
      by_cases hlt : j < ps.length
      · obtain ⟨ad, e, hcell⟩ := at_P HPS.out j hlt
        cases e
        obtain ⟨hat2, hnp, hpb⟩ := HCL.out j hlt (by omega)
        have hpo := HPO.out ad rfl
        have hrd : wr.cell? (ad.add j) = some (.pointer (some ⟨ps[j], 0, none⟩)) := cellS hcell HK.out.2 (by
          rw [add_block]
          intro h
          rcases h with h | h
          · exact hpo.2 h
          · exact hpo.1 h)
        have hata : wr.cell? ⟨bat, 0, none⟩ = some (.int .i64 at_) := cellS HAT.out HK.out.2 (fun h => by
          rcases h with h | h
          · exact HBAT.out.2 h
          · exact HBAT.out.1 h)
        have hpc : wr.cell? ⟨ps[j], 0, none⟩ = some (.int .i64 ats[j]) := cellS hat2 HK.out.2 (fun h => by
          rcases h with h | h
          · exact hpb h
          · exact hnp h)
        have HT := Aside0.mk (show out ++ ats.take (j + 1) = (out ++ ats.take j) ++ [ats[j]] by rw [List.take_succ_eq_append_getElem (by omega), List.append_assoc])
        have HLN := Aside0.mk (show ((out ++ ats.take j).length + ([ats[j]] : List Int).length) * 8 ≤ 140737488355328 by rw [List.length_append, List.length_take, List.length_singleton]; omega)
        obtain ⟨p, hp⟩ : ∃ p, ps[j] = p := ⟨_, rfl⟩
        obtain ⟨a, ha⟩ : ∃ a, ats[j] = a := ⟨_, rfl⟩
        rw [ha] at HT HLN hpc
        rw [hp] at hrd hpc
        obtain ⟨L, hL⟩ : ∃ L, out ++ ats.take j = L := ⟨_, rfl⟩
        rw [hL] at HR HT HLN
        obtain ⟨q, hq⟩ : ∃ q, L ++ [a] = q := ⟨_, rfl⟩
        rw [hq] at HT
        have HQ := Aside0.mk hq
        obtain ⟨Av, cv, rfl, hcv, _⟩ := Kd.R_reads HR.out
        have q1 : (j : Int) < (ps.length : Int) := by omega
        have k0 : wr.drew.cell? ⟨bout, 0, none⟩ = some (.slice Av L.length cv) := HB.out.cell 0
        have k1 : wr.drew.cell? ⟨p, 0, none⟩ = some (.int .i64 a) := hpc
        have HBd := Aside0.mk HB.out.drew
        have HRd := Aside0.mk (Kd.R_drew HR.out)
        have HKd := Aside0.mk (show Chg w wr.drew (fun k => k = bout ∨ ok k) from ⟨HK.out.1.drew, HK.out.2.drew⟩)
        clear hcell hp ha hL hq hat2 hnp hpb hpo
        go_wp2
        refine start_ (n := 8) (S := fun w' => w'.cell? ⟨bout, 0, none⟩ = some (.slice Av L.length cv) ∧ w'.cell? ⟨p, 0, none⟩ = some (.int .i64 a)) (ds := [6, 7]) #[false, false, false, false, false, false, false, false] (by kernel_rfl) rfl rfl ⟨k0, k1⟩ (fun hHeld => ?_)
        generalize wr.drew = wd at k0 k1 HBd HRd HKd hHeld ⊢
        refine pure_ (i := 1) (N := some 18) (v := ?_) (a' := ?_) #[false, true, false, false, false, false, false, false] rfl rfl (by kernel_rfl) (fun _ _ _ h => h) (Or.inl ⟨by rfl, ?_⟩) ?_ ?_
        rotate_left
        · intro w'
          go_simp
          with_reducible rfl
        rotate_left
        · simp only [Act.put, List.setIfInBounds_toArray, List.set_cons_zero, List.set_cons_succ, i64_w, i32_w]
          rfl
        refine pure_ (i := 2) (N := some 19) (v := ?_) (a' := ?_) #[false, true, true, false, false, false, false, false] rfl rfl (by kernel_rfl) (fun _ _ _ h => h) (Or.inl ⟨by rfl, ?_⟩) ?_ ?_
        rotate_left
        · intro w'
          go_simp
          with_reducible rfl
        rotate_left
        · simp only [Act.put, List.setIfInBounds_toArray, List.set_cons_zero, List.set_cons_succ, i64_w, i32_w]
          rfl
        refine pure_ (i := 3) (N := some 20) (v := ?_) (a' := ?_) #[false, true, true, true, false, false, false, false] rfl rfl (by kernel_rfl) (fun _ _ _ h => h) (Or.inl ⟨by rfl, ?_⟩) ?_ ?_
        rotate_left
        · intro w'
          go_simp
          with_reducible rfl
        rotate_left
        · simp only [Act.put, List.setIfInBounds_toArray, List.set_cons_zero, List.set_cons_succ, i64_w, i32_w]
          rfl
        refine take_ (i := 0) (N := some 17) (v := ?_) (a' := ?_) #[true, true, true, true, false, false, false, false] rfl rfl (by kernel_rfl) (fun _ _ _ h => h) (Or.inl ⟨by rfl, ?_⟩) hHeld ?_ ?_
        rotate_left
        · rintro w' ⟨s0, s1⟩
          go_simp
          with_reducible rfl
        rotate_left
        · simp only [Act.put, List.setIfInBounds_toArray, List.set_cons_zero, List.set_cons_succ, i64_w, i32_w]
          rfl
        refine take_ (i := 4) (N := some 21) (v := ?_) (a' := ?_) #[true, true, true, true, true, false, false, false] rfl rfl (by kernel_rfl) (fun _ _ _ h => h) (Or.inl ⟨by rfl, ?_⟩) hHeld ?_ ?_
        rotate_left
        · rintro w' ⟨s0, s1⟩
          go_simp
          with_reducible rfl
        rotate_left
        · simp only [Act.put, List.setIfInBounds_toArray, List.set_cons_zero, List.set_cons_succ, i64_w, i32_w]
          rfl
        refine one_ (i := 5) (N := some 22) #[true, true, true, true, true, true, false, false] rfl rfl (by kernel_rfl) (by decide) (fun K hK => ?_)
        refine value_ (w1 := ?_) (v := ?_) (by rfl) rfl ?_ ?_
        rotate_left 2
        · go_simp
          constructor
          · rfl
          · rfl
        have HC2 := Aside0.mk (C_lit_int wd wd.heap.size rfl .i64 [a] #[.int .i64 a] rfl 3 (by simp))
        have HR2 := Aside0.mk (Kd.R_alloc HRd.out (.cells #[.int .i64 a] 3))
        have HB2 := Aside0.mk (HBd.out.alloc (.cells #[.int .i64 a] 3))
        have HK2 := Aside0.mk (show Chg w (wd.alloc (.cells #[.int .i64 a] 3)) (fun k => k = bout ∨ ok k) from HKd.out.then_ (Chg.of_below ((Below.refl _ _).alloc (Nat.le_refl _) _) (fun _ => False)) (fun _ h => h.elim))
        refine hK.out _ _ ⟨(cell_allocd k0 (.cells #[.int .i64 a] 3)), (cell_allocd k1 (.cells #[.int .i64 a] 3))⟩ (fun hHeld => ?_)
        clear hK K
        refine norm_ (a' := ?_) ?_ ?_
        rotate_left
        · show Act.put _ (some 22) _ = _
          simp only [Act.put, List.setIfInBounds_toArray, List.set_cons_zero, List.set_cons_succ, i64_w, i32_w]
          rfl
        refine last_ (i := 6) (N := some 23) #[true, true, true, true, true, true, true, false] rfl rfl (by kernel_rfl) (by decide) (fun K hK => ?_)
        refine Kd.R_append_rows_step (Kd.int .i64) (w0 := wd.alloc (.cells #[.int .i64 a] 3)) (Rr := (Kd.int .i64).K (wd.alloc (.cells #[.int .i64 a] 3))) base (by rfl) (.tmp 17) (.tmp 22) 24 3 (.int .i64 0) 8 rfl Try.underlying24 info3 rfl (by decide) (by omega) (.slice Av L.length cv) L [a] (some ⟨wd.heap.size, 0, none⟩) 1 1 (fun k => ok k ∨ w.heap.size ≤ k) (fun _ => False) rfl rfl HR2.out HC2.out (fun x cs hK => hK) (fun _ hk => hk.elim) (fun k hk => .inr (Nat.le_trans HK2.out.size hk)) (Below.refl _ _) (Nat.le_trans hbase HK2.out.size) HLN.out ?_
        intro v3 w3 hR3 hB3 hG3 _
        rw [HQ.out] at hR3
        obtain ⟨A3, c3, rfl⟩ := Kd.R_slice hR3
        have HR3 := Aside0.mk hR3
        have HN := Aside0.mk (show ∀ k, (Value.slice Av L.length cv).ownBlock = some k → ok k ∨ w.heap.size ≤ k from fun k hk => HR2.out.1 k hk)
        have hb3 : Blk w3 bout 24 #[.slice Av L.length cv] := HB2.out.grown hG3 (fun he => by
          rcases HN.out bout he.symm with h | h
          · exact HG.out h
          · omega)
        have HB3 := Aside0.mk hb3
        have q3 : w3.cell? ⟨bout, 0, none⟩ = some (.slice Av L.length cv) := hb3.cell 0
        have f3 : w3.frozen? ⟨bout, 0, none⟩ = false := hb3.frozen 0
        have HK3 := Aside0.mk (show Chg w w3 (fun k => k = bout ∨ ok k) from ⟨⟨hG3.os.trans HK2.out.1.os, hG3.tape.trans HK2.out.1.tape, hG3.output.trans HK2.out.1.output, Nat.le_trans HK2.out.1.size hG3.size, fun k hk => absurd hk (Nat.not_lt_zero k)⟩, Kept.of_grown hG3 HK2.out.2 (fun k hk => by
          rcases HN.out k hk with h | h
          · exact .inl (.inr h)
          · exact .inr h)⟩)
        clear hR3 hB3 hG3 hb3
        refine hK.out _ _ ?_
        clear hK K
        refine norm_ (a' := ?_) ?_ ?_
        rotate_left
        · show Act.put _ (some 23) _ = _
          simp only [Act.put, List.setIfInBounds_toArray, List.set_cons_zero, List.set_cons_succ, i64_w, i32_w]
          rfl
        refine last_ (i := 7) (N := none) #[true, true, true, true, true, true, true, true] rfl rfl (by kernel_rfl) (by decide) (fun K hK => ?_)
        refine skip_ (w1 := ?_) (by rfl) rfl ?_ ?_
        rotate_left
        · go_simp
          rfl
        refine hK.out _ _ ?_
        clear hK K
        refine done_ (by kernel_rfl) ?_
        clear hHeld
        go_wp2
        have hgn : ¬ (ok bout ∨ w.heap.size ≤ bout) := fun h => by
          rcases h with h | h
          · exact HG.out h
          · omega
        have HF := Aside0.mk (own_setCell HB3.out HR3.out hgn)
        have HKF := Aside0.mk (HK3.out.then_ (Chg.set_ w3 ⟨bout, 0, none⟩ (.slice A3 q.length c3)) (fun k hk => .inl (.inl hk)))
        go_roundw
        case rel => exact ⟨j + 1, _, by omega, by go_num, ⟨HF.out.1⟩, ⟨by rw [HT.out]; exact HF.out.2⟩, HKF⟩
        case measure => simp [intOf]; omega
      · have q1 : ¬ (j : Int) < (ps.length : Int) := by omega
        have HT := Aside0.mk (show ats.take j = ats from List.take_of_length_le (by omega))
        go_wp2
        refine bodyPost_end (results_none rfl _ _ _) rfl ?_
        exact ⟨rfl, v, HB.out, by rw [← HT.out]; exact HR.out, HK.out⟩


end Go.Proofs.Ytbdmbkmokhaflaa.Q
end
