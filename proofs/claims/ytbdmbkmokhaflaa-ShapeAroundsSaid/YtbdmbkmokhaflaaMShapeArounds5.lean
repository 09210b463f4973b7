/- texts of one claim, merged: each in a section of its own -/
import Derived.Test.YtbdmbkmokhaflaaMShapeArounds3
import Derived.Test.YtbdmbkmokhaflaaMShapeArounds4
section
-- written by hprint.py (a program of these sessions) out of the translation; Lean checks it
namespace Go.Proofs.Ytbdmbkmokhaflaa.Q
open Go.RowKit Go.Proofs.YtbdmbkmokhaflaaW.Hb Go.Proofs.YtbdmbkmokhaflaaW.PrintWords Go.Proofs.YtbdmbkmokhaflaaW.PrintLast Go.Proofs.YtbdmbkmokhaflaaW.PrintMore
attribute [local go_sem] max2_int min2_int max_two min_two max_three min_three max_four min_four   -- for this text's walks alone
set_option linter.unusedVariables false
set_option linter.unusedSimpArgs false

/-! ### weighhouseref06_Match: function 15 -/
mutual
def weighhouseref06_Match.l0 : Nat → List (S31) → List Int → Int → Option (List Int × Int)
  | 0, _, _, _ => none
  | k + 1, x0, x4, x5 => if x5 < (x0.length : Int) then (if 0 ≤ x5 then (if x5 < (x4.length : Int) then (weighhouseref06_Match.l0 k x0 (x4.set (x5 : Int).toNat (-1)) (wrap64 (x5 + 1))) else (none)) else (none)) else (weighhouseref06_Match.l1 k x0 x4 0)
def weighhouseref06_Match.l1 : Nat → List (S31) → List Int → Int → Option (List Int × Int)
  | 0, _, _, _ => none
  | k + 1, x0, x4, x6 => if x6 < (x0.length : Int) then (if 0 ≤ x6 then (if ((rd_T31 x0 x6).f0) = 48 then (weighhouseref06_Match.j2 k x0 x4 x6 false) else (weighhouseref06_Match.j2 k x0 x4 x6 (((rd_T31 x0 x6).f0) != 51))) else (none)) else (weighhouseref06_Match.l2 k x0 x4 0)
def weighhouseref06_Match.j2 : Nat → List (S31) → List Int → Int → Bool → Option (List Int × Int)
  | 0, _, _, _, _ => none
  | k + 1, x0, x4, x6, x45 => if x45 = true then (weighhouseref06_Match.l1 k x0 x4 (wrap64 (x6 + 1))) else ((weighhouseref06_closes.f k x0 x6).bind fun bt230 => (if bt230.2 < 0 then (some (([] : List Int), 31)) else (if 0 ≤ x6 then (if x6 < (x4.length : Int) then (if 0 ≤ bt230.2 then (if bt230.2 < (x4.length : Int) then ((some ((x4.set (x6 : Int).toNat bt230.2).set (bt230.2 : Int).toNat x6 : List Int)).bind fun y233 => (if bt230.1 ≥ 0 then (if 0 ≤ bt230.1 then (if bt230.1 < (x4.length : Int) then (weighhouseref06_Match.l1 k x0 ((y233.set (x6 : Int).toNat bt230.1).set (bt230.1 : Int).toNat bt230.2) (wrap64 (x6 + 1))) else (none)) else (none)) else (weighhouseref06_Match.l1 k x0 y233 (wrap64 (x6 + 1))))) else (none)) else (none)) else (none)) else (none))))
def weighhouseref06_Match.l2 : Nat → List (S31) → List Int → Int → Option (List Int × Int)
  | 0, _, _, _ => none
  | k + 1, x0, x4, x9 => if x9 < (x0.length : Int) then (if 0 ≤ x9 then (if ((rd_T31 x0 x9).f0) = 49 then (if x9 < (x4.length : Int) then (if (rd x4 x9) < 0 then (some (([] : List Int), 31)) else (weighhouseref06_Match.l2 k x0 x4 (wrap64 (x9 + 1)))) else (none)) else (if ((rd_T31 x0 x9).f0) = 50 then (if x9 < (x4.length : Int) then (if (rd x4 x9) < 0 then (some (([] : List Int), 31)) else (weighhouseref06_Match.l2 k x0 x4 (wrap64 (x9 + 1)))) else (none)) else (weighhouseref06_Match.l2 k x0 x4 (wrap64 (x9 + 1))))) else (none)) else (weighhouseref06_Match.l3 k x0 x4 0)
def weighhouseref06_Match.l3 : Nat → List (S31) → List Int → Int → Option (List Int × Int)
  | 0, _, _, _ => none
  | k + 1, x0, x4, x10 => if x10 < (x0.length : Int) then ((weighhouseref06_opened.f k x0 x4 x10).bind fun t240 => (if 0 ≤ x10 then (if ((rd_T31 x0 x10).f0) = 48 then (weighhouseref06_Match.j5 k x0 x4 x10 t240 (t240.length : Int) true) else (weighhouseref06_Match.j5 k x0 x4 x10 t240 (t240.length : Int) (((rd_T31 x0 x10).f0) == 51))) else (none))) else (some (x4, 0))
def weighhouseref06_Match.j5 : Nat → List (S31) → List Int → Int → List Int → Int → Bool → Option (List Int × Int)
  | 0, _, _, _, _, _, _ => none
  | k + 1, x0, x4, x10, x11, x12, x124 => if x124 = true then (weighhouseref06_Match.j6 k x0 x4 x10 x11 (wrap64 (x12 + 1))) else (weighhouseref06_Match.j6 k x0 x4 x10 x11 x12)
def weighhouseref06_Match.j6 : Nat → List (S31) → List Int → Int → List Int → Int → Option (List Int × Int)
  | 0, _, _, _, _, _ => none
  | k + 1, x0, x4, x10, x11, x12 => if x12 > 8 then (some (([] : List Int), 31)) else (if 0 ≤ x10 then (if x10 < (x0.length : Int) then (if ((rd_T31 x0 x10).f0) = 52 then (weighhouseref06_Match.l4 k x0 x4 x10 x11 0) else (weighhouseref06_Match.l3 k x0 x4 (wrap64 (x10 + 1)))) else (none)) else (none))
def weighhouseref06_Match.l4 : Nat → List (S31) → List Int → Int → List Int → Int → Option (List Int × Int)
  | 0, _, _, _, _, _ => none
  | k + 1, x0, x4, x10, x11, x13 => if x13 < (x11.length : Int) then (if 0 ≤ x13 then (if 0 ≤ (rd x11 x13) then (if (rd x11 x13) < (x0.length : Int) then (if ((rd_T31 x0 (rd x11 x13)).f0) = 51 then (if (rd x11 x13) < (x4.length : Int) then (if 0 ≤ x10 then (if x10 < (x4.length : Int) then (weighhouseref06_Match.l4 k x0 (x4.set (x10 : Int).toNat (rd x4 (rd x11 x13))) x10 x11 (wrap64 (x13 + 1))) else (none)) else (none)) else (none)) else (weighhouseref06_Match.l4 k x0 x4 x10 x11 (wrap64 (x13 + 1)))) else (none)) else (none)) else (none)) else (if 0 ≤ x10 then (if x10 < (x4.length : Int) then (if (rd x4 x10) < 0 then (some (([] : List Int), 31)) else (weighhouseref06_Match.l3 k x0 x4 (wrap64 (x10 + 1)))) else (none)) else (none))
end
def weighhouseref06_Match.f (k : Nat) (l0 : List (S31)) : Option (List Int × Int) := if 0 ≤ (l0.length : Int) then (if ((l0.length : Int) : Int).toNat ≤ 35184372088832 then (weighhouseref06_Match.l0 k l0 (List.replicate ((l0.length : Int) : Int).toNat 0) 0) else (none)) else (none)
theorem weighhouseref06_Match.mono_l : ∀ k, (∀ y0 y1 y2, LeO (weighhouseref06_Match.l0 k y0 y1 y2) (weighhouseref06_Match.l0 (k + 1) y0 y1 y2)) ∧ (∀ y0 y1 y2, LeO (weighhouseref06_Match.l1 k y0 y1 y2) (weighhouseref06_Match.l1 (k + 1) y0 y1 y2)) ∧ (∀ y0 y1 y2 y3, LeO (weighhouseref06_Match.j2 k y0 y1 y2 y3) (weighhouseref06_Match.j2 (k + 1) y0 y1 y2 y3)) ∧ (∀ y0 y1 y2, LeO (weighhouseref06_Match.l2 k y0 y1 y2) (weighhouseref06_Match.l2 (k + 1) y0 y1 y2)) ∧ (∀ y0 y1 y2, LeO (weighhouseref06_Match.l3 k y0 y1 y2) (weighhouseref06_Match.l3 (k + 1) y0 y1 y2)) ∧ (∀ y0 y1 y2 y3 y4 y5, LeO (weighhouseref06_Match.j5 k y0 y1 y2 y3 y4 y5) (weighhouseref06_Match.j5 (k + 1) y0 y1 y2 y3 y4 y5)) ∧ (∀ y0 y1 y2 y3 y4, LeO (weighhouseref06_Match.j6 k y0 y1 y2 y3 y4) (weighhouseref06_Match.j6 (k + 1) y0 y1 y2 y3 y4)) ∧ (∀ y0 y1 y2 y3 y4, LeO (weighhouseref06_Match.l4 k y0 y1 y2 y3 y4) (weighhouseref06_Match.l4 (k + 1) y0 y1 y2 y3 y4))
  | 0 => ⟨fun _ _ _ r h => by simp [weighhouseref06_Match.l0] at h, fun _ _ _ r h => by simp [weighhouseref06_Match.l1] at h, fun _ _ _ _ r h => by simp [weighhouseref06_Match.j2] at h, fun _ _ _ r h => by simp [weighhouseref06_Match.l2] at h, fun _ _ _ r h => by simp [weighhouseref06_Match.l3] at h, fun _ _ _ _ _ _ r h => by simp [weighhouseref06_Match.j5] at h, fun _ _ _ _ _ r h => by simp [weighhouseref06_Match.j6] at h, fun _ _ _ _ _ r h => by simp [weighhouseref06_Match.l4] at h⟩
  | k + 1 => by
    obtain ⟨ih0, ih1, ih2, ih3, ih4, ih5, ih6, ih7⟩ := weighhouseref06_Match.mono_l k
    refine ⟨?_, ?_, ?_, ?_, ?_, ?_, ?_, ?_⟩
    · intro y0 y1 y2
      unfold weighhouseref06_Match.l0
      repeat' first
      | (with_reducible exact ih0 _ _ _)
      | (with_reducible exact ih1 _ _ _)
      | (with_reducible exact ih2 _ _ _ _)
      | (with_reducible exact ih3 _ _ _)
      | (with_reducible exact ih4 _ _ _)
      | (with_reducible exact ih5 _ _ _ _ _ _)
      | (with_reducible exact ih6 _ _ _ _ _)
      | (with_reducible exact ih7 _ _ _ _ _)
      | (with_reducible exact weighhouseref06_closes.mono _ _ _)
      | (with_reducible exact weighhouseref06_opened.mono _ _ _ _)
      | (with_reducible exact LeO.refl _)
      | (with_reducible exact LeO.none _)
      | (with_reducible refine LeO.ite ?_ ?_)
      | (with_reducible refine LeO.bind ?_ (fun _ => ?_))
      | exact ih0 _ _ _
      | exact ih1 _ _ _
      | exact ih2 _ _ _ _
      | exact ih3 _ _ _
      | exact ih4 _ _ _
      | exact ih5 _ _ _ _ _ _
      | exact ih6 _ _ _ _ _
      | exact ih7 _ _ _ _ _
      | exact weighhouseref06_closes.mono _ _ _
      | exact weighhouseref06_opened.mono _ _ _ _
      | exact LeO.none _
      | refine LeO.ite ?_ ?_
      | refine LeO.bind ?_ (fun _ => ?_)
    · intro y0 y1 y2
      unfold weighhouseref06_Match.l1
      repeat' first
      | (with_reducible exact ih0 _ _ _)
      | (with_reducible exact ih1 _ _ _)
      | (with_reducible exact ih2 _ _ _ _)
      | (with_reducible exact ih3 _ _ _)
      | (with_reducible exact ih4 _ _ _)
      | (with_reducible exact ih5 _ _ _ _ _ _)
      | (with_reducible exact ih6 _ _ _ _ _)
      | (with_reducible exact ih7 _ _ _ _ _)
      | (with_reducible exact weighhouseref06_closes.mono _ _ _)
      | (with_reducible exact weighhouseref06_opened.mono _ _ _ _)
      | (with_reducible exact LeO.refl _)
      | (with_reducible exact LeO.none _)
      | (with_reducible refine LeO.ite ?_ ?_)
      | (with_reducible refine LeO.bind ?_ (fun _ => ?_))
      | exact ih0 _ _ _
      | exact ih1 _ _ _
      | exact ih2 _ _ _ _
      | exact ih3 _ _ _
      | exact ih4 _ _ _
      | exact ih5 _ _ _ _ _ _
      | exact ih6 _ _ _ _ _
      | exact ih7 _ _ _ _ _
      | exact weighhouseref06_closes.mono _ _ _
      | exact weighhouseref06_opened.mono _ _ _ _
      | exact LeO.none _
      | refine LeO.ite ?_ ?_
      | refine LeO.bind ?_ (fun _ => ?_)
    · intro y0 y1 y2 y3
      unfold weighhouseref06_Match.j2
      repeat' first
      | (with_reducible exact ih0 _ _ _)
      | (with_reducible exact ih1 _ _ _)
      | (with_reducible exact ih2 _ _ _ _)
      | (with_reducible exact ih3 _ _ _)
      | (with_reducible exact ih4 _ _ _)
      | (with_reducible exact ih5 _ _ _ _ _ _)
      | (with_reducible exact ih6 _ _ _ _ _)
      | (with_reducible exact ih7 _ _ _ _ _)
      | (with_reducible exact weighhouseref06_closes.mono _ _ _)
      | (with_reducible exact weighhouseref06_opened.mono _ _ _ _)
      | (with_reducible exact LeO.refl _)
      | (with_reducible exact LeO.none _)
      | (with_reducible refine LeO.ite ?_ ?_)
      | (with_reducible refine LeO.bind ?_ (fun _ => ?_))
      | exact ih0 _ _ _
      | exact ih1 _ _ _
      | exact ih2 _ _ _ _
      | exact ih3 _ _ _
      | exact ih4 _ _ _
      | exact ih5 _ _ _ _ _ _
      | exact ih6 _ _ _ _ _
      | exact ih7 _ _ _ _ _
      | exact weighhouseref06_closes.mono _ _ _
      | exact weighhouseref06_opened.mono _ _ _ _
      | exact LeO.none _
      | refine LeO.ite ?_ ?_
      | refine LeO.bind ?_ (fun _ => ?_)
    · intro y0 y1 y2
      unfold weighhouseref06_Match.l2
      repeat' first
      | (with_reducible exact ih0 _ _ _)
      | (with_reducible exact ih1 _ _ _)
      | (with_reducible exact ih2 _ _ _ _)
      | (with_reducible exact ih3 _ _ _)
      | (with_reducible exact ih4 _ _ _)
      | (with_reducible exact ih5 _ _ _ _ _ _)
      | (with_reducible exact ih6 _ _ _ _ _)
      | (with_reducible exact ih7 _ _ _ _ _)
      | (with_reducible exact weighhouseref06_closes.mono _ _ _)
      | (with_reducible exact weighhouseref06_opened.mono _ _ _ _)
      | (with_reducible exact LeO.refl _)
      | (with_reducible exact LeO.none _)
      | (with_reducible refine LeO.ite ?_ ?_)
      | (with_reducible refine LeO.bind ?_ (fun _ => ?_))
      | exact ih0 _ _ _
      | exact ih1 _ _ _
      | exact ih2 _ _ _ _
      | exact ih3 _ _ _
      | exact ih4 _ _ _
      | exact ih5 _ _ _ _ _ _
      | exact ih6 _ _ _ _ _
      | exact ih7 _ _ _ _ _
      | exact weighhouseref06_closes.mono _ _ _
      | exact weighhouseref06_opened.mono _ _ _ _
      | exact LeO.none _
      | refine LeO.ite ?_ ?_
      | refine LeO.bind ?_ (fun _ => ?_)
    · intro y0 y1 y2
      unfold weighhouseref06_Match.l3
      repeat' first
      | (with_reducible exact ih0 _ _ _)
      | (with_reducible exact ih1 _ _ _)
      | (with_reducible exact ih2 _ _ _ _)
      | (with_reducible exact ih3 _ _ _)
      | (with_reducible exact ih4 _ _ _)
      | (with_reducible exact ih5 _ _ _ _ _ _)
      | (with_reducible exact ih6 _ _ _ _ _)
      | (with_reducible exact ih7 _ _ _ _ _)
      | (with_reducible exact weighhouseref06_closes.mono _ _ _)
      | (with_reducible exact weighhouseref06_opened.mono _ _ _ _)
      | (with_reducible exact LeO.refl _)
      | (with_reducible exact LeO.none _)
      | (with_reducible refine LeO.ite ?_ ?_)
      | (with_reducible refine LeO.bind ?_ (fun _ => ?_))
      | exact ih0 _ _ _
      | exact ih1 _ _ _
      | exact ih2 _ _ _ _
      | exact ih3 _ _ _
      | exact ih4 _ _ _
      | exact ih5 _ _ _ _ _ _
      | exact ih6 _ _ _ _ _
      | exact ih7 _ _ _ _ _
      | exact weighhouseref06_closes.mono _ _ _
      | exact weighhouseref06_opened.mono _ _ _ _
      | exact LeO.none _
      | refine LeO.ite ?_ ?_
      | refine LeO.bind ?_ (fun _ => ?_)
    · intro y0 y1 y2 y3 y4 y5
      unfold weighhouseref06_Match.j5
      repeat' first
      | (with_reducible exact ih0 _ _ _)
      | (with_reducible exact ih1 _ _ _)
      | (with_reducible exact ih2 _ _ _ _)
      | (with_reducible exact ih3 _ _ _)
      | (with_reducible exact ih4 _ _ _)
      | (with_reducible exact ih5 _ _ _ _ _ _)
      | (with_reducible exact ih6 _ _ _ _ _)
      | (with_reducible exact ih7 _ _ _ _ _)
      | (with_reducible exact weighhouseref06_closes.mono _ _ _)
      | (with_reducible exact weighhouseref06_opened.mono _ _ _ _)
      | (with_reducible exact LeO.refl _)
      | (with_reducible exact LeO.none _)
      | (with_reducible refine LeO.ite ?_ ?_)
      | (with_reducible refine LeO.bind ?_ (fun _ => ?_))
      | exact ih0 _ _ _
      | exact ih1 _ _ _
      | exact ih2 _ _ _ _
      | exact ih3 _ _ _
      | exact ih4 _ _ _
      | exact ih5 _ _ _ _ _ _
      | exact ih6 _ _ _ _ _
      | exact ih7 _ _ _ _ _
      | exact weighhouseref06_closes.mono _ _ _
      | exact weighhouseref06_opened.mono _ _ _ _
      | exact LeO.none _
      | refine LeO.ite ?_ ?_
      | refine LeO.bind ?_ (fun _ => ?_)
    · intro y0 y1 y2 y3 y4
      unfold weighhouseref06_Match.j6
      repeat' first
      | (with_reducible exact ih0 _ _ _)
      | (with_reducible exact ih1 _ _ _)
      | (with_reducible exact ih2 _ _ _ _)
      | (with_reducible exact ih3 _ _ _)
      | (with_reducible exact ih4 _ _ _)
      | (with_reducible exact ih5 _ _ _ _ _ _)
      | (with_reducible exact ih6 _ _ _ _ _)
      | (with_reducible exact ih7 _ _ _ _ _)
      | (with_reducible exact weighhouseref06_closes.mono _ _ _)
      | (with_reducible exact weighhouseref06_opened.mono _ _ _ _)
      | (with_reducible exact LeO.refl _)
      | (with_reducible exact LeO.none _)
      | (with_reducible refine LeO.ite ?_ ?_)
      | (with_reducible refine LeO.bind ?_ (fun _ => ?_))
      | exact ih0 _ _ _
      | exact ih1 _ _ _
      | exact ih2 _ _ _ _
      | exact ih3 _ _ _
      | exact ih4 _ _ _
      | exact ih5 _ _ _ _ _ _
      | exact ih6 _ _ _ _ _
      | exact ih7 _ _ _ _ _
      | exact weighhouseref06_closes.mono _ _ _
      | exact weighhouseref06_opened.mono _ _ _ _
      | exact LeO.none _
      | refine LeO.ite ?_ ?_
      | refine LeO.bind ?_ (fun _ => ?_)
    · intro y0 y1 y2 y3 y4
      unfold weighhouseref06_Match.l4
      repeat' first
      | (with_reducible exact ih0 _ _ _)
      | (with_reducible exact ih1 _ _ _)
      | (with_reducible exact ih2 _ _ _ _)
      | (with_reducible exact ih3 _ _ _)
      | (with_reducible exact ih4 _ _ _)
      | (with_reducible exact ih5 _ _ _ _ _ _)
      | (with_reducible exact ih6 _ _ _ _ _)
      | (with_reducible exact ih7 _ _ _ _ _)
      | (with_reducible exact weighhouseref06_closes.mono _ _ _)
      | (with_reducible exact weighhouseref06_opened.mono _ _ _ _)
      | (with_reducible exact LeO.refl _)
      | (with_reducible exact LeO.none _)
      | (with_reducible refine LeO.ite ?_ ?_)
      | (with_reducible refine LeO.bind ?_ (fun _ => ?_))
      | exact ih0 _ _ _
      | exact ih1 _ _ _
      | exact ih2 _ _ _ _
      | exact ih3 _ _ _
      | exact ih4 _ _ _
      | exact ih5 _ _ _ _ _ _
      | exact ih6 _ _ _ _ _
      | exact ih7 _ _ _ _ _
      | exact weighhouseref06_closes.mono _ _ _
      | exact weighhouseref06_opened.mono _ _ _ _
      | exact LeO.none _
      | refine LeO.ite ?_ ?_
      | refine LeO.bind ?_ (fun _ => ?_)
theorem weighhouseref06_Match.mono : ∀ a0 k, LeO (weighhouseref06_Match.f k a0) (weighhouseref06_Match.f (k + 1) a0) := by
  intro a0 k
  obtain ⟨ih0, ih1, ih2, ih3, ih4, ih5, ih6, ih7⟩ := weighhouseref06_Match.mono_l k
  unfold weighhouseref06_Match.f
  repeat' first
      | (with_reducible exact ih0 _ _ _)
      | (with_reducible exact ih1 _ _ _)
      | (with_reducible exact ih2 _ _ _ _)
      | (with_reducible exact ih3 _ _ _)
      | (with_reducible exact ih4 _ _ _)
      | (with_reducible exact ih5 _ _ _ _ _ _)
      | (with_reducible exact ih6 _ _ _ _ _)
      | (with_reducible exact ih7 _ _ _ _ _)
      | (with_reducible exact weighhouseref06_closes.mono _ _ _)
      | (with_reducible exact weighhouseref06_opened.mono _ _ _ _)
      | (with_reducible exact LeO.refl _)
      | (with_reducible exact LeO.none _)
      | (with_reducible refine LeO.ite ?_ ?_)
      | (with_reducible refine LeO.bind ?_ (fun _ => ?_))
      | exact ih0 _ _ _
      | exact ih1 _ _ _
      | exact ih2 _ _ _ _
      | exact ih3 _ _ _
      | exact ih4 _ _ _
      | exact ih5 _ _ _ _ _ _
      | exact ih6 _ _ _ _ _
      | exact ih7 _ _ _ _ _
      | exact weighhouseref06_closes.mono _ _ _
      | exact weighhouseref06_opened.mono _ _ _ _
      | exact LeO.none _
      | refine LeO.ite ?_ ?_
      | refine LeO.bind ?_ (fun _ => ?_)
set_option maxHeartbeats 8000000 in
set_option maxRecDepth 100000 in
theorem weighhouseref06_Match.calls (k : Nat) (A0 : Option Addr) (c0 : Nat) (l0 : List (S31)) (r1 : List Int) (r2 : Int) (w : World) (hr0 : Kd.C k31 w A0 l0.length l0) (hc0 : l0.length ≤ c0) (h : weighhouseref06_Match.f k l0 = some (r1, r2)) :
    Calls Try.prog 15 #[.slice A0 l0.length c0] w fun e w' => ∃ v0_ : Value, e = .returned (.tuple #[v0_, .int .i64 r2]) ∧ Kd.R (Kd.int .i64) 3 w' w.heap.size (fun _ => True) v0_ r1 ∧ Below w.heap.size w w' := by
  have HR0 := Aside0.mk hr0
  have HC0 := Aside0.mk hc0
  clear hr0 hc0
  have HB := Aside0.mk (Below.refl w.heap.size w)
  have H : (if 0 ≤ (l0.length : Int) then (if ((l0.length : Int) : Int).toNat ≤ 35184372088832 then (weighhouseref06_Match.l0 k l0 (List.replicate ((l0.length : Int) : Int).toNat 0) 0) else (none)) else (none)) = some (r1, r2) := h
  clear h
  by_cases c2 : 0 ≤ (l0.length : Int)
  · rw [if_pos c2] at H
    have c2b0 := eq_true c2
    have c2b1 : decide (0 ≤ (l0.length : Int)) = true := decide_eq_true c2
    clear c2
    by_cases c3 : ((l0.length : Int) : Int).toNat ≤ 35184372088832
    · rw [if_pos c3] at H
      have c3b0 := eq_true c3
      have c3b1 : decide (((l0.length : Int) : Int).toNat ≤ 35184372088832) = true := decide_eq_true c3
      clear c3
      obtain ⟨y224, hy224⟩ : ∃ y_ : List Int, y_ = (List.replicate ((l0.length : Int) : Int).toNat 0) := ⟨_, rfl⟩
      replace H : (weighhouseref06_Match.l0 k l0 y224 0) = some (r1, r2) := by first | (rw [hy224]; with_reducible exact H) | (have H2_ := (Option.bind_some _ _).symm.trans H; rw [hy224]; with_reducible exact H2_) | (have H2_ := (Option.bind_some _ _).symm.trans H; with_reducible exact H2_) | with_reducible exact H | (rw [hy224]; exact H) | exact H
      have Ny224 := Aside0.mk hy224
      clear hy224
      have H' := Aside0.mk H
      clear H
      go_enter Try.func15, Try.ntmps15
      go_wp2_with (first | ((with_reducible refine gate_dst (N := 16) rfl ?_); refine Kd.R_make (Kd.int .i64) _ 3 rfl (N := 16) rfl 24 _ _ rfl (l0.length : Int) rfl rfl Try.underlying24 (.int .i64 0) 8 info3 rfl (by decide) (by omega) 0 (ok := fun _ => True) (okp := fun _ => True) rfl (fun _ hk => hk) trivial (of_decide_eq_true (by first | (with_reducible assumption) | assumption)) (Nat.le_trans (Nat.mul_le_mul_right _ (of_decide_eq_true (by first | (with_reducible assumption) | assumption) : (l0.length : Int).toNat ≤ 35184372088832)) (by omega)) (Below.refl _ _) (Nat.le_refl _) ?_; intro v225 w4 ho5 hb hg_ hnew_; clear hg_ hnew_; (first | rw [← Ny224.out] at ho5 | (simp only [Int.reduceToNat] at ho5; rw [← Ny224.out] at ho5)); have n0_ := Aside0.mk (Kd.R_lower ho5 (below_size (by repeat (first | (with_reducible first | exact HB.out | apply below_alloc | apply pw_below_drewN | apply below_drew1) | exact HB.out)))); have n1_ := Aside0.mk (below_step (by repeat (first | (with_reducible first | exact HB.out | apply below_alloc | apply pw_below_drewN | apply below_drew1) | exact HB.out)) hb); clear HB; have HO226 := n0_; have HB := n1_; clear n0_ n1_; clear hb ho5))
      go_loopg [5] k (fun kq v5 w' => ∃ (x4_1 : List Int) (x5_1 : Int), v5 = .int .i64 x5_1 ∧ Aside0 (weighhouseref06_Match.l0 kq l0 x4_1 x5_1 = some (r1, r2)) ∧ Aside0 (kq ≤ k) ∧ Aside0 (Kd.R (Kd.int .i64) 3 w' w.heap.size (fun _ => True) v225 x4_1) ∧ Aside0 (Below w.heap.size w w'))
      case atStart => exact ⟨(y224), (0), (by first | rfl | (simp; done) | (simp [*]; done)), H', ⟨Nat.le_refl _⟩, ⟨by (with_reducible repeat (first | apply Kd.R_alloc | apply Kd.R_drewN | apply Kd.R_drew)); exact HO226.out⟩, ⟨by repeat (first | (with_reducible first | exact HB.out | apply below_alloc | apply pw_below_drewN | apply below_drew1) | exact HB.out)⟩⟩
      case round =>
        clear H'
        try clear c1
        try clear c2
        try clear c2b0
        try clear c2b1
        try clear p2
        try clear c3
        try clear c3b0
        try clear c3b1
        obtain ⟨x4_1, x5_1, rfl, HA, HK1, HO_4, HB⟩ := hrel
        cases gk with
        | zero => exact absurd HA.out (by simp [weighhouseref06_Match.l0])
        | succ k1 =>
          have H := HA.out
          clear HA
          simp only [weighhouseref06_Match.l0] at H
          by_cases c6 : x5_1 < (l0.length : Int)
          · rw [if_pos c6] at H
            have c6b0 : decide (x5_1 < (l0.length : Int)) = true := decide_eq_true c6
            clear c6
            by_cases c7 : 0 ≤ x5_1
            · rw [if_pos c7] at H
              have c7b0 : decide (0 ≤ x5_1) = true := decide_eq_true c7
              clear c7
              by_cases c8 : x5_1 < (x4_1.length : Int)
              · rw [if_pos c8] at H
                have c8b0 : decide (x5_1 < (x4_1.length : Int)) = true := decide_eq_true c8
                clear c8
                obtain ⟨y227, hy227⟩ : ∃ y_ : List Int, y_ = (x4_1.set (x5_1 : Int).toNat (-1)) := ⟨_, rfl⟩
                replace H : (weighhouseref06_Match.l0 k1 l0 y227 (wrap64 (x5_1 + 1))) = some (r1, r2) := by first | (rw [hy227]; with_reducible exact H) | (have H2_ := (Option.bind_some _ _).symm.trans H; rw [hy227]; with_reducible exact H2_) | (have H2_ := (Option.bind_some _ _).symm.trans H; with_reducible exact H2_) | with_reducible exact H | (rw [hy227]; exact H) | exact H
                have Ny227 := Aside0.mk hy227
                clear hy227
                have H' := Aside0.mk H
                clear H
                have p9 : 0 ≤ (x5_1 : Int) := of_decide_eq_true (by first | (with_reducible assumption) | assumption)
                have q9 : (x5_1 : Int) < ((x4_1.length : Int) : Int) := of_decide_eq_true (by first | (with_reducible assumption) | assumption)
                obtain ⟨go9, co9, eo9, gb9, gl9, cl9, HG9⟩ := Kd.R_form HO_4.out (by omega)
                (first | cases eo9 | (injection eo9 with ea_ en_ ec_; (first | subst ea_ | (injection ea_ with ea_; subst ea_)); subst ec_; clear en_))
                have GB9 := Aside0.mk gb9
                have GG9 := Aside0.mk HG9
                clear gb9 gl9 HG9
                obtain ⟨hx9_0, hf9_0⟩ := Kd.R_celln 0 HO_4.out (x5_1 : Int) p9 q9
                replace p9 := eq_true p9
                replace q9 := eq_true q9
                have HP10 := Kd.R_putg HO_4.out (x5_1 : Int) (-1)
                go_wp2_with (first | ((with_reducible refine gate_store (t := 3) (p := 25) rfl ?_); refine store_event (t := 3) (p := 25) (v := ?vo_w11) (w1 := (wr.setCell ⟨go9, (x5_1 : Int).toNat, none⟩ (.int .i64 (-1)))) ?hg ?ho ?hn ?hr ?_; (case ho => rfl); (case hg => rfl); (case hn => rfl); (case hr => first | (go_simp; done) | (go_simp; rfl)); intro w11 hw; have hg : wr.grownBy w11 (some go9) := (by rw [hw]; exact HP10.2); have hp_ : Kd.R (Kd.int .i64) 3 w11 w.heap.size (fun _ => True) (.slice (some ⟨go9, 0, none⟩) x4_1.length co9) y227 := (by rw [hw, Ny227.out]; exact HP10.1); clear HP10; have n0_ := Aside0.mk (hp_); have n1_ := Aside0.mk ((by rw [hw]; exact below_set (HB.out) GB9.out : Below w.heap.size w w11)); clear HO_4; clear HB; have HO_4 := n0_; have HB := n1_; clear n0_ n1_; clear hg hw hp_))
                go_roundg k1
                case measure => have := HK1.out; omega
                case rel => exact ⟨(y227), (wrap64 (x5_1 + 1)), (by first | rfl | (simp; done) | (simp [*]; done)), H', ⟨by have := HK1.out; omega⟩, ⟨by (with_reducible repeat (first | apply Kd.R_alloc | apply Kd.R_drewN | apply Kd.R_drew)); exact HO_4.out⟩, ⟨by repeat (first | (with_reducible first | exact HB.out | apply below_alloc | apply pw_below_drewN | apply below_drew1) | exact HB.out)⟩⟩
              · rw [if_neg c8] at H
                exact absurd H (by simp)
            · rw [if_neg c7] at H
              exact absurd H (by simp)
          · rw [if_neg c6] at H
            have c6b0 : decide (x5_1 < (l0.length : Int)) = false := decide_eq_false c6
            clear c6
            have H' := Aside0.mk H
            clear H
            go_wp2
            go_loopg [6] k1 (fun kq v6 w' => ∃ (x4_2 : List Int) (x6_2 : Int), v6 = .int .i64 x6_2 ∧ Aside0 (weighhouseref06_Match.l1 kq l0 x4_2 x6_2 = some (r1, r2)) ∧ Aside0 (kq ≤ k1) ∧ Aside0 (Kd.R (Kd.int .i64) 3 w' w.heap.size (fun _ => True) v225 x4_2) ∧ Aside0 (Below w.heap.size w w'))
            case atStart => exact ⟨(x4_1), (0), (by first | rfl | (simp; done) | (simp [*]; done)), H', ⟨Nat.le_refl _⟩, ⟨by (with_reducible repeat (first | apply Kd.R_alloc | apply Kd.R_drewN | apply Kd.R_drew)); exact HO_4.out⟩, ⟨by repeat (first | (with_reducible first | exact HB.out | apply below_alloc | apply pw_below_drewN | apply below_drew1) | exact HB.out)⟩⟩
            case round =>
              clear H'
              try clear c1
              try clear c2
              try clear c2b0
              try clear c2b1
              try clear p2
              try clear c3
              try clear c3b0
              try clear c3b1
              try clear c6
              try clear c6b0
              try clear p6
              try clear c7
              try clear c7b0
              try clear c8
              try clear c8b0
              try clear p9
              try clear q9
              try clear hx9
              try clear hf9
              try clear hx9_0
              try clear p2
              try clear p9
              try clear q9
              obtain ⟨x4_2, x6_2, rfl, HA, HK2, HO_4, HB⟩ := hrel
              cases gk with
              | zero => exact absurd HA.out (by simp [weighhouseref06_Match.l1])
              | succ k2 =>
                have H := HA.out
                clear HA
                simp only [weighhouseref06_Match.l1] at H
                by_cases c12 : x6_2 < (l0.length : Int)
                · rw [if_pos c12] at H
                  have c12b0 : decide (x6_2 < (l0.length : Int)) = true := decide_eq_true c12
                  clear c12
                  have HC13 := Aside0.mk H
                  clear H
                  go_upto_region 9 with (fail)
                  go_cut [45] (fun v45 wc => ∃ (kq : Nat) (x45_12 : Bool), v45 = .bool x45_12 ∧ Aside0 (weighhouseref06_Match.j2 kq l0 x4_2 x6_2 x45_12 = some (r1, r2)) ∧ Aside0 (kq ≤ k2) ∧ Aside0 (Kd.R (Kd.int .i64) 3 wc w.heap.size (fun _ => True) v225 x4_2) ∧ Aside0 (Below w.heap.size w wc))
                  case first =>
                    have H := HC13.out
                    clear HC13
                    by_cases c14 : 0 ≤ x6_2
                    · rw [if_pos c14] at H
                      have c14b0 : decide (0 ≤ x6_2) = true := decide_eq_true c14
                      clear c14
                      (first | rw [c14b0] | (simp only [i64_w, i32_w]; rw [c14b0]) | skip)
                      by_cases c15 : ((rd_T31 l0 x6_2).f0) = 48
                      · rw [if_pos c15] at H
                        have c15b0 : (((rd_T31 l0 x6_2).f0) == 48) = true := beq_iff_eq.mpr c15
                        have c15b1 : (((rd_T31 l0 x6_2).f0) != 48) = false := bne_eq_false_iff_eq.mpr c15
                        clear c15
                        have H' := Aside0.mk H
                        clear H
                        have p228 : 0 ≤ (x6_2 : Int) := of_decide_eq_true (by first | (with_reducible assumption) | assumption)
                        have q228 : x6_2 < (l0.length : Int) := of_decide_eq_true (by first | (with_reducible assumption) | assumption)
                        obtain ⟨ad228, e228, hx228_0, hx228_1⟩ := at_T31 HR0.out x6_2 p228 q228
                        cases e228
                        replace hx228_0 := (HB.out.cell (World.block_lt_of_cell? w _ hx228_0)).trans hx228_0
                        replace hx228_1 := (HB.out.cell (World.block_lt_of_cell? w _ hx228_1)).trans hx228_1
                        replace p228 := eq_true p228
                        replace q228 := eq_true q228
                        go_wp2
                        go_meet
                        case rel => exact ⟨_, (false), (by first | rfl | (simp; done) | (simp [*]; done)), H', ⟨by have := HK1.out; have := HK2.out; first | omega | exact Nat.le_refl _⟩, ⟨by (with_reducible repeat (first | apply Kd.R_alloc | apply Kd.R_drewN | apply Kd.R_drew)); exact HO_4.out⟩, ⟨by repeat (first | (with_reducible first | exact HB.out | apply below_alloc | apply pw_below_drewN | apply below_drew1) | exact HB.out)⟩⟩
                      · rw [if_neg c15] at H
                        have c15b0 : (((rd_T31 l0 x6_2).f0) == 48) = false := beq_eq_false_iff_ne.mpr c15
                        have c15b1 : (((rd_T31 l0 x6_2).f0) != 48) = true := bne_iff_ne.mpr c15
                        have H' := Aside0.mk H
                        clear H
                        have p228 : 0 ≤ (x6_2 : Int) := of_decide_eq_true (by first | (with_reducible assumption) | assumption)
                        have q228 : x6_2 < (l0.length : Int) := of_decide_eq_true (by first | (with_reducible assumption) | assumption)
                        obtain ⟨ad228, e228, hx228_0, hx228_1⟩ := at_T31 HR0.out x6_2 p228 q228
                        cases e228
                        replace hx228_0 := (HB.out.cell (World.block_lt_of_cell? w _ hx228_0)).trans hx228_0
                        replace hx228_1 := (HB.out.cell (World.block_lt_of_cell? w _ hx228_1)).trans hx228_1
                        replace p228 := eq_true p228
                        replace q228 := eq_true q228
                        have p229 : 0 ≤ (x6_2 : Int) := of_decide_eq_true (by first | (with_reducible assumption) | assumption)
                        have q229 : x6_2 < (l0.length : Int) := of_decide_eq_true (by first | (with_reducible assumption) | assumption)
                        obtain ⟨ad229, e229, hx229_0, hx229_1⟩ := at_T31 HR0.out x6_2 p229 q229
                        obtain rfl : ad228 = ad229 := (by injection e229)
                        replace hx229_0 := (HB.out.cell (World.block_lt_of_cell? w _ hx229_0)).trans hx229_0
                        replace hx229_1 := (HB.out.cell (World.block_lt_of_cell? w _ hx229_1)).trans hx229_1
                        replace p229 := eq_true p229
                        replace q229 := eq_true q229
                        go_wp2
                        go_meet
                        case rel => exact ⟨_, ((((rd_T31 l0 x6_2).f0) != 51)), (by first | rfl | (simp; done) | (simp [*]; done)), H', ⟨by have := HK1.out; have := HK2.out; first | omega | exact Nat.le_refl _⟩, ⟨by (with_reducible repeat (first | apply Kd.R_alloc | apply Kd.R_drewN | apply Kd.R_drew)); exact HO_4.out⟩, ⟨by repeat (first | (with_reducible first | exact HB.out | apply below_alloc | apply pw_below_drewN | apply below_drew1) | exact HB.out)⟩⟩
                    · rw [if_neg c14] at H
                      exact absurd H (by simp)
                  case rest =>
                    clear HC13
                    try clear c1
                    try clear c2
                    try clear c2b0
                    try clear c2b1
                    try clear p2
                    try clear q2
                    try clear hx2
                    try clear c3
                    try clear c3b0
                    try clear c3b1
                    try clear c6
                    try clear c6b0
                    try clear p6
                    try clear c7
                    try clear c7b0
                    try clear c8
                    try clear c8b0
                    try clear p9
                    try clear q9
                    try clear hx9
                    try clear hf9
                    try clear c12
                    try clear c12b0
                    try clear c14
                    try clear c14b0
                    try clear c15
                    try clear c15b0
                    try clear c15b1
                    try clear hx228_0
                    try clear hx228_1
                    try clear hx229_0
                    try clear hx229_1
                    try clear hx9_0
                    try clear p2
                    try clear p228
                    try clear p229
                    try clear p6
                    try clear p9
                    try clear q228
                    try clear q229
                    try clear q9
                    obtain ⟨kq, x45_12, rfl, HA, HJ12, HO_4, HB⟩ := hcut
                    cases kq with
                    | zero => exact absurd HA.out (by simp [weighhouseref06_Match.j2])
                    | succ kj12 =>
                      have H := HA.out
                      clear HA
                      simp only [weighhouseref06_Match.j2] at H
                      by_cases c16 : x45_12 = true
                      · subst c16
                        have H1 : (weighhouseref06_Match.l1 kj12 l0 x4_2 (wrap64 (x6_2 + 1))) = some (r1, r2) := by rw [if_pos rfl] at H; exact H
                        clear H
                        have H := H1
                        clear H1
                        have H' := Aside0.mk H
                        clear H
                        go_wp2
                        go_roundg kj12
                        case measure => have := HK1.out; have := HK2.out; have := HJ12.out; omega
                        case rel => exact ⟨(x4_2), (wrap64 (x6_2 + 1)), (by first | rfl | (simp; done) | (simp [*]; done)), H', ⟨by have := HK1.out; have := HK2.out; have := HJ12.out; omega⟩, ⟨by (with_reducible repeat (first | apply Kd.R_alloc | apply Kd.R_drewN | apply Kd.R_drew)); exact HO_4.out⟩, ⟨by repeat (first | (with_reducible first | exact HB.out | apply below_alloc | apply pw_below_drewN | apply below_drew1) | exact HB.out)⟩⟩
                      · replace c16 := Bool.eq_false_iff.mpr c16
                        subst c16
                        have H1 : ((weighhouseref06_closes.f kj12 l0 x6_2).bind fun bt230 => (if bt230.2 < 0 then (some (([] : List Int), 31)) else (if 0 ≤ x6_2 then (if x6_2 < (x4_2.length : Int) then (if 0 ≤ bt230.2 then (if bt230.2 < (x4_2.length : Int) then ((some ((x4_2.set (x6_2 : Int).toNat bt230.2).set (bt230.2 : Int).toNat x6_2 : List Int)).bind fun y233 => (if bt230.1 ≥ 0 then (if 0 ≤ bt230.1 then (if bt230.1 < (x4_2.length : Int) then (weighhouseref06_Match.l1 kj12 l0 ((y233.set (x6_2 : Int).toNat bt230.1).set (bt230.1 : Int).toNat bt230.2) (wrap64 (x6_2 + 1))) else (none)) else (none)) else (weighhouseref06_Match.l1 kj12 l0 y233 (wrap64 (x6_2 + 1))))) else (none)) else (none)) else (none)) else (none)))) = some (r1, r2) := by rw [if_neg (show ¬ (false = true) by decide)] at H; exact H
                        clear H
                        have H := H1
                        clear H1
                        replace H := Option.bind_eq_some_iff.mp H
                        obtain ⟨⟨t230, t231⟩, A170, H⟩ := H
                        replace H : (if t231 < 0 then (some (([] : List Int), 31)) else (if 0 ≤ x6_2 then (if x6_2 < (x4_2.length : Int) then (if 0 ≤ t231 then (if t231 < (x4_2.length : Int) then ((some ((x4_2.set (x6_2 : Int).toNat t231).set (t231 : Int).toNat x6_2 : List Int)).bind fun y233 => (if t230 ≥ 0 then (if 0 ≤ t230 then (if t230 < (x4_2.length : Int) then (weighhouseref06_Match.l1 kj12 l0 ((y233.set (x6_2 : Int).toNat t230).set (t230 : Int).toNat t231) (wrap64 (x6_2 + 1))) else (none)) else (none)) else (weighhouseref06_Match.l1 kj12 l0 y233 (wrap64 (x6_2 + 1))))) else (none)) else (none)) else (none)) else (none))) = some (r1, r2) := H
                        have A17 := Aside0.mk A170
                        clear A170
                        by_cases c18 : t231 < 0
                        · rw [if_pos c18] at H
                          have c18b0 : decide (t231 < 0) = true := decide_eq_true c18
                          clear c18
                          simp only [Option.some.injEq, Prod.mk.injEq] at H
                          obtain ⟨rfl, rfl⟩ := H
                          go_wp2_with (first | ((with_reducible refine gate_callee (f := 23) rfl ?_); refine goesL_ (some 49) rfl rfl Try.func23 (by kernel_rfl) rfl #[.slice A0 l0.length c0, .int .i64 x6_2] rfl (by (try simp only [List.map_toArray, List.map_cons, List.map_nil]); first | done | rfl | (simp only [List.length_drop, List.length_take]; rfl)) ?_; (with_reducible refine (weighhouseref06_closes.calls kj12 _ _ l0 x6_2 t230 t231 _ ?side1 ?side2 A17.out).mono ?_); (case side1 => repeat (first | exact (Kd.C_below HR0.out HB.out) | (with_reducible refine Kd.C_alloc ?_ _) | (with_reducible refine Kd.C_drewN ?_ _) | (with_reducible refine Kd.C_drew ?_))); (case side2 => exact HC0.out); rintro e w' ⟨rfl, ⟨nd, rfl⟩⟩; refine ⟨_, rfl, ?_⟩))
                          go_ret2
                          exact ⟨_, by first | rfl | (simp [errW_none, errW_some] <;> rfl) | (simp [*, errW_none, errW_some] <;> rfl), by first | exact Kd.R_nil _ _ _ _ _ | exact Kd.N_nil _ _ _ _ _ | exact Kd.V_nil _ _ _ _ _ | exact Kd.Q_nil _ _ _ _ _ | exact Kd.S_nil _ _ _ _ _, by repeat (first | (with_reducible first | exact HB.out | apply below_alloc | apply pw_below_drewN | apply below_drew1) | exact HB.out)⟩
                        · rw [if_neg c18] at H
                          have c18b0 : decide (t231 < 0) = false := decide_eq_false c18
                          clear c18
                          by_cases c19 : 0 ≤ x6_2
                          · rw [if_pos c19] at H
                            have c19b0 : decide (0 ≤ x6_2) = true := decide_eq_true c19
                            clear c19
                            by_cases c20 : x6_2 < (x4_2.length : Int)
                            · rw [if_pos c20] at H
                              have c20b0 : decide (x6_2 < (x4_2.length : Int)) = true := decide_eq_true c20
                              clear c20
                              obtain ⟨y232, hy232⟩ : ∃ y_ : List Int, y_ = (x4_2.set (x6_2 : Int).toNat t231) := ⟨_, rfl⟩
                              replace H : (if 0 ≤ t231 then (if t231 < (x4_2.length : Int) then ((some (y232.set (t231 : Int).toNat x6_2 : List Int)).bind fun y233 => (if t230 ≥ 0 then (if 0 ≤ t230 then (if t230 < (x4_2.length : Int) then (weighhouseref06_Match.l1 kj12 l0 ((y233.set (x6_2 : Int).toNat t230).set (t230 : Int).toNat t231) (wrap64 (x6_2 + 1))) else (none)) else (none)) else (weighhouseref06_Match.l1 kj12 l0 y233 (wrap64 (x6_2 + 1))))) else (none)) else (none)) = some (r1, r2) := by first | (rw [hy232]; with_reducible exact H) | (have H2_ := (Option.bind_some _ _).symm.trans H; rw [hy232]; with_reducible exact H2_) | (have H2_ := (Option.bind_some _ _).symm.trans H; with_reducible exact H2_) | with_reducible exact H | (rw [hy232]; exact H) | exact H
                              have Ny232 := Aside0.mk hy232
                              clear hy232
                              by_cases c22 : 0 ≤ t231
                              · rw [if_pos c22] at H
                                have c22b0 : decide (0 ≤ t231) = true := decide_eq_true c22
                                clear c22
                                by_cases c23 : t231 < (x4_2.length : Int)
                                · rw [if_pos c23] at H
                                  have c23b0 : decide (t231 < (x4_2.length : Int)) = true := decide_eq_true c23
                                  clear c23
                                  obtain ⟨y233, hy233⟩ : ∃ y_ : List Int, y_ = (y232.set (t231 : Int).toNat x6_2) := ⟨_, rfl⟩
                                  replace H : (if t230 ≥ 0 then (if 0 ≤ t230 then (if t230 < (x4_2.length : Int) then (weighhouseref06_Match.l1 kj12 l0 ((y233.set (x6_2 : Int).toNat t230).set (t230 : Int).toNat t231) (wrap64 (x6_2 + 1))) else (none)) else (none)) else (weighhouseref06_Match.l1 kj12 l0 y233 (wrap64 (x6_2 + 1)))) = some (r1, r2) := by first | (rw [hy233]; with_reducible exact H) | (have H2_ := (Option.bind_some _ _).symm.trans H; rw [hy233]; with_reducible exact H2_) | (have H2_ := (Option.bind_some _ _).symm.trans H; with_reducible exact H2_) | with_reducible exact H | (rw [hy233]; exact H) | exact H
                                  have Ny233 := Aside0.mk hy233
                                  clear hy233
                                  by_cases c25 : t230 ≥ 0
                                  · rw [if_pos c25] at H
                                    have c25b0 : decide (0 ≤ t230) = true := decide_eq_true c25
                                    clear c25
                                    obtain ⟨y234, hy234⟩ : ∃ y_ : List Int, y_ = (y233.set (x6_2 : Int).toNat t230) := ⟨_, rfl⟩
                                    replace H : (if 0 ≤ t230 then (if t230 < (x4_2.length : Int) then (weighhouseref06_Match.l1 kj12 l0 (y234.set (t230 : Int).toNat t231) (wrap64 (x6_2 + 1))) else (none)) else (none)) = some (r1, r2) := by first | (rw [hy234]; with_reducible exact H) | (have H2_ := (Option.bind_some _ _).symm.trans H; rw [hy234]; with_reducible exact H2_) | (have H2_ := (Option.bind_some _ _).symm.trans H; with_reducible exact H2_) | with_reducible exact H | (rw [hy234]; exact H) | exact H
                                    have Ny234 := Aside0.mk hy234
                                    clear hy234
                                    by_cases c27 : 0 ≤ t230
                                    · rw [if_pos c27] at H
                                      have c27b0 : decide (0 ≤ t230) = true := decide_eq_true c27
                                      clear c27
                                      by_cases c28 : t230 < (x4_2.length : Int)
                                      · rw [if_pos c28] at H
                                        have c28b0 : decide (t230 < (x4_2.length : Int)) = true := decide_eq_true c28
                                        clear c28
                                        obtain ⟨y235, hy235⟩ : ∃ y_ : List Int, y_ = (y234.set (t230 : Int).toNat t231) := ⟨_, rfl⟩
                                        replace H : (weighhouseref06_Match.l1 kj12 l0 y235 (wrap64 (x6_2 + 1))) = some (r1, r2) := by first | (rw [hy235]; with_reducible exact H) | (have H2_ := (Option.bind_some _ _).symm.trans H; rw [hy235]; with_reducible exact H2_) | (have H2_ := (Option.bind_some _ _).symm.trans H; with_reducible exact H2_) | with_reducible exact H | (rw [hy235]; exact H) | exact H
                                        have Ny235 := Aside0.mk hy235
                                        clear hy235
                                        have H' := Aside0.mk H
                                        clear H
                                        go_wp2_with (first | ((with_reducible refine gate_callee (f := 23) rfl ?_); refine goesL_ (some 49) rfl rfl Try.func23 (by kernel_rfl) rfl #[.slice A0 l0.length c0, .int .i64 x6_2] rfl (by (try simp only [List.map_toArray, List.map_cons, List.map_nil]); first | done | rfl | (simp only [List.length_drop, List.length_take]; rfl)) ?_; (with_reducible refine (weighhouseref06_closes.calls kj12 _ _ l0 x6_2 t230 t231 _ ?side1 ?side2 A17.out).mono ?_); (case side1 => repeat (first | exact (Kd.C_below HR0.out HB.out) | (with_reducible refine Kd.C_alloc ?_ _) | (with_reducible refine Kd.C_drewN ?_ _) | (with_reducible refine Kd.C_drew ?_))); (case side2 => exact HC0.out); rintro e w' ⟨rfl, ⟨nd, rfl⟩⟩; refine ⟨_, rfl, ?_⟩; (try (rw [drewN_self wc]; generalize hq_ : World.drewN wc _ = wc; have n0_ : Aside0 (Kd.R (Kd.int .i64) 3 wc w.heap.size (fun _ => True) v225 x4_2) := ⟨by rw [← hq_]; exact (by (with_reducible repeat (first | apply Kd.R_alloc | apply Kd.R_drewN | apply Kd.R_drew)); exact HO_4.out)⟩; have n1_ : Aside0 (Below w.heap.size w wc) := ⟨by rw [← hq_]; exact (by repeat (first | (with_reducible first | exact HB.out | apply below_alloc | apply pw_below_drewN | apply below_drew1) | exact HB.out))⟩; clear HO_4 HB hq_; have HO_4 := n0_; have HB := n1_; clear n0_ n1_)); have p21 : 0 ≤ (x6_2 : Int) := of_decide_eq_true (by first | (with_reducible assumption) | assumption); have q21 : (x6_2 : Int) < ((x4_2.length : Int) : Int) := of_decide_eq_true (by first | (with_reducible assumption) | assumption); obtain ⟨go21, co21, eo21, gb21, gl21, cl21, HG21⟩ := Kd.R_form HO_4.out (by omega); (first | cases eo21 | (injection eo21 with ea_ en_ ec_; (first | subst ea_ | (injection ea_ with ea_; subst ea_)); subst ec_; clear en_)); have GB21 := Aside0.mk gb21; have GG21 := Aside0.mk HG21; clear gb21 gl21 HG21; obtain ⟨hx21_0, hf21_0⟩ := Kd.R_celln 0 HO_4.out (x6_2 : Int) p21 q21; replace p21 := eq_true p21; replace q21 := eq_true q21; obtain ⟨hy30_, hz30_⟩ := Kd.R_celln 0 HO_4.out (x6_2 : Int) (of_decide_eq_true (by first | (with_reducible assumption) | assumption)) (of_decide_eq_true (by first | (with_reducible assumption) | assumption)); have HP30 := Kd.R_putg HO_4.out (x6_2 : Int) t231) | ((with_reducible refine gate_store (t := 3) (p := 57) rfl ?_); refine store_event (t := 3) (p := 57) (v := ?vo_w31) (w1 := (wc.setCell ⟨go21, (x6_2 : Int).toNat, none⟩ (.int .i64 t231))) ?hg ?ho ?hn ?hr ?_; (case ho => rfl); (case hg => rfl); (case hn => rfl); (case hr => first | (go_simp; done) | (go_simp; rfl)); intro w31 hw; have hg : wc.grownBy w31 (some go21) := (by rw [hw]; exact HP30.2); have hp_ : Kd.R (Kd.int .i64) 3 w31 w.heap.size (fun _ => True) (.slice (some ⟨go21, 0, none⟩) x4_2.length co21) y232 := (by rw [hw, Ny232.out]; exact HP30.1); clear HP30; have n0_ := Aside0.mk (hp_); have n1_ := Aside0.mk ((by rw [hw]; exact below_set (HB.out) GB21.out : Below w.heap.size w w31)); clear HO_4; clear HB; have HO_4 := n0_; have HB := n1_; clear n0_ n1_; clear hg hw hp_; have p24 : 0 ≤ (t231 : Int) := of_decide_eq_true (by first | (with_reducible assumption) | assumption); have q24 : (t231 : Int) < ((x4_2.length : Int) : Int) := of_decide_eq_true (by first | (with_reducible assumption) | assumption); obtain ⟨hx24_0, hf24_0⟩ := Kd.R_celln 0 HO_4.out (t231 : Int) p24 q24; replace p24 := eq_true p24; replace q24 := eq_true q24; obtain ⟨hy32_, hz32_⟩ := Kd.R_celln 0 HO_4.out (t231 : Int) (of_decide_eq_true (by first | (with_reducible assumption) | assumption)) (of_decide_eq_true (by first | (with_reducible assumption) | assumption)); have HP32 := Kd.R_putg HO_4.out (t231 : Int) x6_2) | ((with_reducible refine gate_store (t := 3) (p := 61) rfl ?_); refine store_event (t := 3) (p := 61) (v := ?vo_w33) (w1 := (w31.setCell ⟨go21, (t231 : Int).toNat, none⟩ (.int .i64 x6_2))) ?hg ?ho ?hn ?hr ?_; (case ho => rfl); (case hg => rfl); (case hn => rfl); (case hr => first | (go_simp; done) | (go_simp; rfl)); intro w33 hw; have hg : w31.grownBy w33 (some go21) := (by rw [hw]; exact HP32.2); have hp_ : Kd.R (Kd.int .i64) 3 w33 w.heap.size (fun _ => True) (.slice (some ⟨go21, 0, none⟩) x4_2.length co21) y233 := (by rw [hw, Ny233.out]; exact HP32.1); clear HP32; have n0_ := Aside0.mk (hp_); have n1_ := Aside0.mk ((by rw [hw]; exact below_set (HB.out) GB21.out : Below w.heap.size w w33)); clear HO_4; clear HB; have HO_4 := n0_; have HB := n1_; clear n0_ n1_; clear hg hw hp_; have p26 : 0 ≤ (x6_2 : Int) := of_decide_eq_true (by first | (with_reducible assumption) | assumption); have q26 : (x6_2 : Int) < ((x4_2.length : Int) : Int) := of_decide_eq_true (by first | (with_reducible assumption) | assumption); obtain ⟨hx26_0, hf26_0⟩ := Kd.R_celln 0 HO_4.out (x6_2 : Int) p26 q26; replace p26 := eq_true p26; replace q26 := eq_true q26; obtain ⟨hy34_, hz34_⟩ := Kd.R_celln 0 HO_4.out (x6_2 : Int) (of_decide_eq_true (by first | (with_reducible assumption) | assumption)) (of_decide_eq_true (by first | (with_reducible assumption) | assumption)); have HP34 := Kd.R_putg HO_4.out (x6_2 : Int) t230) | ((with_reducible refine gate_store (t := 3) (p := 67) rfl ?_); refine store_event (t := 3) (p := 67) (v := ?vo_w35) (w1 := (w33.setCell ⟨go21, (x6_2 : Int).toNat, none⟩ (.int .i64 t230))) ?hg ?ho ?hn ?hr ?_; (case ho => rfl); (case hg => rfl); (case hn => rfl); (case hr => first | (go_simp; done) | (go_simp; rfl)); intro w35 hw; have hg : w33.grownBy w35 (some go21) := (by rw [hw]; exact HP34.2); have hp_ : Kd.R (Kd.int .i64) 3 w35 w.heap.size (fun _ => True) (.slice (some ⟨go21, 0, none⟩) x4_2.length co21) y234 := (by rw [hw, Ny234.out]; exact HP34.1); clear HP34; have n0_ := Aside0.mk (hp_); have n1_ := Aside0.mk ((by rw [hw]; exact below_set (HB.out) GB21.out : Below w.heap.size w w35)); clear HO_4; clear HB; have HO_4 := n0_; have HB := n1_; clear n0_ n1_; clear hg hw hp_; have p29 : 0 ≤ (t230 : Int) := of_decide_eq_true (by first | (with_reducible assumption) | assumption); have q29 : (t230 : Int) < ((x4_2.length : Int) : Int) := of_decide_eq_true (by first | (with_reducible assumption) | assumption); obtain ⟨hx29_0, hf29_0⟩ := Kd.R_celln 0 HO_4.out (t230 : Int) p29 q29; replace p29 := eq_true p29; replace q29 := eq_true q29; obtain ⟨hy36_, hz36_⟩ := Kd.R_celln 0 HO_4.out (t230 : Int) (of_decide_eq_true (by first | (with_reducible assumption) | assumption)) (of_decide_eq_true (by first | (with_reducible assumption) | assumption)); have HP36 := Kd.R_putg HO_4.out (t230 : Int) t231) | ((with_reducible refine gate_store (t := 3) (p := 71) rfl ?_); refine store_event (t := 3) (p := 71) (v := ?vo_w37) (w1 := (w35.setCell ⟨go21, (t230 : Int).toNat, none⟩ (.int .i64 t231))) ?hg ?ho ?hn ?hr ?_; (case ho => rfl); (case hg => rfl); (case hn => rfl); (case hr => first | (go_simp; done) | (go_simp; rfl)); intro w37 hw; have hg : w35.grownBy w37 (some go21) := (by rw [hw]; exact HP36.2); have hp_ : Kd.R (Kd.int .i64) 3 w37 w.heap.size (fun _ => True) (.slice (some ⟨go21, 0, none⟩) x4_2.length co21) y235 := (by rw [hw, Ny235.out]; exact HP36.1); clear HP36; have n0_ := Aside0.mk (hp_); have n1_ := Aside0.mk ((by rw [hw]; exact below_set (HB.out) GB21.out : Below w.heap.size w w37)); clear HO_4; clear HB; have HO_4 := n0_; have HB := n1_; clear n0_ n1_; clear hg hw hp_))
                                        go_roundg kj12
                                        case measure => have := HK1.out; have := HK2.out; have := HJ12.out; omega
                                        case rel => exact ⟨(y235), (wrap64 (x6_2 + 1)), (by first | rfl | (simp; done) | (simp [*]; done)), H', ⟨by have := HK1.out; have := HK2.out; have := HJ12.out; omega⟩, ⟨by (with_reducible repeat (first | apply Kd.R_alloc | apply Kd.R_drewN | apply Kd.R_drew)); exact HO_4.out⟩, ⟨by repeat (first | (with_reducible first | exact HB.out | apply below_alloc | apply pw_below_drewN | apply below_drew1) | exact HB.out)⟩⟩
                                      · rw [if_neg c28] at H
                                        exact absurd H (by simp)
                                    · rw [if_neg c27] at H
                                      exact absurd H (by simp)
                                  · rw [if_neg c25] at H
                                    have c25b0 : decide (0 ≤ t230) = false := decide_eq_false c25
                                    clear c25
                                    have H' := Aside0.mk H
                                    clear H
                                    go_wp2_with (first | ((with_reducible refine gate_callee (f := 23) rfl ?_); refine goesL_ (some 49) rfl rfl Try.func23 (by kernel_rfl) rfl #[.slice A0 l0.length c0, .int .i64 x6_2] rfl (by (try simp only [List.map_toArray, List.map_cons, List.map_nil]); first | done | rfl | (simp only [List.length_drop, List.length_take]; rfl)) ?_; (with_reducible refine (weighhouseref06_closes.calls kj12 _ _ l0 x6_2 t230 t231 _ ?side1 ?side2 A17.out).mono ?_); (case side1 => repeat (first | exact (Kd.C_below HR0.out HB.out) | (with_reducible refine Kd.C_alloc ?_ _) | (with_reducible refine Kd.C_drewN ?_ _) | (with_reducible refine Kd.C_drew ?_))); (case side2 => exact HC0.out); rintro e w' ⟨rfl, ⟨nd, rfl⟩⟩; refine ⟨_, rfl, ?_⟩; (try (rw [drewN_self wc]; generalize hq_ : World.drewN wc _ = wc; have n0_ : Aside0 (Kd.R (Kd.int .i64) 3 wc w.heap.size (fun _ => True) v225 x4_2) := ⟨by rw [← hq_]; exact (by (with_reducible repeat (first | apply Kd.R_alloc | apply Kd.R_drewN | apply Kd.R_drew)); exact HO_4.out)⟩; have n1_ : Aside0 (Below w.heap.size w wc) := ⟨by rw [← hq_]; exact (by repeat (first | (with_reducible first | exact HB.out | apply below_alloc | apply pw_below_drewN | apply below_drew1) | exact HB.out))⟩; clear HO_4 HB hq_; have HO_4 := n0_; have HB := n1_; clear n0_ n1_)); have p21 : 0 ≤ (x6_2 : Int) := of_decide_eq_true (by first | (with_reducible assumption) | assumption); have q21 : (x6_2 : Int) < ((x4_2.length : Int) : Int) := of_decide_eq_true (by first | (with_reducible assumption) | assumption); obtain ⟨go21, co21, eo21, gb21, gl21, cl21, HG21⟩ := Kd.R_form HO_4.out (by omega); (first | cases eo21 | (injection eo21 with ea_ en_ ec_; (first | subst ea_ | (injection ea_ with ea_; subst ea_)); subst ec_; clear en_)); have GB21 := Aside0.mk gb21; have GG21 := Aside0.mk HG21; clear gb21 gl21 HG21; obtain ⟨hx21_0, hf21_0⟩ := Kd.R_celln 0 HO_4.out (x6_2 : Int) p21 q21; replace p21 := eq_true p21; replace q21 := eq_true q21; obtain ⟨hy38_, hz38_⟩ := Kd.R_celln 0 HO_4.out (x6_2 : Int) (of_decide_eq_true (by first | (with_reducible assumption) | assumption)) (of_decide_eq_true (by first | (with_reducible assumption) | assumption)); have HP38 := Kd.R_putg HO_4.out (x6_2 : Int) t231) | ((with_reducible refine gate_store (t := 3) (p := 57) rfl ?_); refine store_event (t := 3) (p := 57) (v := ?vo_w39) (w1 := (wc.setCell ⟨go21, (x6_2 : Int).toNat, none⟩ (.int .i64 t231))) ?hg ?ho ?hn ?hr ?_; (case ho => rfl); (case hg => rfl); (case hn => rfl); (case hr => first | (go_simp; done) | (go_simp; rfl)); intro w39 hw; have hg : wc.grownBy w39 (some go21) := (by rw [hw]; exact HP38.2); have hp_ : Kd.R (Kd.int .i64) 3 w39 w.heap.size (fun _ => True) (.slice (some ⟨go21, 0, none⟩) x4_2.length co21) y232 := (by rw [hw, Ny232.out]; exact HP38.1); clear HP38; have n0_ := Aside0.mk (hp_); have n1_ := Aside0.mk ((by rw [hw]; exact below_set (HB.out) GB21.out : Below w.heap.size w w39)); clear HO_4; clear HB; have HO_4 := n0_; have HB := n1_; clear n0_ n1_; clear hg hw hp_; have p24 : 0 ≤ (t231 : Int) := of_decide_eq_true (by first | (with_reducible assumption) | assumption); have q24 : (t231 : Int) < ((x4_2.length : Int) : Int) := of_decide_eq_true (by first | (with_reducible assumption) | assumption); obtain ⟨hx24_0, hf24_0⟩ := Kd.R_celln 0 HO_4.out (t231 : Int) p24 q24; replace p24 := eq_true p24; replace q24 := eq_true q24; obtain ⟨hy40_, hz40_⟩ := Kd.R_celln 0 HO_4.out (t231 : Int) (of_decide_eq_true (by first | (with_reducible assumption) | assumption)) (of_decide_eq_true (by first | (with_reducible assumption) | assumption)); have HP40 := Kd.R_putg HO_4.out (t231 : Int) x6_2) | ((with_reducible refine gate_store (t := 3) (p := 61) rfl ?_); refine store_event (t := 3) (p := 61) (v := ?vo_w41) (w1 := (w39.setCell ⟨go21, (t231 : Int).toNat, none⟩ (.int .i64 x6_2))) ?hg ?ho ?hn ?hr ?_; (case ho => rfl); (case hg => rfl); (case hn => rfl); (case hr => first | (go_simp; done) | (go_simp; rfl)); intro w41 hw; have hg : w39.grownBy w41 (some go21) := (by rw [hw]; exact HP40.2); have hp_ : Kd.R (Kd.int .i64) 3 w41 w.heap.size (fun _ => True) (.slice (some ⟨go21, 0, none⟩) x4_2.length co21) y233 := (by rw [hw, Ny233.out]; exact HP40.1); clear HP40; have n0_ := Aside0.mk (hp_); have n1_ := Aside0.mk ((by rw [hw]; exact below_set (HB.out) GB21.out : Below w.heap.size w w41)); clear HO_4; clear HB; have HO_4 := n0_; have HB := n1_; clear n0_ n1_; clear hg hw hp_))
                                    go_roundg kj12
                                    case measure => have := HK1.out; have := HK2.out; have := HJ12.out; omega
                                    case rel => exact ⟨(y233), (wrap64 (x6_2 + 1)), (by first | rfl | (simp; done) | (simp [*]; done)), H', ⟨by have := HK1.out; have := HK2.out; have := HJ12.out; omega⟩, ⟨by (with_reducible repeat (first | apply Kd.R_alloc | apply Kd.R_drewN | apply Kd.R_drew)); exact HO_4.out⟩, ⟨by repeat (first | (with_reducible first | exact HB.out | apply below_alloc | apply pw_below_drewN | apply below_drew1) | exact HB.out)⟩⟩
                                · rw [if_neg c23] at H
                                  exact absurd H (by simp)
                              · rw [if_neg c22] at H
                                exact absurd H (by simp)
                            · rw [if_neg c20] at H
                              exact absurd H (by simp)
                          · rw [if_neg c19] at H
                            exact absurd H (by simp)
                · rw [if_neg c12] at H
                  have c12b0 : decide (x6_2 < (l0.length : Int)) = false := decide_eq_false c12
                  clear c12
                  have H' := Aside0.mk H
                  clear H
                  go_wp2
                  go_loopg [9] k2 (fun kq v9 w' => ∃ (x9_3 : Int), v9 = .int .i64 x9_3 ∧ Aside0 (weighhouseref06_Match.l2 kq l0 x4_2 x9_3 = some (r1, r2)) ∧ Aside0 (kq ≤ k2) ∧ Aside0 (Kd.R (Kd.int .i64) 3 w' w.heap.size (fun _ => True) v225 x4_2) ∧ Aside0 (Below w.heap.size w w'))
                  case atStart => exact ⟨(0), (by first | rfl | (simp; done) | (simp [*]; done)), H', ⟨Nat.le_refl _⟩, ⟨by (with_reducible repeat (first | apply Kd.R_alloc | apply Kd.R_drewN | apply Kd.R_drew)); exact HO_4.out⟩, ⟨by repeat (first | (with_reducible first | exact HB.out | apply below_alloc | apply pw_below_drewN | apply below_drew1) | exact HB.out)⟩⟩
                  case round =>
                    clear H'
                    try clear c1
                    try clear c2
                    try clear c2b0
                    try clear c2b1
                    try clear p2
                    try clear q2
                    try clear hx2
                    try clear hf2
                    try clear c3
                    try clear c3b0
                    try clear c3b1
                    try clear c6
                    try clear c6b0
                    try clear p6
                    try clear c7
                    try clear c7b0
                    try clear c8
                    try clear c8b0
                    try clear p9
                    try clear q9
                    try clear hx9
                    try clear hf9
                    try clear c12
                    try clear c12b0
                    try clear c14
                    try clear c14b0
                    try clear c15
                    try clear c15b0
                    try clear c15b1
                    try clear c16
                    try clear c18
                    try clear c18b0
                    try clear c19
                    try clear c19b0
                    try clear c20
                    try clear c20b0
                    try clear p21
                    try clear q21
                    try clear hx21
                    try clear hf21
                    try clear c22
                    try clear c22b0
                    try clear p22
                    try clear q22
                    try clear hx22
                    try clear c23
                    try clear c23b0
                    try clear p24
                    try clear q24
                    try clear hx24
                    try clear hf24
                    try clear c25
                    try clear c25b0
                    try clear p26
                    try clear q26
                    try clear hx26
                    try clear hf26
                    try clear c27
                    try clear c27b0
                    try clear c28
                    try clear c28b0
                    try clear p29
                    try clear q29
                    try clear hx29
                    try clear hf29
                    try clear hx21_0
                    try clear hx228_0
                    try clear hx228_1
                    try clear hx229_0
                    try clear hx229_1
                    try clear hx24_0
                    try clear hx26_0
                    try clear hx29_0
                    try clear hx9_0
                    try clear p2
                    try clear p21
                    try clear p228
                    try clear p229
                    try clear p24
                    try clear p26
                    try clear p29
                    try clear p6
                    try clear p9
                    try clear q2
                    try clear q21
                    try clear q228
                    try clear q229
                    try clear q24
                    try clear q26
                    try clear q29
                    try clear q9
                    obtain ⟨x9_3, rfl, HA, HK3, HO_4, HB⟩ := hrel
                    cases gk with
                    | zero => exact absurd HA.out (by simp [weighhouseref06_Match.l2])
                    | succ k3 =>
                      have H := HA.out
                      clear HA
                      simp only [weighhouseref06_Match.l2] at H
                      by_cases c42 : x9_3 < (l0.length : Int)
                      · rw [if_pos c42] at H
                        have c42b0 : decide (x9_3 < (l0.length : Int)) = true := decide_eq_true c42
                        clear c42
                        by_cases c43 : 0 ≤ x9_3
                        · rw [if_pos c43] at H
                          have c43b0 : decide (0 ≤ x9_3) = true := decide_eq_true c43
                          clear c43
                          by_cases c44 : ((rd_T31 l0 x9_3).f0) = 49
                          · rw [if_pos c44] at H
                            have c44b0 : (((rd_T31 l0 x9_3).f0) == 49) = true := beq_iff_eq.mpr c44
                            have c44b1 : (((rd_T31 l0 x9_3).f0) != 49) = false := bne_eq_false_iff_eq.mpr c44
                            clear c44
                            by_cases c45 : x9_3 < (x4_2.length : Int)
                            · rw [if_pos c45] at H
                              have c45b0 : decide (x9_3 < (x4_2.length : Int)) = true := decide_eq_true c45
                              clear c45
                              by_cases c46 : (rd x4_2 x9_3) < 0
                              · rw [if_pos c46] at H
                                have c46b0 : decide ((rd x4_2 x9_3) < 0) = true := decide_eq_true c46
                                clear c46
                                simp only [Option.some.injEq, Prod.mk.injEq] at H
                                obtain ⟨rfl, rfl⟩ := H
                                have p236 : 0 ≤ (x9_3 : Int) := of_decide_eq_true (by first | (with_reducible assumption) | assumption)
                                have q236 : x9_3 < (l0.length : Int) := of_decide_eq_true (by first | (with_reducible assumption) | assumption)
                                obtain ⟨ad236, e236, hx236_0, hx236_1⟩ := at_T31 HR0.out x9_3 p236 q236
                                cases e236
                                replace hx236_0 := (HB.out.cell (World.block_lt_of_cell? w _ hx236_0)).trans hx236_0
                                replace hx236_1 := (HB.out.cell (World.block_lt_of_cell? w _ hx236_1)).trans hx236_1
                                replace p236 := eq_true p236
                                replace q236 := eq_true q236
                                obtain ⟨Ao47, co47, eo47⟩ := Kd.R_slice HO_4.out
                                subst eo47
                                have p237 : 0 ≤ (x9_3 : Int) := of_decide_eq_true (by first | (with_reducible assumption) | assumption)
                                have q237 : x9_3 < (x4_2.length : Int) := of_decide_eq_true (by first | (with_reducible assumption) | assumption)
                                obtain ⟨ad237, e237, hx237_0⟩ := Kd.at_int (Kd.R_reads' HO_4.out).2.2 x9_3 p237 q237
                                cases e237
                                replace p237 := eq_true p237
                                replace q237 := eq_true q237
                                go_wp2
                                go_ret2
                                exact ⟨_, by first | rfl | (simp [errW_none, errW_some] <;> rfl) | (simp [*, errW_none, errW_some] <;> rfl), by first | exact Kd.R_nil _ _ _ _ _ | exact Kd.N_nil _ _ _ _ _ | exact Kd.V_nil _ _ _ _ _ | exact Kd.Q_nil _ _ _ _ _ | exact Kd.S_nil _ _ _ _ _, by repeat (first | (with_reducible first | exact HB.out | apply below_alloc | apply pw_below_drewN | apply below_drew1) | exact HB.out)⟩
                              · rw [if_neg c46] at H
                                have c46b0 : decide ((rd x4_2 x9_3) < 0) = false := decide_eq_false c46
                                clear c46
                                have H' := Aside0.mk H
                                clear H
                                have p236 : 0 ≤ (x9_3 : Int) := of_decide_eq_true (by first | (with_reducible assumption) | assumption)
                                have q236 : x9_3 < (l0.length : Int) := of_decide_eq_true (by first | (with_reducible assumption) | assumption)
                                obtain ⟨ad236, e236, hx236_0, hx236_1⟩ := at_T31 HR0.out x9_3 p236 q236
                                cases e236
                                replace hx236_0 := (HB.out.cell (World.block_lt_of_cell? w _ hx236_0)).trans hx236_0
                                replace hx236_1 := (HB.out.cell (World.block_lt_of_cell? w _ hx236_1)).trans hx236_1
                                replace p236 := eq_true p236
                                replace q236 := eq_true q236
                                obtain ⟨Ao48, co48, eo48⟩ := Kd.R_slice HO_4.out
                                subst eo48
                                have p237 : 0 ≤ (x9_3 : Int) := of_decide_eq_true (by first | (with_reducible assumption) | assumption)
                                have q237 : x9_3 < (x4_2.length : Int) := of_decide_eq_true (by first | (with_reducible assumption) | assumption)
                                obtain ⟨ad237, e237, hx237_0⟩ := Kd.at_int (Kd.R_reads' HO_4.out).2.2 x9_3 p237 q237
                                cases e237
                                replace p237 := eq_true p237
                                replace q237 := eq_true q237
                                go_wp2
                                go_roundg k3
                                case measure => have := HK1.out; have := HK2.out; have := HK3.out; omega
                                case rel => exact ⟨(wrap64 (x9_3 + 1)), (by first | rfl | (simp; done) | (simp [*]; done)), H', ⟨by have := HK1.out; have := HK2.out; have := HK3.out; omega⟩, ⟨by (with_reducible repeat (first | apply Kd.R_alloc | apply Kd.R_drewN | apply Kd.R_drew)); exact HO_4.out⟩, ⟨by repeat (first | (with_reducible first | exact HB.out | apply below_alloc | apply pw_below_drewN | apply below_drew1) | exact HB.out)⟩⟩
                            · rw [if_neg c45] at H
                              exact absurd H (by simp)
                          · rw [if_neg c44] at H
                            have c44b0 : (((rd_T31 l0 x9_3).f0) == 49) = false := beq_eq_false_iff_ne.mpr c44
                            have c44b1 : (((rd_T31 l0 x9_3).f0) != 49) = true := bne_iff_ne.mpr c44
                            by_cases c49 : ((rd_T31 l0 x9_3).f0) = 50
                            · rw [if_pos c49] at H
                              have c49b0 : (((rd_T31 l0 x9_3).f0) == 50) = true := beq_iff_eq.mpr c49
                              have c49b1 : (((rd_T31 l0 x9_3).f0) != 50) = false := bne_eq_false_iff_eq.mpr c49
                              clear c49
                              by_cases c50 : x9_3 < (x4_2.length : Int)
                              · rw [if_pos c50] at H
                                have c50b0 : decide (x9_3 < (x4_2.length : Int)) = true := decide_eq_true c50
                                clear c50
                                by_cases c51 : (rd x4_2 x9_3) < 0
                                · rw [if_pos c51] at H
                                  have c51b0 : decide ((rd x4_2 x9_3) < 0) = true := decide_eq_true c51
                                  clear c51
                                  simp only [Option.some.injEq, Prod.mk.injEq] at H
                                  obtain ⟨rfl, rfl⟩ := H
                                  have p236 : 0 ≤ (x9_3 : Int) := of_decide_eq_true (by first | (with_reducible assumption) | assumption)
                                  have q236 : x9_3 < (l0.length : Int) := of_decide_eq_true (by first | (with_reducible assumption) | assumption)
                                  obtain ⟨ad236, e236, hx236_0, hx236_1⟩ := at_T31 HR0.out x9_3 p236 q236
                                  cases e236
                                  replace hx236_0 := (HB.out.cell (World.block_lt_of_cell? w _ hx236_0)).trans hx236_0
                                  replace hx236_1 := (HB.out.cell (World.block_lt_of_cell? w _ hx236_1)).trans hx236_1
                                  replace p236 := eq_true p236
                                  replace q236 := eq_true q236
                                  have p238 : 0 ≤ (x9_3 : Int) := of_decide_eq_true (by first | (with_reducible assumption) | assumption)
                                  have q238 : x9_3 < (l0.length : Int) := of_decide_eq_true (by first | (with_reducible assumption) | assumption)
                                  obtain ⟨ad238, e238, hx238_0, hx238_1⟩ := at_T31 HR0.out x9_3 p238 q238
                                  obtain rfl : ad236 = ad238 := (by injection e238)
                                  replace hx238_0 := (HB.out.cell (World.block_lt_of_cell? w _ hx238_0)).trans hx238_0
                                  replace hx238_1 := (HB.out.cell (World.block_lt_of_cell? w _ hx238_1)).trans hx238_1
                                  replace p238 := eq_true p238
                                  replace q238 := eq_true q238
                                  obtain ⟨Ao52, co52, eo52⟩ := Kd.R_slice HO_4.out
                                  subst eo52
                                  have p239 : 0 ≤ (x9_3 : Int) := of_decide_eq_true (by first | (with_reducible assumption) | assumption)
                                  have q239 : x9_3 < (x4_2.length : Int) := of_decide_eq_true (by first | (with_reducible assumption) | assumption)
                                  obtain ⟨ad239, e239, hx239_0⟩ := Kd.at_int (Kd.R_reads' HO_4.out).2.2 x9_3 p239 q239
                                  cases e239
                                  replace p239 := eq_true p239
                                  replace q239 := eq_true q239
                                  go_wp2
                                  go_ret2
                                  exact ⟨_, by first | rfl | (simp [errW_none, errW_some] <;> rfl) | (simp [*, errW_none, errW_some] <;> rfl), by first | exact Kd.R_nil _ _ _ _ _ | exact Kd.N_nil _ _ _ _ _ | exact Kd.V_nil _ _ _ _ _ | exact Kd.Q_nil _ _ _ _ _ | exact Kd.S_nil _ _ _ _ _, by repeat (first | (with_reducible first | exact HB.out | apply below_alloc | apply pw_below_drewN | apply below_drew1) | exact HB.out)⟩
                                · rw [if_neg c51] at H
                                  have c51b0 : decide ((rd x4_2 x9_3) < 0) = false := decide_eq_false c51
                                  clear c51
                                  have H' := Aside0.mk H
                                  clear H
                                  have p236 : 0 ≤ (x9_3 : Int) := of_decide_eq_true (by first | (with_reducible assumption) | assumption)
                                  have q236 : x9_3 < (l0.length : Int) := of_decide_eq_true (by first | (with_reducible assumption) | assumption)
                                  obtain ⟨ad236, e236, hx236_0, hx236_1⟩ := at_T31 HR0.out x9_3 p236 q236
                                  cases e236
                                  replace hx236_0 := (HB.out.cell (World.block_lt_of_cell? w _ hx236_0)).trans hx236_0
                                  replace hx236_1 := (HB.out.cell (World.block_lt_of_cell? w _ hx236_1)).trans hx236_1
                                  replace p236 := eq_true p236
                                  replace q236 := eq_true q236
                                  have p238 : 0 ≤ (x9_3 : Int) := of_decide_eq_true (by first | (with_reducible assumption) | assumption)
                                  have q238 : x9_3 < (l0.length : Int) := of_decide_eq_true (by first | (with_reducible assumption) | assumption)
                                  obtain ⟨ad238, e238, hx238_0, hx238_1⟩ := at_T31 HR0.out x9_3 p238 q238
                                  obtain rfl : ad236 = ad238 := (by injection e238)
                                  replace hx238_0 := (HB.out.cell (World.block_lt_of_cell? w _ hx238_0)).trans hx238_0
                                  replace hx238_1 := (HB.out.cell (World.block_lt_of_cell? w _ hx238_1)).trans hx238_1
                                  replace p238 := eq_true p238
                                  replace q238 := eq_true q238
                                  obtain ⟨Ao53, co53, eo53⟩ := Kd.R_slice HO_4.out
                                  subst eo53
                                  have p239 : 0 ≤ (x9_3 : Int) := of_decide_eq_true (by first | (with_reducible assumption) | assumption)
                                  have q239 : x9_3 < (x4_2.length : Int) := of_decide_eq_true (by first | (with_reducible assumption) | assumption)
                                  obtain ⟨ad239, e239, hx239_0⟩ := Kd.at_int (Kd.R_reads' HO_4.out).2.2 x9_3 p239 q239
                                  cases e239
                                  replace p239 := eq_true p239
                                  replace q239 := eq_true q239
                                  go_wp2
                                  go_roundg k3
                                  case measure => have := HK1.out; have := HK2.out; have := HK3.out; omega
                                  case rel => exact ⟨(wrap64 (x9_3 + 1)), (by first | rfl | (simp; done) | (simp [*]; done)), H', ⟨by have := HK1.out; have := HK2.out; have := HK3.out; omega⟩, ⟨by (with_reducible repeat (first | apply Kd.R_alloc | apply Kd.R_drewN | apply Kd.R_drew)); exact HO_4.out⟩, ⟨by repeat (first | (with_reducible first | exact HB.out | apply below_alloc | apply pw_below_drewN | apply below_drew1) | exact HB.out)⟩⟩
                              · rw [if_neg c50] at H
                                exact absurd H (by simp)
                            · rw [if_neg c49] at H
                              have c49b0 : (((rd_T31 l0 x9_3).f0) == 50) = false := beq_eq_false_iff_ne.mpr c49
                              have c49b1 : (((rd_T31 l0 x9_3).f0) != 50) = true := bne_iff_ne.mpr c49
                              have H' := Aside0.mk H
                              clear H
                              have p236 : 0 ≤ (x9_3 : Int) := of_decide_eq_true (by first | (with_reducible assumption) | assumption)
                              have q236 : x9_3 < (l0.length : Int) := of_decide_eq_true (by first | (with_reducible assumption) | assumption)
                              obtain ⟨ad236, e236, hx236_0, hx236_1⟩ := at_T31 HR0.out x9_3 p236 q236
                              cases e236
                              replace hx236_0 := (HB.out.cell (World.block_lt_of_cell? w _ hx236_0)).trans hx236_0
                              replace hx236_1 := (HB.out.cell (World.block_lt_of_cell? w _ hx236_1)).trans hx236_1
                              replace p236 := eq_true p236
                              replace q236 := eq_true q236
                              have p238 : 0 ≤ (x9_3 : Int) := of_decide_eq_true (by first | (with_reducible assumption) | assumption)
                              have q238 : x9_3 < (l0.length : Int) := of_decide_eq_true (by first | (with_reducible assumption) | assumption)
                              obtain ⟨ad238, e238, hx238_0, hx238_1⟩ := at_T31 HR0.out x9_3 p238 q238
                              obtain rfl : ad236 = ad238 := (by injection e238)
                              replace hx238_0 := (HB.out.cell (World.block_lt_of_cell? w _ hx238_0)).trans hx238_0
                              replace hx238_1 := (HB.out.cell (World.block_lt_of_cell? w _ hx238_1)).trans hx238_1
                              replace p238 := eq_true p238
                              replace q238 := eq_true q238
                              go_wp2
                              go_roundg k3
                              case measure => have := HK1.out; have := HK2.out; have := HK3.out; omega
                              case rel => exact ⟨(wrap64 (x9_3 + 1)), (by first | rfl | (simp; done) | (simp [*]; done)), H', ⟨by have := HK1.out; have := HK2.out; have := HK3.out; omega⟩, ⟨by (with_reducible repeat (first | apply Kd.R_alloc | apply Kd.R_drewN | apply Kd.R_drew)); exact HO_4.out⟩, ⟨by repeat (first | (with_reducible first | exact HB.out | apply below_alloc | apply pw_below_drewN | apply below_drew1) | exact HB.out)⟩⟩
                        · rw [if_neg c43] at H
                          exact absurd H (by simp)
                      · rw [if_neg c42] at H
                        have c42b0 : decide (x9_3 < (l0.length : Int)) = false := decide_eq_false c42
                        clear c42
                        have H' := Aside0.mk H
                        clear H
                        go_wp2
                        go_loopg [10] k3 (fun kq v10 w' => ∃ (x4_4 : List Int) (x10_4 : Int), v10 = .int .i64 x10_4 ∧ Aside0 (weighhouseref06_Match.l3 kq l0 x4_4 x10_4 = some (r1, r2)) ∧ Aside0 (kq ≤ k3) ∧ Aside0 (Kd.R (Kd.int .i64) 3 w' w.heap.size (fun _ => True) v225 x4_4) ∧ Aside0 (Below w.heap.size w w'))
                        case atStart => exact ⟨(x4_2), (0), (by first | rfl | (simp; done) | (simp [*]; done)), H', ⟨Nat.le_refl _⟩, ⟨by (with_reducible repeat (first | apply Kd.R_alloc | apply Kd.R_drewN | apply Kd.R_drew)); exact HO_4.out⟩, ⟨by repeat (first | (with_reducible first | exact HB.out | apply below_alloc | apply pw_below_drewN | apply below_drew1) | exact HB.out)⟩⟩
                        case round =>
                          clear H'
                          try clear c1
                          try clear c2
                          try clear c2b0
                          try clear c2b1
                          try clear p2
                          try clear q2
                          try clear hx2
                          try clear hf2
                          try clear c3
                          try clear c3b0
                          try clear c3b1
                          try clear c4
                          try clear c5
                          try clear c6
                          try clear c6b0
                          try clear p6
                          try clear c7
                          try clear c7b0
                          try clear c8
                          try clear c8b0
                          try clear p9
                          try clear q9
                          try clear hx9
                          try clear hf9
                          try clear c12
                          try clear c12b0
                          try clear c14
                          try clear c14b0
                          try clear c15
                          try clear c15b0
                          try clear c15b1
                          try clear c16
                          try clear c18
                          try clear c18b0
                          try clear c19
                          try clear c19b0
                          try clear c20
                          try clear c20b0
                          try clear p21
                          try clear q21
                          try clear hx21
                          try clear hf21
                          try clear c22
                          try clear c22b0
                          try clear p22
                          try clear q22
                          try clear hx22
                          try clear c23
                          try clear c23b0
                          try clear p23
                          try clear q23
                          try clear hx23
                          try clear p24
                          try clear q24
                          try clear hx24
                          try clear hf24
                          try clear c25
                          try clear c25b0
                          try clear p26
                          try clear q26
                          try clear hx26
                          try clear hf26
                          try clear c27
                          try clear c27b0
                          try clear c28
                          try clear c28b0
                          try clear p29
                          try clear q29
                          try clear hx29
                          try clear hf29
                          try clear c42
                          try clear c42b0
                          try clear c43
                          try clear c43b0
                          try clear c44
                          try clear c44b0
                          try clear c44b1
                          try clear c45
                          try clear c45b0
                          try clear c46
                          try clear c46b0
                          try clear c49
                          try clear c49b0
                          try clear c49b1
                          try clear c50
                          try clear c50b0
                          try clear c51
                          try clear c51b0
                          try clear hx21_0
                          try clear hx228_0
                          try clear hx228_1
                          try clear hx229_0
                          try clear hx229_1
                          try clear hx236_0
                          try clear hx236_1
                          try clear hx237_0
                          try clear hx238_0
                          try clear hx238_1
                          try clear hx239_0
                          try clear hx24_0
                          try clear hx26_0
                          try clear hx29_0
                          try clear hx9_0
                          try clear p2
                          try clear p21
                          try clear p22
                          try clear p228
                          try clear p229
                          try clear p236
                          try clear p237
                          try clear p238
                          try clear p239
                          try clear p24
                          try clear p26
                          try clear p29
                          try clear p6
                          try clear p9
                          try clear q2
                          try clear q21
                          try clear q22
                          try clear q228
                          try clear q229
                          try clear q236
                          try clear q237
                          try clear q238
                          try clear q239
                          try clear q24
                          try clear q26
                          try clear q29
                          try clear q9
                          obtain ⟨x4_4, x10_4, rfl, HA, HK4, HO_4, HB⟩ := hrel
                          cases gk with
                          | zero => exact absurd HA.out (by simp [weighhouseref06_Match.l3])
                          | succ k4 =>
                            have H := HA.out
                            clear HA
                            simp only [weighhouseref06_Match.l3] at H
                            by_cases c54 : x10_4 < (l0.length : Int)
                            · rw [if_pos c54] at H
                              have c54b0 : decide (x10_4 < (l0.length : Int)) = true := decide_eq_true c54
                              clear c54
                              replace H := Option.bind_eq_some_iff.mp H
                              obtain ⟨t240, A550, H⟩ := H
                              replace H : (if 0 ≤ x10_4 then (if ((rd_T31 l0 x10_4).f0) = 48 then (weighhouseref06_Match.j5 k4 l0 x4_4 x10_4 t240 (t240.length : Int) true) else (weighhouseref06_Match.j5 k4 l0 x4_4 x10_4 t240 (t240.length : Int) (((rd_T31 l0 x10_4).f0) == 51))) else (none)) = some (r1, r2) := H
                              have A55 := Aside0.mk A550
                              clear A550
                              have HC56 := Aside0.mk H
                              clear H
                              obtain ⟨Ao57, co57, eo57⟩ := Kd.R_slice HO_4.out
                              subst eo57
                              go_upto_region 28 with (first | ((with_reducible refine gate_callee (f := 24) rfl ?_); refine goesL_ (some 108) rfl rfl Try.func24 (by kernel_rfl) rfl #[.slice A0 l0.length c0, .slice Ao57 x4_4.length co57, .int .i64 x10_4] rfl (by (try simp only [List.map_toArray, List.map_cons, List.map_nil]); first | done | rfl | (simp only [List.length_drop, List.length_take]; rfl)) ?_; (with_reducible refine (weighhouseref06_opened.calls k4 _ _ l0 _ _ x4_4 x10_4 t240 _ ?side1 ?side2 ?side3 ?side4 A55.out).mono ?_); (case side1 => repeat (first | exact (Kd.C_below HR0.out HB.out) | (with_reducible refine Kd.C_alloc ?_ _) | (with_reducible refine Kd.C_drewN ?_ _) | (with_reducible refine Kd.C_drew ?_))); (case side2 => exact HC0.out); (case side3 => repeat (first | exact (Kd.R_reads' HO_4.out).2.2 | (with_reducible refine Kd.C_alloc ?_ _) | (with_reducible refine Kd.C_drewN ?_ _) | (with_reducible refine Kd.C_drew ?_))); (case side4 => exact (Kd.R_reads' HO_4.out).2.1); rintro e w58 ⟨v241, rfl, ho0, hb⟩; refine ⟨_, rfl, ?_⟩; have n0_ := Aside0.mk (Kd.R_elder' (by (with_reducible repeat (first | apply Kd.R_alloc | apply Kd.R_drewN | apply Kd.R_drew)); exact HO_4.out) (Kd.R_base ho0) hb); have n1_ := Aside0.mk (Kd.R_lower (Kd.R_new' ho0 (Kd.R_lt (by (with_reducible repeat (first | apply Kd.R_alloc | apply Kd.R_drewN | apply Kd.R_drew)); exact HO_4.out))) (below_size (by repeat (first | (with_reducible first | exact HB.out | apply below_alloc | apply pw_below_drewN | apply below_drew1) | exact HB.out)))); have n2_ := Aside0.mk (below_step (by repeat (first | (with_reducible first | exact HB.out | apply below_alloc | apply pw_below_drewN | apply below_drew1) | exact HB.out)) hb); clear HO_4; clear HB; have HO_4 := n0_; have HO242 := n1_; have HB := n2_; clear n0_ n1_ n2_; (try clear hb); (try clear hb2); (try clear hk); (try clear hi); (try clear ho0); obtain ⟨Ao59, co59, eo59⟩ := Kd.R_slice HO242.out; subst eo59))
                              (try simp only [Act.put, List.setIfInBounds_toArray, List.set_cons_zero, List.set_cons_succ])
                              go_cut [124] (fun v124 wc => ∃ (kq : Nat) (x124_55 : Bool), v124 = .bool x124_55 ∧ Aside0 (weighhouseref06_Match.j5 kq l0 x4_4 x10_4 t240 (t240.length : Int) x124_55 = some (r1, r2)) ∧ Aside0 (kq ≤ k4) ∧ Aside0 (Kd.R (Kd.int .i64) 3 wc w.heap.size (fun k_ => some k_ ≠ ((.slice Ao59 t240.length co59) : Value).ownBlock) (.slice Ao57 x4_4.length co57) x4_4) ∧ Aside0 (Kd.R (Kd.int .i64) 3 wc w.heap.size (fun k_ => some k_ ≠ ((.slice Ao57 x4_4.length co57) : Value).ownBlock) (.slice Ao59 t240.length co59) t240) ∧ Aside0 (Below w.heap.size w wc))
                              case first =>
                                have H := HC56.out
                                clear HC56
                                by_cases c60 : 0 ≤ x10_4
                                · rw [if_pos c60] at H
                                  have c60b0 : decide (0 ≤ x10_4) = true := decide_eq_true c60
                                  clear c60
                                  (first | rw [c60b0] | (simp only [i64_w, i32_w]; rw [c60b0]) | skip)
                                  by_cases c61 : ((rd_T31 l0 x10_4).f0) = 48
                                  · rw [if_pos c61] at H
                                    have c61b0 : (((rd_T31 l0 x10_4).f0) == 48) = true := beq_iff_eq.mpr c61
                                    have c61b1 : (((rd_T31 l0 x10_4).f0) != 48) = false := bne_eq_false_iff_eq.mpr c61
                                    clear c61
                                    have H' := Aside0.mk H
                                    clear H
                                    have p243 : 0 ≤ (x10_4 : Int) := of_decide_eq_true (by first | (with_reducible assumption) | assumption)
                                    have q243 : x10_4 < (l0.length : Int) := of_decide_eq_true (by first | (with_reducible assumption) | assumption)
                                    obtain ⟨ad243, e243, hx243_0, hx243_1⟩ := at_T31 HR0.out x10_4 p243 q243
                                    cases e243
                                    replace hx243_0 := (HB.out.cell (World.block_lt_of_cell? w _ hx243_0)).trans hx243_0
                                    replace hx243_1 := (HB.out.cell (World.block_lt_of_cell? w _ hx243_1)).trans hx243_1
                                    replace p243 := eq_true p243
                                    replace q243 := eq_true q243
                                    go_wp2
                                    go_meet
                                    case rel => exact ⟨_, (true), (by first | rfl | (simp; done) | (simp [*]; done)), H', ⟨by have := HK1.out; have := HK2.out; have := HK3.out; have := HK4.out; first | omega | exact Nat.le_refl _⟩, ⟨by (with_reducible repeat (first | apply Kd.R_alloc | apply Kd.R_drewN | apply Kd.R_drew)); exact Kd.R_mono HO_4.out (fun _ hk => hk.2)⟩, ⟨by (with_reducible repeat (first | apply Kd.R_alloc | apply Kd.R_drewN | apply Kd.R_drew)); exact Kd.R_mono HO242.out (fun _ hk => hk.2)⟩, ⟨by repeat (first | (with_reducible first | exact HB.out | apply below_alloc | apply pw_below_drewN | apply below_drew1) | exact HB.out)⟩⟩
                                  · rw [if_neg c61] at H
                                    have c61b0 : (((rd_T31 l0 x10_4).f0) == 48) = false := beq_eq_false_iff_ne.mpr c61
                                    have c61b1 : (((rd_T31 l0 x10_4).f0) != 48) = true := bne_iff_ne.mpr c61
                                    have H' := Aside0.mk H
                                    clear H
                                    have p243 : 0 ≤ (x10_4 : Int) := of_decide_eq_true (by first | (with_reducible assumption) | assumption)
                                    have q243 : x10_4 < (l0.length : Int) := of_decide_eq_true (by first | (with_reducible assumption) | assumption)
                                    obtain ⟨ad243, e243, hx243_0, hx243_1⟩ := at_T31 HR0.out x10_4 p243 q243
                                    cases e243
                                    replace hx243_0 := (HB.out.cell (World.block_lt_of_cell? w _ hx243_0)).trans hx243_0
                                    replace hx243_1 := (HB.out.cell (World.block_lt_of_cell? w _ hx243_1)).trans hx243_1
                                    replace p243 := eq_true p243
                                    replace q243 := eq_true q243
                                    have p244 : 0 ≤ (x10_4 : Int) := of_decide_eq_true (by first | (with_reducible assumption) | assumption)
                                    have q244 : x10_4 < (l0.length : Int) := of_decide_eq_true (by first | (with_reducible assumption) | assumption)
                                    obtain ⟨ad244, e244, hx244_0, hx244_1⟩ := at_T31 HR0.out x10_4 p244 q244
                                    obtain rfl : ad243 = ad244 := (by injection e244)
                                    replace hx244_0 := (HB.out.cell (World.block_lt_of_cell? w _ hx244_0)).trans hx244_0
                                    replace hx244_1 := (HB.out.cell (World.block_lt_of_cell? w _ hx244_1)).trans hx244_1
                                    replace p244 := eq_true p244
                                    replace q244 := eq_true q244
                                    go_wp2
                                    go_meet
                                    case rel => exact ⟨_, ((((rd_T31 l0 x10_4).f0) == 51)), (by first | rfl | (simp; done) | (simp [*]; done)), H', ⟨by have := HK1.out; have := HK2.out; have := HK3.out; have := HK4.out; first | omega | exact Nat.le_refl _⟩, ⟨by (with_reducible repeat (first | apply Kd.R_alloc | apply Kd.R_drewN | apply Kd.R_drew)); exact Kd.R_mono HO_4.out (fun _ hk => hk.2)⟩, ⟨by (with_reducible repeat (first | apply Kd.R_alloc | apply Kd.R_drewN | apply Kd.R_drew)); exact Kd.R_mono HO242.out (fun _ hk => hk.2)⟩, ⟨by repeat (first | (with_reducible first | exact HB.out | apply below_alloc | apply pw_below_drewN | apply below_drew1) | exact HB.out)⟩⟩
                                · rw [if_neg c60] at H
                                  exact absurd H (by simp)
                              case rest =>
                                clear HC56
                                try clear c1
                                try clear c2
                                try clear c2b0
                                try clear c2b1
                                try clear p2
                                try clear q2
                                try clear hx2
                                try clear hf2
                                try clear c3
                                try clear c3b0
                                try clear c3b1
                                try clear c4
                                try clear c5
                                try clear c6
                                try clear c6b0
                                try clear p6
                                try clear c7
                                try clear c7b0
                                try clear c8
                                try clear c8b0
                                try clear p9
                                try clear q9
                                try clear hx9
                                try clear hf9
                                try clear c12
                                try clear c12b0
                                try clear c14
                                try clear c14b0
                                try clear c15
                                try clear c15b0
                                try clear c15b1
                                try clear c16
                                try clear c18
                                try clear c18b0
                                try clear c19
                                try clear c19b0
                                try clear c20
                                try clear c20b0
                                try clear p21
                                try clear q21
                                try clear hx21
                                try clear hf21
                                try clear c22
                                try clear c22b0
                                try clear p22
                                try clear q22
                                try clear hx22
                                try clear c23
                                try clear c23b0
                                try clear p23
                                try clear q23
                                try clear hx23
                                try clear c24
                                try clear p24
                                try clear q24
                                try clear hx24
                                try clear hf24
                                try clear c25
                                try clear c25b0
                                try clear p26
                                try clear q26
                                try clear hx26
                                try clear hf26
                                try clear c27
                                try clear c27b0
                                try clear c28
                                try clear c28b0
                                try clear p29
                                try clear q29
                                try clear hx29
                                try clear hf29
                                try clear c42
                                try clear c42b0
                                try clear c43
                                try clear c43b0
                                try clear c44
                                try clear c44b0
                                try clear c44b1
                                try clear c45
                                try clear c45b0
                                try clear c46
                                try clear c46b0
                                try clear c49
                                try clear c49b0
                                try clear c49b1
                                try clear c50
                                try clear c50b0
                                try clear c51
                                try clear c51b0
                                try clear c54
                                try clear c54b0
                                try clear c60
                                try clear c60b0
                                try clear c61
                                try clear c61b0
                                try clear c61b1
                                try clear hx21_0
                                try clear hx228_0
                                try clear hx228_1
                                try clear hx229_0
                                try clear hx229_1
                                try clear hx236_0
                                try clear hx236_1
                                try clear hx237_0
                                try clear hx238_0
                                try clear hx238_1
                                try clear hx239_0
                                try clear hx243_0
                                try clear hx243_1
                                try clear hx244_0
                                try clear hx244_1
                                try clear hx24_0
                                try clear hx26_0
                                try clear hx29_0
                                try clear hx9_0
                                try clear p2
                                try clear p21
                                try clear p22
                                try clear p228
                                try clear p229
                                try clear p23
                                try clear p236
                                try clear p237
                                try clear p238
                                try clear p239
                                try clear p24
                                try clear p243
                                try clear p244
                                try clear p26
                                try clear p29
                                try clear p6
                                try clear p9
                                try clear q2
                                try clear q21
                                try clear q22
                                try clear q228
                                try clear q229
                                try clear q23
                                try clear q236
                                try clear q237
                                try clear q238
                                try clear q239
                                try clear q24
                                try clear q243
                                try clear q244
                                try clear q26
                                try clear q29
                                try clear q9
                                obtain ⟨kq, x124_55, rfl, HA, HJ55, HO_4, HO_11, HB⟩ := hcut
                                cases kq with
                                | zero => exact absurd HA.out (by simp [weighhouseref06_Match.j5])
                                | succ kj55 =>
                                  have H := HA.out
                                  clear HA
                                  simp only [weighhouseref06_Match.j5] at H
                                  have HC62 := Aside0.mk H
                                  clear H
                                  go_upto_if 124 with (fail)
                                  go_cut [12] (fun v12 wc => ∃ (kq : Nat) (x12_61 : Int), v12 = .int .i64 x12_61 ∧ Aside0 (weighhouseref06_Match.j6 kq l0 x4_4 x10_4 t240 x12_61 = some (r1, r2)) ∧ Aside0 (kq ≤ kj55) ∧ Aside0 (Kd.R (Kd.int .i64) 3 wc w.heap.size (fun k_ => some k_ ≠ ((.slice Ao59 t240.length co59) : Value).ownBlock) (.slice Ao57 x4_4.length co57) x4_4) ∧ Aside0 (Kd.R (Kd.int .i64) 3 wc w.heap.size (fun k_ => some k_ ≠ ((.slice Ao57 x4_4.length co57) : Value).ownBlock) (.slice Ao59 t240.length co59) t240) ∧ Aside0 (Below w.heap.size w wc))
                                  case first =>
                                    have H := HC62.out
                                    clear HC62
                                    by_cases c63 : x124_55 = true
                                    · subst c63
                                      have H1 : (weighhouseref06_Match.j6 kj55 l0 x4_4 x10_4 t240 (wrap64 ((t240.length : Int) + 1))) = some (r1, r2) := by rw [if_pos rfl] at H; exact H
                                      clear H
                                      have H := H1
                                      clear H1
                                      have H' := Aside0.mk H
                                      clear H
                                      go_wp2
                                      go_meet
                                      case rel => exact ⟨_, (wrap64 ((t240.length : Int) + 1)), (by first | rfl | (simp; done) | (simp [*]; done)), H', ⟨by have := HK1.out; have := HK2.out; have := HK3.out; have := HK4.out; have := HJ55.out; first | omega | exact Nat.le_refl _⟩, ⟨by (with_reducible repeat (first | apply Kd.R_alloc | apply Kd.R_drewN | apply Kd.R_drew)); exact HO_4.out⟩, ⟨by (with_reducible repeat (first | apply Kd.R_alloc | apply Kd.R_drewN | apply Kd.R_drew)); exact HO_11.out⟩, ⟨by repeat (first | (with_reducible first | exact HB.out | apply below_alloc | apply pw_below_drewN | apply below_drew1) | exact HB.out)⟩⟩
                                    · replace c63 := Bool.eq_false_iff.mpr c63
                                      subst c63
                                      have H1 : (weighhouseref06_Match.j6 kj55 l0 x4_4 x10_4 t240 (t240.length : Int)) = some (r1, r2) := by rw [if_neg (show ¬ (false = true) by decide)] at H; exact H
                                      clear H
                                      have H := H1
                                      clear H1
                                      have H' := Aside0.mk H
                                      clear H
                                      go_wp2
                                      go_meet
                                      case rel => exact ⟨_, ((t240.length : Int)), (by first | rfl | (simp; done) | (simp [*]; done)), H', ⟨by have := HK1.out; have := HK2.out; have := HK3.out; have := HK4.out; have := HJ55.out; first | omega | exact Nat.le_refl _⟩, ⟨by (with_reducible repeat (first | apply Kd.R_alloc | apply Kd.R_drewN | apply Kd.R_drew)); exact HO_4.out⟩, ⟨by (with_reducible repeat (first | apply Kd.R_alloc | apply Kd.R_drewN | apply Kd.R_drew)); exact HO_11.out⟩, ⟨by repeat (first | (with_reducible first | exact HB.out | apply below_alloc | apply pw_below_drewN | apply below_drew1) | exact HB.out)⟩⟩
                                  case rest =>
                                    clear HC62
                                    try clear c1
                                    try clear c2
                                    try clear c2b0
                                    try clear c2b1
                                    try clear p2
                                    try clear q2
                                    try clear hx2
                                    try clear hf2
                                    try clear c3
                                    try clear c3b0
                                    try clear c3b1
                                    try clear c4
                                    try clear c5
                                    try clear c6
                                    try clear c6b0
                                    try clear p6
                                    try clear c7
                                    try clear c7b0
                                    try clear c8
                                    try clear c8b0
                                    try clear p9
                                    try clear q9
                                    try clear hx9
                                    try clear hf9
                                    try clear c12
                                    try clear c12b0
                                    try clear c14
                                    try clear c14b0
                                    try clear c15
                                    try clear c15b0
                                    try clear c15b1
                                    try clear c16
                                    try clear c18
                                    try clear c18b0
                                    try clear c19
                                    try clear c19b0
                                    try clear c20
                                    try clear c20b0
                                    try clear p21
                                    try clear q21
                                    try clear hx21
                                    try clear hf21
                                    try clear c22
                                    try clear c22b0
                                    try clear p22
                                    try clear q22
                                    try clear hx22
                                    try clear c23
                                    try clear c23b0
                                    try clear p23
                                    try clear q23
                                    try clear hx23
                                    try clear c24
                                    try clear p24
                                    try clear q24
                                    try clear hx24
                                    try clear hf24
                                    try clear c25
                                    try clear c25b0
                                    try clear p26
                                    try clear q26
                                    try clear hx26
                                    try clear hf26
                                    try clear c27
                                    try clear c27b0
                                    try clear c28
                                    try clear c28b0
                                    try clear p29
                                    try clear q29
                                    try clear hx29
                                    try clear hf29
                                    try clear c42
                                    try clear c42b0
                                    try clear c43
                                    try clear c43b0
                                    try clear c44
                                    try clear c44b0
                                    try clear c44b1
                                    try clear c45
                                    try clear c45b0
                                    try clear c46
                                    try clear c46b0
                                    try clear c49
                                    try clear c49b0
                                    try clear c49b1
                                    try clear c50
                                    try clear c50b0
                                    try clear c51
                                    try clear c51b0
                                    try clear c54
                                    try clear c54b0
                                    try clear c60
                                    try clear c60b0
                                    try clear c61
                                    try clear c61b0
                                    try clear c61b1
                                    try clear c63
                                    try clear hx21_0
                                    try clear hx228_0
                                    try clear hx228_1
                                    try clear hx229_0
                                    try clear hx229_1
                                    try clear hx236_0
                                    try clear hx236_1
                                    try clear hx237_0
                                    try clear hx238_0
                                    try clear hx238_1
                                    try clear hx239_0
                                    try clear hx243_0
                                    try clear hx243_1
                                    try clear hx244_0
                                    try clear hx244_1
                                    try clear hx24_0
                                    try clear hx26_0
                                    try clear hx29_0
                                    try clear hx9_0
                                    try clear p2
                                    try clear p21
                                    try clear p22
                                    try clear p228
                                    try clear p229
                                    try clear p23
                                    try clear p236
                                    try clear p237
                                    try clear p238
                                    try clear p239
                                    try clear p24
                                    try clear p243
                                    try clear p244
                                    try clear p26
                                    try clear p29
                                    try clear p6
                                    try clear p9
                                    try clear q2
                                    try clear q21
                                    try clear q22
                                    try clear q228
                                    try clear q229
                                    try clear q23
                                    try clear q236
                                    try clear q237
                                    try clear q238
                                    try clear q239
                                    try clear q24
                                    try clear q243
                                    try clear q244
                                    try clear q26
                                    try clear q29
                                    try clear q9
                                    obtain ⟨kq, x12_61, rfl, HA, HJ61, HO_4, HO_11, HB⟩ := hcut
                                    cases kq with
                                    | zero => exact absurd HA.out (by simp [weighhouseref06_Match.j6])
                                    | succ kj61 =>
                                      have H := HA.out
                                      clear HA
                                      simp only [weighhouseref06_Match.j6] at H
                                      by_cases c64 : x12_61 > 8
                                      · rw [if_pos c64] at H
                                        have c64b0 : decide (8 < x12_61) = true := decide_eq_true c64
                                        clear c64
                                        simp only [Option.some.injEq, Prod.mk.injEq] at H
                                        obtain ⟨rfl, rfl⟩ := H
                                        go_wp2
                                        go_ret2
                                        exact ⟨_, by first | rfl | (simp [errW_none, errW_some] <;> rfl) | (simp [*, errW_none, errW_some] <;> rfl), by first | exact Kd.R_nil _ _ _ _ _ | exact Kd.N_nil _ _ _ _ _ | exact Kd.V_nil _ _ _ _ _ | exact Kd.Q_nil _ _ _ _ _ | exact Kd.S_nil _ _ _ _ _, by repeat (first | (with_reducible first | exact HB.out | apply below_alloc | apply pw_below_drewN | apply below_drew1) | exact HB.out)⟩
                                      · rw [if_neg c64] at H
                                        have c64b0 : decide (8 < x12_61) = false := decide_eq_false c64
                                        clear c64
                                        by_cases c65 : 0 ≤ x10_4
                                        · rw [if_pos c65] at H
                                          have c65b0 : decide (0 ≤ x10_4) = true := decide_eq_true c65
                                          clear c65
                                          by_cases c66 : x10_4 < (l0.length : Int)
                                          · rw [if_pos c66] at H
                                            have c66b0 : decide (x10_4 < (l0.length : Int)) = true := decide_eq_true c66
                                            clear c66
                                            by_cases c67 : ((rd_T31 l0 x10_4).f0) = 52
                                            · rw [if_pos c67] at H
                                              have c67b0 : (((rd_T31 l0 x10_4).f0) == 52) = true := beq_iff_eq.mpr c67
                                              have c67b1 : (((rd_T31 l0 x10_4).f0) != 52) = false := bne_eq_false_iff_eq.mpr c67
                                              clear c67
                                              have H' := Aside0.mk H
                                              clear H
                                              have p245 : 0 ≤ (x10_4 : Int) := of_decide_eq_true (by first | (with_reducible assumption) | assumption)
                                              have q245 : x10_4 < (l0.length : Int) := of_decide_eq_true (by first | (with_reducible assumption) | assumption)
                                              obtain ⟨ad245, e245, hx245_0, hx245_1⟩ := at_T31 HR0.out x10_4 p245 q245
                                              cases e245
                                              replace hx245_0 := (HB.out.cell (World.block_lt_of_cell? w _ hx245_0)).trans hx245_0
                                              replace hx245_1 := (HB.out.cell (World.block_lt_of_cell? w _ hx245_1)).trans hx245_1
                                              replace p245 := eq_true p245
                                              replace q245 := eq_true q245
                                              go_wp2
                                              go_loopg [13] kj61 (fun kq v13 w' => ∃ (x4_7 : List Int) (x13_7 : Int), v13 = .int .i64 x13_7 ∧ Aside0 (weighhouseref06_Match.l4 kq l0 x4_7 x10_4 t240 x13_7 = some (r1, r2)) ∧ Aside0 (kq ≤ kj61) ∧ Aside0 (Kd.R (Kd.int .i64) 3 w' w.heap.size (fun k_ => some k_ ≠ ((.slice Ao59 t240.length co59) : Value).ownBlock) (.slice Ao57 x4_4.length co57) x4_7) ∧ Aside0 (Kd.R (Kd.int .i64) 3 w' w.heap.size (fun k_ => some k_ ≠ ((.slice Ao57 x4_4.length co57) : Value).ownBlock) (.slice Ao59 t240.length co59) t240) ∧ Aside0 (Below w.heap.size w w'))
                                              case atStart => exact ⟨(x4_4), (0), (by first | rfl | (simp; done) | (simp [*]; done)), H', ⟨Nat.le_refl _⟩, ⟨by (with_reducible repeat (first | apply Kd.R_alloc | apply Kd.R_drewN | apply Kd.R_drew)); exact HO_4.out⟩, ⟨by (with_reducible repeat (first | apply Kd.R_alloc | apply Kd.R_drewN | apply Kd.R_drew)); exact HO_11.out⟩, ⟨by repeat (first | (with_reducible first | exact HB.out | apply below_alloc | apply pw_below_drewN | apply below_drew1) | exact HB.out)⟩⟩
                                              case round =>
                                                clear H'
                                                try clear c1
                                                try clear c2
                                                try clear c2b0
                                                try clear c2b1
                                                try clear p2
                                                try clear q2
                                                try clear hx2
                                                try clear hf2
                                                try clear c3
                                                try clear c3b0
                                                try clear c3b1
                                                try clear c4
                                                try clear c5
                                                try clear c6
                                                try clear c6b0
                                                try clear p6
                                                try clear c7
                                                try clear c7b0
                                                try clear c8
                                                try clear c8b0
                                                try clear p9
                                                try clear q9
                                                try clear hx9
                                                try clear hf9
                                                try clear c12
                                                try clear c12b0
                                                try clear c14
                                                try clear c14b0
                                                try clear c15
                                                try clear c15b0
                                                try clear c15b1
                                                try clear c16
                                                try clear c18
                                                try clear c18b0
                                                try clear c19
                                                try clear c19b0
                                                try clear c20
                                                try clear c20b0
                                                try clear p21
                                                try clear q21
                                                try clear hx21
                                                try clear hf21
                                                try clear c22
                                                try clear c22b0
                                                try clear p22
                                                try clear q22
                                                try clear hx22
                                                try clear c23
                                                try clear c23b0
                                                try clear p23
                                                try clear q23
                                                try clear hx23
                                                try clear c24
                                                try clear p24
                                                try clear q24
                                                try clear hx24
                                                try clear hf24
                                                try clear c25
                                                try clear c25b0
                                                try clear p26
                                                try clear q26
                                                try clear hx26
                                                try clear hf26
                                                try clear c27
                                                try clear c27b0
                                                try clear c28
                                                try clear c28b0
                                                try clear p29
                                                try clear q29
                                                try clear hx29
                                                try clear hf29
                                                try clear c42
                                                try clear c42b0
                                                try clear c43
                                                try clear c43b0
                                                try clear c44
                                                try clear c44b0
                                                try clear c44b1
                                                try clear c45
                                                try clear c45b0
                                                try clear c46
                                                try clear c46b0
                                                try clear c49
                                                try clear c49b0
                                                try clear c49b1
                                                try clear c50
                                                try clear c50b0
                                                try clear c51
                                                try clear c51b0
                                                try clear c54
                                                try clear c54b0
                                                try clear c60
                                                try clear c60b0
                                                try clear c61
                                                try clear c61b0
                                                try clear c61b1
                                                try clear c63
                                                try clear c64
                                                try clear c64b0
                                                try clear p64
                                                try clear c65
                                                try clear c65b0
                                                try clear c66
                                                try clear c66b0
                                                try clear c67
                                                try clear c67b0
                                                try clear c67b1
                                                try clear hx21_0
                                                try clear hx228_0
                                                try clear hx228_1
                                                try clear hx229_0
                                                try clear hx229_1
                                                try clear hx236_0
                                                try clear hx236_1
                                                try clear hx237_0
                                                try clear hx238_0
                                                try clear hx238_1
                                                try clear hx239_0
                                                try clear hx243_0
                                                try clear hx243_1
                                                try clear hx244_0
                                                try clear hx244_1
                                                try clear hx245_0
                                                try clear hx245_1
                                                try clear hx24_0
                                                try clear hx26_0
                                                try clear hx29_0
                                                try clear hx9_0
                                                try clear p2
                                                try clear p21
                                                try clear p22
                                                try clear p228
                                                try clear p229
                                                try clear p23
                                                try clear p236
                                                try clear p237
                                                try clear p238
                                                try clear p239
                                                try clear p24
                                                try clear p243
                                                try clear p244
                                                try clear p245
                                                try clear p26
                                                try clear p29
                                                try clear p6
                                                try clear p9
                                                try clear q2
                                                try clear q21
                                                try clear q22
                                                try clear q228
                                                try clear q229
                                                try clear q23
                                                try clear q236
                                                try clear q237
                                                try clear q238
                                                try clear q239
                                                try clear q24
                                                try clear q243
                                                try clear q244
                                                try clear q245
                                                try clear q26
                                                try clear q29
                                                try clear q9
                                                obtain ⟨x4_7, x13_7, rfl, HA, HK7, HO_4, HO_11, HB⟩ := hrel
                                                have hl4_7 := (Kd.R_reads' HO_4.out).1
                                                rw [hl4_7] at HO_4
                                                (try simp only [hl4_7])
                                                (try simp only [hl4_7] at HO_11)
                                                cases gk with
                                                | zero => exact absurd HA.out (by simp [weighhouseref06_Match.l4])
                                                | succ k7 =>
                                                  have H := HA.out
                                                  clear HA
                                                  simp only [weighhouseref06_Match.l4] at H
                                                  by_cases c68 : x13_7 < (t240.length : Int)
                                                  · rw [if_pos c68] at H
                                                    have c68b0 : decide (x13_7 < (t240.length : Int)) = true := decide_eq_true c68
                                                    clear c68
                                                    by_cases c69 : 0 ≤ x13_7
                                                    · rw [if_pos c69] at H
                                                      have c69b0 : decide (0 ≤ x13_7) = true := decide_eq_true c69
                                                      clear c69
                                                      by_cases c70 : 0 ≤ (rd t240 x13_7)
                                                      · rw [if_pos c70] at H
                                                        have c70b0 : decide (0 ≤ (rd t240 x13_7)) = true := decide_eq_true c70
                                                        clear c70
                                                        by_cases c71 : (rd t240 x13_7) < (l0.length : Int)
                                                        · rw [if_pos c71] at H
                                                          have c71b0 : decide ((rd t240 x13_7) < (l0.length : Int)) = true := decide_eq_true c71
                                                          clear c71
                                                          by_cases c72 : ((rd_T31 l0 (rd t240 x13_7)).f0) = 51
                                                          · rw [if_pos c72] at H
                                                            have c72b0 : (((rd_T31 l0 (rd t240 x13_7)).f0) == 51) = true := beq_iff_eq.mpr c72
                                                            have c72b1 : (((rd_T31 l0 (rd t240 x13_7)).f0) != 51) = false := bne_eq_false_iff_eq.mpr c72
                                                            clear c72
                                                            by_cases c73 : (rd t240 x13_7) < (x4_7.length : Int)
                                                            · rw [if_pos c73] at H
                                                              have c73b0 : decide ((rd t240 x13_7) < (x4_7.length : Int)) = true := decide_eq_true c73
                                                              clear c73
                                                              by_cases c74 : 0 ≤ x10_4
                                                              · rw [if_pos c74] at H
                                                                have c74b0 : decide (0 ≤ x10_4) = true := decide_eq_true c74
                                                                clear c74
                                                                by_cases c75 : x10_4 < (x4_7.length : Int)
                                                                · rw [if_pos c75] at H
                                                                  have c75b0 : decide (x10_4 < (x4_7.length : Int)) = true := decide_eq_true c75
                                                                  clear c75
                                                                  obtain ⟨y250, hy250⟩ : ∃ y_ : List Int, y_ = (x4_7.set (x10_4 : Int).toNat (rd x4_7 (rd t240 x13_7))) := ⟨_, rfl⟩
                                                                  replace H : (weighhouseref06_Match.l4 k7 l0 y250 x10_4 t240 (wrap64 (x13_7 + 1))) = some (r1, r2) := by first | (rw [hy250]; with_reducible exact H) | (have H2_ := (Option.bind_some _ _).symm.trans H; rw [hy250]; with_reducible exact H2_) | (have H2_ := (Option.bind_some _ _).symm.trans H; with_reducible exact H2_) | with_reducible exact H | (rw [hy250]; exact H) | exact H
                                                                  have Ny250 := Aside0.mk hy250
                                                                  clear hy250
                                                                  have H' := Aside0.mk H
                                                                  clear H
                                                                  have p246 : 0 ≤ (x13_7 : Int) := of_decide_eq_true (by first | (with_reducible assumption) | assumption)
                                                                  have q246 : x13_7 < (t240.length : Int) := of_decide_eq_true (by first | (with_reducible assumption) | assumption)
                                                                  obtain ⟨ad246, e246, hx246_0⟩ := Kd.at_int (Kd.R_reads' HO_11.out).2.2 x13_7 p246 q246
                                                                  cases e246
                                                                  replace p246 := eq_true p246
                                                                  replace q246 := eq_true q246
                                                                  have p247 : 0 ≤ ((rd t240 x13_7) : Int) := of_decide_eq_true (by first | (with_reducible assumption) | assumption)
                                                                  have q247 : (rd t240 x13_7) < (l0.length : Int) := of_decide_eq_true (by first | (with_reducible assumption) | assumption)
                                                                  obtain ⟨ad247, e247, hx247_0, hx247_1⟩ := at_T31 HR0.out (rd t240 x13_7) p247 q247
                                                                  obtain rfl : ad245 = ad247 := (by injection e247)
                                                                  replace hx247_0 := (HB.out.cell (World.block_lt_of_cell? w _ hx247_0)).trans hx247_0
                                                                  replace hx247_1 := (HB.out.cell (World.block_lt_of_cell? w _ hx247_1)).trans hx247_1
                                                                  replace p247 := eq_true p247
                                                                  replace q247 := eq_true q247
                                                                  have p248 : 0 ≤ (x13_7 : Int) := of_decide_eq_true (by first | (with_reducible assumption) | assumption)
                                                                  have q248 : x13_7 < (t240.length : Int) := of_decide_eq_true (by first | (with_reducible assumption) | assumption)
                                                                  obtain ⟨ad248, e248, hx248_0⟩ := Kd.at_int (Kd.R_reads' HO_11.out).2.2 x13_7 p248 q248
                                                                  obtain rfl : ad246 = ad248 := (by injection e248)
                                                                  replace p248 := eq_true p248
                                                                  replace q248 := eq_true q248
                                                                  have p249 : 0 ≤ ((rd t240 x13_7) : Int) := of_decide_eq_true (by first | (with_reducible assumption) | assumption)
                                                                  have q249 : (rd t240 x13_7) < (x4_7.length : Int) := of_decide_eq_true (by first | (with_reducible assumption) | assumption)
                                                                  obtain ⟨ad249, e249, hx249_0⟩ := Kd.at_int (Kd.R_reads' HO_4.out).2.2 (rd t240 x13_7) p249 q249
                                                                  cases e249
                                                                  replace p249 := eq_true p249
                                                                  replace q249 := eq_true q249
                                                                  have p76 : 0 ≤ (x10_4 : Int) := of_decide_eq_true (by first | (with_reducible assumption) | assumption)
                                                                  have q76 : (x10_4 : Int) < ((x4_7.length : Int) : Int) := of_decide_eq_true (by first | (with_reducible assumption) | assumption)
                                                                  obtain ⟨go76, co76, eo76, gb76, gl76, cl76, HG76⟩ := Kd.R_form HO_4.out (by omega)
                                                                  (first | cases eo76 | (injection eo76 with ea_ en_ ec_; (first | subst ea_ | (injection ea_ with ea_; subst ea_)); subst ec_; clear en_))
                                                                  have GB76 := Aside0.mk gb76
                                                                  have GG76 := Aside0.mk HG76
                                                                  clear gb76 gl76 HG76
                                                                  (first | simp only [add_plain] at hx249_0 | skip)
                                                                  obtain ⟨hx76_0, hf76_0⟩ := Kd.R_celln 0 HO_4.out (x10_4 : Int) p76 q76
                                                                  replace p76 := eq_true p76
                                                                  replace q76 := eq_true q76
                                                                  have HP77 := Kd.R_putg HO_4.out (x10_4 : Int) (rd x4_7 (rd t240 x13_7))
                                                                  go_wp2_with (first | ((with_reducible refine gate_store (t := 3) (p := 159) rfl ?_); refine store_event (t := 3) (p := 159) (v := ?vo_w78) (w1 := (wr.setCell ⟨go76, (x10_4 : Int).toNat, none⟩ (.int .i64 (rd x4_7 (rd t240 x13_7))))) ?hg ?ho ?hn ?hr ?_; (case ho => rfl); (case hg => rfl); (case hn => rfl); (case hr => first | (go_simp; done) | (go_simp; rfl)); intro w78 hw; have hg : wr.grownBy w78 (some go76) := (by rw [hw]; exact HP77.2); have hp_ : Kd.R (Kd.int .i64) 3 w78 w.heap.size (fun k_ => some k_ ≠ (.slice (some ad246) t240.length co59 : Value).ownBlock) (.slice (some ⟨go76, 0, none⟩) x4_7.length co57) y250 := (by rw [hw, Ny250.out]; exact HP77.1); clear HP77; have n0_ := Aside0.mk (hp_); have n1_ := Aside0.mk (Kd.R_after (v := (.slice (some ⟨go76, 0, none⟩) x4_7.length co57)) (v1 := (.slice (some ⟨go76, 0, none⟩) x4_7.length co57)) (ok := (fun _ => True)) (by (with_reducible repeat (first | apply Kd.R_alloc | apply Kd.R_drewN | apply Kd.R_drew)); exact Kd.R_mono HO_11.out (fun _ hk => ⟨trivial, hk⟩)) hg (.inl rfl)); have n2_ := Aside0.mk ((by rw [hw]; exact below_set (HB.out) GB76.out : Below w.heap.size w w78)); clear HO_4; clear HO_11; clear HB; have HO_4 := n0_; have HO_11 := n1_; have HB := n2_; clear n0_ n1_ n2_; clear hg hw hp_))
                                                                  (try simp only [← hl4_7])
                                                                  go_roundg k7
                                                                  case measure => have := HK1.out; have := HK2.out; have := HK3.out; have := HK4.out; have := HJ55.out; have := HJ61.out; have := HK7.out; omega
                                                                  case rel => exact ⟨(y250), (wrap64 (x13_7 + 1)), (by first | rfl | (simp; done) | (simp [*]; done)), H', ⟨by have := HK1.out; have := HK2.out; have := HK3.out; have := HK4.out; have := HJ55.out; have := HJ61.out; have := HK7.out; omega⟩, ⟨by (try simp only [hl4_7]); (with_reducible repeat (first | apply Kd.R_alloc | apply Kd.R_drewN | apply Kd.R_drew)); exact HO_4.out⟩, ⟨by (try simp only [hl4_7]); (with_reducible repeat (first | apply Kd.R_alloc | apply Kd.R_drewN | apply Kd.R_drew)); exact Kd.R_mono HO_11.out (fun _ hk => hk.2)⟩, ⟨by repeat (first | (with_reducible first | exact HB.out | apply below_alloc | apply pw_below_drewN | apply below_drew1) | exact HB.out)⟩⟩
                                                                · rw [if_neg c75] at H
                                                                  exact absurd H (by simp)
                                                              · rw [if_neg c74] at H
                                                                exact absurd H (by simp)
                                                            · rw [if_neg c73] at H
                                                              exact absurd H (by simp)
                                                          · rw [if_neg c72] at H
                                                            have c72b0 : (((rd_T31 l0 (rd t240 x13_7)).f0) == 51) = false := beq_eq_false_iff_ne.mpr c72
                                                            have c72b1 : (((rd_T31 l0 (rd t240 x13_7)).f0) != 51) = true := bne_iff_ne.mpr c72
                                                            have H' := Aside0.mk H
                                                            clear H
                                                            have p246 : 0 ≤ (x13_7 : Int) := of_decide_eq_true (by first | (with_reducible assumption) | assumption)
                                                            have q246 : x13_7 < (t240.length : Int) := of_decide_eq_true (by first | (with_reducible assumption) | assumption)
                                                            obtain ⟨ad246, e246, hx246_0⟩ := Kd.at_int (Kd.R_reads' HO_11.out).2.2 x13_7 p246 q246
                                                            cases e246
                                                            replace p246 := eq_true p246
                                                            replace q246 := eq_true q246
                                                            have p247 : 0 ≤ ((rd t240 x13_7) : Int) := of_decide_eq_true (by first | (with_reducible assumption) | assumption)
                                                            have q247 : (rd t240 x13_7) < (l0.length : Int) := of_decide_eq_true (by first | (with_reducible assumption) | assumption)
                                                            obtain ⟨ad247, e247, hx247_0, hx247_1⟩ := at_T31 HR0.out (rd t240 x13_7) p247 q247
                                                            obtain rfl : ad245 = ad247 := (by injection e247)
                                                            replace hx247_0 := (HB.out.cell (World.block_lt_of_cell? w _ hx247_0)).trans hx247_0
                                                            replace hx247_1 := (HB.out.cell (World.block_lt_of_cell? w _ hx247_1)).trans hx247_1
                                                            replace p247 := eq_true p247
                                                            replace q247 := eq_true q247
                                                            go_wp2
                                                            (try simp only [← hl4_7])
                                                            go_roundg k7
                                                            case measure => have := HK1.out; have := HK2.out; have := HK3.out; have := HK4.out; have := HJ55.out; have := HJ61.out; have := HK7.out; omega
                                                            case rel => exact ⟨(x4_7), (wrap64 (x13_7 + 1)), (by first | rfl | (simp; done) | (simp [*]; done)), H', ⟨by have := HK1.out; have := HK2.out; have := HK3.out; have := HK4.out; have := HJ55.out; have := HJ61.out; have := HK7.out; omega⟩, ⟨by (try simp only [hl4_7]); (with_reducible repeat (first | apply Kd.R_alloc | apply Kd.R_drewN | apply Kd.R_drew)); exact HO_4.out⟩, ⟨by (try simp only [hl4_7]); (with_reducible repeat (first | apply Kd.R_alloc | apply Kd.R_drewN | apply Kd.R_drew)); exact HO_11.out⟩, ⟨by repeat (first | (with_reducible first | exact HB.out | apply below_alloc | apply pw_below_drewN | apply below_drew1) | exact HB.out)⟩⟩
                                                        · rw [if_neg c71] at H
                                                          exact absurd H (by simp)
                                                      · rw [if_neg c70] at H
                                                        exact absurd H (by simp)
                                                    · rw [if_neg c69] at H
                                                      exact absurd H (by simp)
                                                  · rw [if_neg c68] at H
                                                    have c68b0 : decide (x13_7 < (t240.length : Int)) = false := decide_eq_false c68
                                                    clear c68
                                                    by_cases c79 : 0 ≤ x10_4
                                                    · rw [if_pos c79] at H
                                                      have c79b0 : decide (0 ≤ x10_4) = true := decide_eq_true c79
                                                      clear c79
                                                      by_cases c80 : x10_4 < (x4_7.length : Int)
                                                      · rw [if_pos c80] at H
                                                        have c80b0 : decide (x10_4 < (x4_7.length : Int)) = true := decide_eq_true c80
                                                        clear c80
                                                        by_cases c81 : (rd x4_7 x10_4) < 0
                                                        · rw [if_pos c81] at H
                                                          have c81b0 : decide ((rd x4_7 x10_4) < 0) = true := decide_eq_true c81
                                                          clear c81
                                                          simp only [Option.some.injEq, Prod.mk.injEq] at H
                                                          obtain ⟨rfl, rfl⟩ := H
                                                          have p251 : 0 ≤ (x10_4 : Int) := of_decide_eq_true (by first | (with_reducible assumption) | assumption)
                                                          have q251 : x10_4 < (x4_7.length : Int) := of_decide_eq_true (by first | (with_reducible assumption) | assumption)
                                                          obtain ⟨ad251, e251, hx251_0⟩ := Kd.at_int (Kd.R_reads' HO_4.out).2.2 x10_4 p251 q251
                                                          cases e251
                                                          replace p251 := eq_true p251
                                                          replace q251 := eq_true q251
                                                          go_wp2
                                                          go_ret2
                                                          exact ⟨_, by first | rfl | (simp [errW_none, errW_some] <;> rfl) | (simp [*, errW_none, errW_some] <;> rfl), by first | exact Kd.R_nil _ _ _ _ _ | exact Kd.N_nil _ _ _ _ _ | exact Kd.V_nil _ _ _ _ _ | exact Kd.Q_nil _ _ _ _ _ | exact Kd.S_nil _ _ _ _ _, by repeat (first | (with_reducible first | exact HB.out | apply below_alloc | apply pw_below_drewN | apply below_drew1) | exact HB.out)⟩
                                                        · rw [if_neg c81] at H
                                                          have c81b0 : decide ((rd x4_7 x10_4) < 0) = false := decide_eq_false c81
                                                          clear c81
                                                          have H' := Aside0.mk H
                                                          clear H
                                                          have p251 : 0 ≤ (x10_4 : Int) := of_decide_eq_true (by first | (with_reducible assumption) | assumption)
                                                          have q251 : x10_4 < (x4_7.length : Int) := of_decide_eq_true (by first | (with_reducible assumption) | assumption)
                                                          obtain ⟨ad251, e251, hx251_0⟩ := Kd.at_int (Kd.R_reads' HO_4.out).2.2 x10_4 p251 q251
                                                          cases e251
                                                          replace p251 := eq_true p251
                                                          replace q251 := eq_true q251
                                                          go_wp2
                                                          (try simp only [← hl4_7])
                                                          go_roundg k7
                                                          case measure => have := HK1.out; have := HK2.out; have := HK3.out; have := HK4.out; have := HJ55.out; have := HJ61.out; have := HK7.out; omega
                                                          case rel => exact ⟨(x4_7), (wrap64 (x10_4 + 1)), (by first | rfl | (simp; done) | (simp [*]; done)), H', ⟨by have := HK1.out; have := HK2.out; have := HK3.out; have := HK4.out; have := HJ55.out; have := HJ61.out; have := HK7.out; omega⟩, ⟨by (try simp only [hl4_7]); (with_reducible repeat (first | apply Kd.R_alloc | apply Kd.R_drewN | apply Kd.R_drew)); exact Kd.R_mono HO_4.out (fun _ hk => trivial)⟩, ⟨by repeat (first | (with_reducible first | exact HB.out | apply below_alloc | apply pw_below_drewN | apply below_drew1) | exact HB.out)⟩⟩
                                                      · rw [if_neg c80] at H
                                                        exact absurd H (by simp)
                                                    · rw [if_neg c79] at H
                                                      exact absurd H (by simp)
                                            · rw [if_neg c67] at H
                                              have c67b0 : (((rd_T31 l0 x10_4).f0) == 52) = false := beq_eq_false_iff_ne.mpr c67
                                              have c67b1 : (((rd_T31 l0 x10_4).f0) != 52) = true := bne_iff_ne.mpr c67
                                              have H' := Aside0.mk H
                                              clear H
                                              have p245 : 0 ≤ (x10_4 : Int) := of_decide_eq_true (by first | (with_reducible assumption) | assumption)
                                              have q245 : x10_4 < (l0.length : Int) := of_decide_eq_true (by first | (with_reducible assumption) | assumption)
                                              obtain ⟨ad245, e245, hx245_0, hx245_1⟩ := at_T31 HR0.out x10_4 p245 q245
                                              cases e245
                                              replace hx245_0 := (HB.out.cell (World.block_lt_of_cell? w _ hx245_0)).trans hx245_0
                                              replace hx245_1 := (HB.out.cell (World.block_lt_of_cell? w _ hx245_1)).trans hx245_1
                                              replace p245 := eq_true p245
                                              replace q245 := eq_true q245
                                              go_wp2
                                              go_roundg kj61
                                              case measure => have := HK1.out; have := HK2.out; have := HK3.out; have := HK4.out; have := HJ55.out; have := HJ61.out; omega
                                              case rel => exact ⟨(x4_4), (wrap64 (x10_4 + 1)), (by first | rfl | (simp; done) | (simp [*]; done)), H', ⟨by have := HK1.out; have := HK2.out; have := HK3.out; have := HK4.out; have := HJ55.out; have := HJ61.out; omega⟩, ⟨by (with_reducible repeat (first | apply Kd.R_alloc | apply Kd.R_drewN | apply Kd.R_drew)); exact Kd.R_mono HO_4.out (fun _ hk => trivial)⟩, ⟨by repeat (first | (with_reducible first | exact HB.out | apply below_alloc | apply pw_below_drewN | apply below_drew1) | exact HB.out)⟩⟩
                                          · rw [if_neg c66] at H
                                            exact absurd H (by simp)
                                        · rw [if_neg c65] at H
                                          exact absurd H (by simp)
                            · rw [if_neg c54] at H
                              have c54b0 : decide (x10_4 < (l0.length : Int)) = false := decide_eq_false c54
                              clear c54
                              simp only [Option.some.injEq, Prod.mk.injEq] at H
                              obtain ⟨rfl, rfl⟩ := H
                              go_wp2
                              go_ret2
                              exact ⟨_, by first | rfl | (simp [errW_none, errW_some] <;> rfl) | (simp [*, errW_none, errW_some] <;> rfl), by (with_reducible repeat (first | apply Kd.R_alloc | apply Kd.R_drewN | apply Kd.R_drew)); exact HO_4.out, by repeat (first | (with_reducible first | exact HB.out | apply below_alloc | apply pw_below_drewN | apply below_drew1) | exact HB.out)⟩
    · rw [if_neg c3] at H
      exact absurd H (by simp)
  · rw [if_neg c2] at H
    exact absurd H (by simp)

end Go.Proofs.Ytbdmbkmokhaflaa.Q
end

section
-- written by hprint.py (a program of these sessions) out of the translation; Lean checks it
namespace Go.Proofs.Ytbdmbkmokhaflaa.Q
open Go.RowKit Go.Proofs.YtbdmbkmokhaflaaW.Hb Go.Proofs.YtbdmbkmokhaflaaW.PrintWords Go.Proofs.YtbdmbkmokhaflaaW.PrintLast Go.Proofs.YtbdmbkmokhaflaaW.PrintMore
attribute [local go_sem] max2_int min2_int max_two min_two max_three min_three max_four min_four   -- for this text's walks alone
set_option linter.unusedVariables false
set_option linter.unusedSimpArgs false

/-! ### weighhouseref06_Around: function 20 -/
def weighhouseref06_Around.f (k : Nat) (l0 : List (S31)) (a1 : Int) : Option (List Int) := (weighhouseref06_Match.f k l0).bind fun bt283 => (if bt283.2 = 0 then (if a1 < 0 then (some ([] : List Int)) else (if a1 ≥ (l0.length : Int) then (some ([] : List Int)) else ((weighhouseref06_opened.f k l0 bt283.1 a1).bind fun t287 => (some t287)))) else (some ([] : List Int)))
theorem weighhouseref06_Around.mono : ∀ a0 a1 k, LeO (weighhouseref06_Around.f k a0 a1) (weighhouseref06_Around.f (k + 1) a0 a1) := by
  intro a0 a1 k
  unfold weighhouseref06_Around.f
  repeat' first
      | (with_reducible exact weighhouseref06_Match.mono _ _)
      | (with_reducible exact weighhouseref06_opened.mono _ _ _ _)
      | (with_reducible exact LeO.refl _)
      | (with_reducible exact LeO.none _)
      | (with_reducible refine LeO.ite ?_ ?_)
      | (with_reducible refine LeO.bind ?_ (fun _ => ?_))
      | exact weighhouseref06_Match.mono _ _
      | exact weighhouseref06_opened.mono _ _ _ _
      | exact LeO.none _
      | refine LeO.ite ?_ ?_
      | refine LeO.bind ?_ (fun _ => ?_)
set_option maxHeartbeats 8000000 in
set_option maxRecDepth 100000 in
theorem weighhouseref06_Around.calls (k : Nat) (A0 : Option Addr) (c0 : Nat) (l0 : List (S31)) (a1 : Int) (r : List Int) (w : World) (hr0 : Kd.C k31 w A0 l0.length l0) (hc0 : l0.length ≤ c0) (h : weighhouseref06_Around.f k l0 a1 = some r) :
    Calls Try.prog 20 #[.slice A0 l0.length c0, .int .i64 a1] w fun e w' => ∃ v0_ : Value, e = .returned (v0_) ∧ Kd.R (Kd.int .i64) 3 w' w.heap.size (fun _ => True) v0_ r ∧ Below w.heap.size w w' := by
  have HR0 := Aside0.mk hr0
  have HC0 := Aside0.mk hc0
  clear hr0 hc0
  have HB := Aside0.mk (Below.refl w.heap.size w)
  have H : ((weighhouseref06_Match.f k l0).bind fun bt283 => (if bt283.2 = 0 then (if a1 < 0 then (some ([] : List Int)) else (if a1 ≥ (l0.length : Int) then (some ([] : List Int)) else ((weighhouseref06_opened.f k l0 bt283.1 a1).bind fun t287 => (some t287)))) else (some ([] : List Int)))) = some r := h
  clear h
  replace H := Option.bind_eq_some_iff.mp H
  obtain ⟨⟨t283, t284⟩, A30, H⟩ := H
  replace H : (if t284 = 0 then (if a1 < 0 then (some ([] : List Int)) else (if a1 ≥ (l0.length : Int) then (some ([] : List Int)) else ((weighhouseref06_opened.f k l0 t283 a1).bind fun t287 => (some t287)))) else (some ([] : List Int))) = some r := H
  have A3 := Aside0.mk A30
  clear A30
  by_cases c4 : t284 = 0
  · rw [if_pos c4] at H
    have c4b0 : (t284 == 0) = true := beq_iff_eq.mpr c4
    have c4b1 : (t284 != 0) = false := bne_eq_false_iff_eq.mpr c4
    clear c4
    by_cases c5 : a1 < 0
    · rw [if_pos c5] at H
      have c5b0 : decide (a1 < 0) = true := decide_eq_true c5
      clear c5
      obtain rfl := Option.some.inj H
      go_enter Try.func20, Try.ntmps20
      go_wp2_with (first | ((with_reducible refine gate_callee (f := 15) rfl ?_); refine goesL_ (some 9) rfl rfl Try.func15 (by kernel_rfl) rfl #[.slice A0 l0.length c0] rfl (by (try simp only [List.map_toArray, List.map_cons, List.map_nil]); first | done | rfl | (simp only [List.length_drop, List.length_take]; rfl)) ?_; (with_reducible refine (weighhouseref06_Match.calls k _ _ l0 t283 t284 _ ?side1 ?side2 A3.out).mono ?_); (case side1 => repeat (first | exact HR0.out | (with_reducible refine Kd.C_alloc ?_ _) | (with_reducible refine Kd.C_drewN ?_ _) | (with_reducible refine Kd.C_drew ?_))); (case side2 => exact HC0.out); rintro e w6 ⟨v285, rfl, ho0, hb⟩; refine ⟨_, rfl, ?_⟩; have n0_ := Aside0.mk (Kd.R_lower ho0 (below_size (by repeat (first | (with_reducible first | exact HB.out | apply below_alloc | apply pw_below_drewN | apply below_drew1) | exact HB.out)))); have n1_ := Aside0.mk (below_step (by repeat (first | (with_reducible first | exact HB.out | apply below_alloc | apply pw_below_drewN | apply below_drew1) | exact HB.out)) hb); clear HB; have HO286 := n0_; have HB := n1_; clear n0_ n1_; (try clear hb); (try clear hb2); (try clear hk); (try clear hi); (try clear ho0)))
      go_ret
      exact ⟨_, by first | rfl | (simp [errW_none, errW_some] <;> rfl) | (simp [*, errW_none, errW_some] <;> rfl), by first | exact Kd.R_nil _ _ _ _ _ | exact Kd.N_nil _ _ _ _ _ | exact Kd.V_nil _ _ _ _ _ | exact Kd.Q_nil _ _ _ _ _ | exact Kd.S_nil _ _ _ _ _, by repeat (first | (with_reducible first | exact HB.out | apply below_alloc | apply pw_below_drewN | apply below_drew1) | exact HB.out)⟩
    · rw [if_neg c5] at H
      have c5b0 : decide (a1 < 0) = false := decide_eq_false c5
      clear c5
      by_cases c7 : a1 ≥ (l0.length : Int)
      · rw [if_pos c7] at H
        have c7b0 : decide ((l0.length : Int) ≤ a1) = true := decide_eq_true c7
        clear c7
        obtain rfl := Option.some.inj H
        go_enter Try.func20, Try.ntmps20
        go_wp2_with (first | ((with_reducible refine gate_callee (f := 15) rfl ?_); refine goesL_ (some 9) rfl rfl Try.func15 (by kernel_rfl) rfl #[.slice A0 l0.length c0] rfl (by (try simp only [List.map_toArray, List.map_cons, List.map_nil]); first | done | rfl | (simp only [List.length_drop, List.length_take]; rfl)) ?_; (with_reducible refine (weighhouseref06_Match.calls k _ _ l0 t283 t284 _ ?side1 ?side2 A3.out).mono ?_); (case side1 => repeat (first | exact HR0.out | (with_reducible refine Kd.C_alloc ?_ _) | (with_reducible refine Kd.C_drewN ?_ _) | (with_reducible refine Kd.C_drew ?_))); (case side2 => exact HC0.out); rintro e w8 ⟨v285, rfl, ho0, hb⟩; refine ⟨_, rfl, ?_⟩; have n0_ := Aside0.mk (Kd.R_lower ho0 (below_size (by repeat (first | (with_reducible first | exact HB.out | apply below_alloc | apply pw_below_drewN | apply below_drew1) | exact HB.out)))); have n1_ := Aside0.mk (below_step (by repeat (first | (with_reducible first | exact HB.out | apply below_alloc | apply pw_below_drewN | apply below_drew1) | exact HB.out)) hb); clear HB; have HO286 := n0_; have HB := n1_; clear n0_ n1_; (try clear hb); (try clear hb2); (try clear hk); (try clear hi); (try clear ho0)))
        go_ret
        exact ⟨_, by first | rfl | (simp [errW_none, errW_some] <;> rfl) | (simp [*, errW_none, errW_some] <;> rfl), by first | exact Kd.R_nil _ _ _ _ _ | exact Kd.N_nil _ _ _ _ _ | exact Kd.V_nil _ _ _ _ _ | exact Kd.Q_nil _ _ _ _ _ | exact Kd.S_nil _ _ _ _ _, by repeat (first | (with_reducible first | exact HB.out | apply below_alloc | apply pw_below_drewN | apply below_drew1) | exact HB.out)⟩
      · rw [if_neg c7] at H
        have c7b0 : decide ((l0.length : Int) ≤ a1) = false := decide_eq_false c7
        clear c7
        replace H := Option.bind_eq_some_iff.mp H
        obtain ⟨t287, A90, H⟩ := H
        replace H : (some t287) = some r := H
        have A9 := Aside0.mk A90
        clear A90
        obtain rfl := Option.some.inj H
        go_enter Try.func20, Try.ntmps20
        go_wp2_with (first | ((with_reducible refine gate_callee (f := 15) rfl ?_); refine goesL_ (some 9) rfl rfl Try.func15 (by kernel_rfl) rfl #[.slice A0 l0.length c0] rfl (by (try simp only [List.map_toArray, List.map_cons, List.map_nil]); first | done | rfl | (simp only [List.length_drop, List.length_take]; rfl)) ?_; (with_reducible refine (weighhouseref06_Match.calls k _ _ l0 t283 t284 _ ?side1 ?side2 A3.out).mono ?_); (case side1 => repeat (first | exact HR0.out | (with_reducible refine Kd.C_alloc ?_ _) | (with_reducible refine Kd.C_drewN ?_ _) | (with_reducible refine Kd.C_drew ?_))); (case side2 => exact HC0.out); rintro e w10 ⟨v285, rfl, ho0, hb⟩; refine ⟨_, rfl, ?_⟩; have n0_ := Aside0.mk (Kd.R_lower ho0 (below_size (by repeat (first | (with_reducible first | exact HB.out | apply below_alloc | apply pw_below_drewN | apply below_drew1) | exact HB.out)))); have n1_ := Aside0.mk (below_step (by repeat (first | (with_reducible first | exact HB.out | apply below_alloc | apply pw_below_drewN | apply below_drew1) | exact HB.out)) hb); clear HB; have HO286 := n0_; have HB := n1_; clear n0_ n1_; (try clear hb); (try clear hb2); (try clear hk); (try clear hi); (try clear ho0); obtain ⟨Ao11, co11, eo11⟩ := Kd.R_slice HO286.out; subst eo11) | ((with_reducible refine gate_callee (f := 24) rfl ?_); refine goesL_ (some 27) rfl rfl Try.func24 (by kernel_rfl) rfl #[.slice A0 l0.length c0, .slice Ao11 t283.length co11, .int .i64 a1] rfl (by (try simp only [List.map_toArray, List.map_cons, List.map_nil]); first | done | rfl | (simp only [List.length_drop, List.length_take]; rfl)) ?_; (with_reducible refine (weighhouseref06_opened.calls k _ _ l0 _ _ t283 a1 t287 _ ?side1 ?side2 ?side3 ?side4 A9.out).mono ?_); (case side1 => repeat (first | exact (Kd.C_below HR0.out HB.out) | (with_reducible refine Kd.C_alloc ?_ _) | (with_reducible refine Kd.C_drewN ?_ _) | (with_reducible refine Kd.C_drew ?_))); (case side2 => exact HC0.out); (case side3 => repeat (first | exact (Kd.R_reads' HO286.out).2.2 | (with_reducible refine Kd.C_alloc ?_ _) | (with_reducible refine Kd.C_drewN ?_ _) | (with_reducible refine Kd.C_drew ?_))); (case side4 => exact (Kd.R_reads' HO286.out).2.1); rintro e w12 ⟨v288, rfl, ho0, hb⟩; refine ⟨_, rfl, ?_⟩; have n0_ := Aside0.mk (Kd.R_elder' (by (with_reducible repeat (first | apply Kd.R_alloc | apply Kd.R_drewN | apply Kd.R_drew)); exact HO286.out) (Kd.R_base ho0) hb); have n1_ := Aside0.mk (Kd.R_lower (Kd.R_new' ho0 (Kd.R_lt (by (with_reducible repeat (first | apply Kd.R_alloc | apply Kd.R_drewN | apply Kd.R_drew)); exact HO286.out))) (below_size (by repeat (first | (with_reducible first | exact HB.out | apply below_alloc | apply pw_below_drewN | apply below_drew1) | exact HB.out)))); have n2_ := Aside0.mk (below_step (by repeat (first | (with_reducible first | exact HB.out | apply below_alloc | apply pw_below_drewN | apply below_drew1) | exact HB.out)) hb); clear HO286; clear HB; have HO286 := n0_; have HO289 := n1_; have HB := n2_; clear n0_ n1_ n2_; (try clear hb); (try clear hb2); (try clear hk); (try clear hi); (try clear ho0)))
        go_ret
        exact ⟨_, by first | rfl | (simp [errW_none, errW_some] <;> rfl) | (simp [*, errW_none, errW_some] <;> rfl), by (with_reducible repeat (first | apply Kd.R_alloc | apply Kd.R_drewN | apply Kd.R_drew)); exact Kd.R_mono HO289.out (fun _ hk => trivial), by repeat (first | (with_reducible first | exact HB.out | apply below_alloc | apply pw_below_drewN | apply below_drew1) | exact HB.out)⟩
  · rw [if_neg c4] at H
    have c4b0 : (t284 == 0) = false := beq_eq_false_iff_ne.mpr c4
    have c4b1 : (t284 != 0) = true := bne_iff_ne.mpr c4
    obtain rfl := Option.some.inj H
    go_enter Try.func20, Try.ntmps20
    go_wp2_with (first | ((with_reducible refine gate_callee (f := 15) rfl ?_); refine goesL_ (some 9) rfl rfl Try.func15 (by kernel_rfl) rfl #[.slice A0 l0.length c0] rfl (by (try simp only [List.map_toArray, List.map_cons, List.map_nil]); first | done | rfl | (simp only [List.length_drop, List.length_take]; rfl)) ?_; (with_reducible refine (weighhouseref06_Match.calls k _ _ l0 t283 t284 _ ?side1 ?side2 A3.out).mono ?_); (case side1 => repeat (first | exact HR0.out | (with_reducible refine Kd.C_alloc ?_ _) | (with_reducible refine Kd.C_drewN ?_ _) | (with_reducible refine Kd.C_drew ?_))); (case side2 => exact HC0.out); rintro e w13 ⟨v285, rfl, ho0, hb⟩; refine ⟨_, rfl, ?_⟩; have n0_ := Aside0.mk (Kd.R_lower ho0 (below_size (by repeat (first | (with_reducible first | exact HB.out | apply below_alloc | apply pw_below_drewN | apply below_drew1) | exact HB.out)))); have n1_ := Aside0.mk (below_step (by repeat (first | (with_reducible first | exact HB.out | apply below_alloc | apply pw_below_drewN | apply below_drew1) | exact HB.out)) hb); clear HB; have HO286 := n0_; have HB := n1_; clear n0_ n1_; (try clear hb); (try clear hb2); (try clear hk); (try clear hi); (try clear ho0)))
    go_ret
    exact ⟨_, by first | rfl | (simp [errW_none, errW_some] <;> rfl) | (simp [*, errW_none, errW_some] <;> rfl), by first | exact Kd.R_nil _ _ _ _ _ | exact Kd.N_nil _ _ _ _ _ | exact Kd.V_nil _ _ _ _ _ | exact Kd.Q_nil _ _ _ _ _ | exact Kd.S_nil _ _ _ _ _, by repeat (first | (with_reducible first | exact HB.out | apply below_alloc | apply pw_below_drewN | apply below_drew1) | exact HB.out)⟩

end Go.Proofs.Ytbdmbkmokhaflaa.Q
end

section
-- written by hprint.py (a program of these sessions) out of the translation; Lean checks it
namespace Go.Proofs.Ytbdmbkmokhaflaa.Q
open Go.RowKit Go.Proofs.YtbdmbkmokhaflaaW.Hb Go.Proofs.YtbdmbkmokhaflaaW.PrintWords Go.Proofs.YtbdmbkmokhaflaaW.PrintLast Go.Proofs.YtbdmbkmokhaflaaW.PrintMore
attribute [local go_sem] max2_int min2_int max_two min_two max_three min_three max_four min_four   -- for this text's walks alone
set_option linter.unusedVariables false
set_option linter.unusedSimpArgs false

/-! ### weighhouselaw06_ShapeArounds: function 7 -/
def weighhouselaw06_ShapeArounds.f (k : Nat) (l0 : List (S31)) (a1 : Int) : Option (Bool) := if (l0.length : Int) > 600 then ((weighhouselaw06_knows.f k).bind fun t290 => (some t290)) else ((weighhouselaw06_Own.f l0).bind fun t291 => ((shape_Around.f t291 a1).bind fun t294 => ((weighhouseref06_Around.f k l0 a1).bind fun t297 => ((weighhouselaw03_Ints.f k t294 t297).bind fun t300 => (if t300 = true then ((weighhouselaw06_knows.f k).bind fun t301 => (some t301)) else (some false))))))
theorem weighhouselaw06_ShapeArounds.mono : ∀ a0 a1 k, LeO (weighhouselaw06_ShapeArounds.f k a0 a1) (weighhouselaw06_ShapeArounds.f (k + 1) a0 a1) := by
  intro a0 a1 k
  unfold weighhouselaw06_ShapeArounds.f
  repeat' first
      | (with_reducible exact weighhouselaw03_Ints.mono _ _ _)
      | (with_reducible exact weighhouselaw06_knows.mono _)
      | (with_reducible exact weighhouseref06_Around.mono _ _ _)
      | (with_reducible exact LeO.refl _)
      | (with_reducible exact LeO.none _)
      | (with_reducible refine LeO.ite ?_ ?_)
      | (with_reducible refine LeO.bind ?_ (fun _ => ?_))
      | exact weighhouselaw03_Ints.mono _ _ _
      | exact weighhouselaw06_knows.mono _
      | exact weighhouseref06_Around.mono _ _ _
      | exact LeO.none _
      | refine LeO.ite ?_ ?_
      | refine LeO.bind ?_ (fun _ => ?_)
set_option maxHeartbeats 8000000 in
set_option maxRecDepth 100000 in
theorem weighhouselaw06_ShapeArounds.calls (k : Nat) (A0 : Option Addr) (c0 : Nat) (l0 : List (S31)) (a1 : Int) (r : Bool) (w : World) (hr0 : Kd.C k31 w A0 l0.length l0) (hc0 : l0.length ≤ c0) (h : weighhouselaw06_ShapeArounds.f k l0 a1 = some r) :
    Calls Try.prog 7 #[.slice A0 l0.length c0, .int .i64 a1] w fun e w' => e = .returned (.bool r) ∧ Below w.heap.size w w' := by
  have HR0 := Aside0.mk hr0
  have HC0 := Aside0.mk hc0
  clear hr0 hc0
  have HB := Aside0.mk (Below.refl w.heap.size w)
  have H : (if (l0.length : Int) > 600 then ((weighhouselaw06_knows.f k).bind fun t290 => (some t290)) else ((weighhouselaw06_Own.f l0).bind fun t291 => ((shape_Around.f t291 a1).bind fun t294 => ((weighhouseref06_Around.f k l0 a1).bind fun t297 => ((weighhouselaw03_Ints.f k t294 t297).bind fun t300 => (if t300 = true then ((weighhouselaw06_knows.f k).bind fun t301 => (some t301)) else (some false))))))) = some r := h
  clear h
  by_cases c3 : (l0.length : Int) > 600
  · rw [if_pos c3] at H
    have c3b0 : decide (600 < (l0.length : Int)) = true := decide_eq_true c3
    have c3b1 : decide (600 < l0.length) = true := decide_eq_true (by omega)
    clear c3
    replace H := Option.bind_eq_some_iff.mp H
    obtain ⟨t290, A40, H⟩ := H
    replace H : (some t290) = some r := H
    have A4 := Aside0.mk A40
    clear A40
    obtain rfl := Option.some.inj H
    go_enter Try.func7, Try.ntmps7
    go_wp2_with (first | ((with_reducible refine gate_callee (f := 9) rfl ?_); refine goesL_ (some 8) rfl rfl Try.func9 (by kernel_rfl) rfl #[] rfl (by (try simp only [List.map_toArray, List.map_cons, List.map_nil]); first | done | rfl | (simp only [List.length_drop, List.length_take]; rfl)) ?_; (with_reducible refine (weighhouselaw06_knows.calls k  t290 _ A4.out).mono ?_); rintro e w5 ⟨rfl, hb⟩; refine ⟨_, rfl, ?_⟩; have n0_ := Aside0.mk (below_step (by repeat (first | (with_reducible first | exact HB.out | apply below_alloc | apply pw_below_drewN | apply below_drew1) | exact HB.out)) hb); clear HB; have HB := n0_; clear n0_; (try clear hb); (try clear hb2); (try clear hk); (try clear hi)))
    go_ret
    exact ⟨by first | rfl | (simp [errW_none, errW_some] <;> rfl) | (simp [*, errW_none, errW_some] <;> rfl), by repeat (first | (with_reducible first | exact HB.out | apply below_alloc | apply pw_below_drewN | apply below_drew1) | exact HB.out)⟩
  · rw [if_neg c3] at H
    have c3b0 : decide (600 < (l0.length : Int)) = false := decide_eq_false c3
    have c3b1 : decide (600 < l0.length) = false := decide_eq_false (by omega)
    clear c3
    replace H := Option.bind_eq_some_iff.mp H
    obtain ⟨t291, A60, H⟩ := H
    replace H : ((shape_Around.f t291 a1).bind fun t294 => ((weighhouseref06_Around.f k l0 a1).bind fun t297 => ((weighhouselaw03_Ints.f k t294 t297).bind fun t300 => (if t300 = true then ((weighhouselaw06_knows.f k).bind fun t301 => (some t301)) else (some false))))) = some r := H
    have A6 := Aside0.mk A60
    clear A60
    replace H := Option.bind_eq_some_iff.mp H
    obtain ⟨t294, A70, H⟩ := H
    replace H : ((weighhouseref06_Around.f k l0 a1).bind fun t297 => ((weighhouselaw03_Ints.f k t294 t297).bind fun t300 => (if t300 = true then ((weighhouselaw06_knows.f k).bind fun t301 => (some t301)) else (some false)))) = some r := H
    have A7 := Aside0.mk A70
    clear A70
    replace H := Option.bind_eq_some_iff.mp H
    obtain ⟨t297, A80, H⟩ := H
    replace H : ((weighhouselaw03_Ints.f k t294 t297).bind fun t300 => (if t300 = true then ((weighhouselaw06_knows.f k).bind fun t301 => (some t301)) else (some false))) = some r := H
    have A8 := Aside0.mk A80
    clear A80
    replace H := Option.bind_eq_some_iff.mp H
    obtain ⟨t300, A90, H⟩ := H
    replace H : (if t300 = true then ((weighhouselaw06_knows.f k).bind fun t301 => (some t301)) else (some false)) = some r := H
    have A9 := Aside0.mk A90
    clear A90
    by_cases c10 : t300 = true
    · subst c10
      have H1 : ((weighhouselaw06_knows.f k).bind fun t301 => (some t301)) = some r := by rw [if_pos rfl] at H; exact H
      clear H
      have H := H1
      clear H1
      replace H := Option.bind_eq_some_iff.mp H
      obtain ⟨t301, A110, H⟩ := H
      replace H : (some t301) = some r := H
      have A11 := Aside0.mk A110
      clear A110
      obtain rfl := Option.some.inj H
      go_enter Try.func7, Try.ntmps7
      go_wp2_with (first | ((with_reducible refine gate_callee (f := 11) rfl ?_); refine goesL_ (some 10) rfl rfl Try.func11 (by kernel_rfl) rfl #[.slice A0 l0.length c0] rfl (by (try simp only [List.map_toArray, List.map_cons, List.map_nil]); first | done | rfl | (simp only [List.length_drop, List.length_take]; rfl)) ?_; (with_reducible refine (weighhouselaw06_Own.calls _ _ l0 t291 _ ?side1 ?side2 A6.out).mono ?_); (case side1 => repeat (first | exact HR0.out | (with_reducible refine Kd.C_alloc ?_ _) | (with_reducible refine Kd.C_drewN ?_ _) | (with_reducible refine Kd.C_drew ?_))); (case side2 => exact HC0.out); rintro e w12 ⟨v292, rfl, ho0, hb⟩; refine ⟨_, rfl, ?_⟩; have n0_ := Aside0.mk (Kd.R_lower ho0 (below_size (by repeat (first | (with_reducible first | exact HB.out | apply below_alloc | apply pw_below_drewN | apply below_drew1) | exact HB.out)))); have n1_ := Aside0.mk (below_step (by repeat (first | (with_reducible first | exact HB.out | apply below_alloc | apply pw_below_drewN | apply below_drew1) | exact HB.out)) hb); clear HB; have HO293 := n0_; have HB := n1_; clear n0_ n1_; (try clear hb); (try clear hb2); (try clear hk); (try clear hi); (try clear ho0); obtain ⟨Ao13, co13, eo13⟩ := Kd.R_slice HO293.out; subst eo13) | ((with_reducible refine gate_callee (f := 19) rfl ?_); refine goesL_ (some 12) rfl rfl Try.func19 (by kernel_rfl) rfl #[.slice Ao13 t291.length co13, .int .i64 a1] rfl (by (try simp only [List.map_toArray, List.map_cons, List.map_nil]); first | done | rfl | (simp only [List.length_drop, List.length_take]; rfl)) ?_; (with_reducible refine (shape_Around.calls _ _ t291 a1 t294 _ ?side1 ?side2 A7.out).mono ?_); (case side1 => repeat (first | exact (Kd.R_reads' HO293.out).2.2 | (with_reducible refine Kd.C_alloc ?_ _) | (with_reducible refine Kd.C_drewN ?_ _) | (with_reducible refine Kd.C_drew ?_))); (case side2 => exact (Kd.R_reads' HO293.out).2.1); rintro e w14 ⟨v295, rfl, ho0, hb⟩; refine ⟨_, rfl, ?_⟩; have n0_ := Aside0.mk (Kd.R_below (by (with_reducible repeat (first | apply Kd.R_alloc | apply Kd.R_drewN | apply Kd.R_drew)); exact HO293.out) hb); have n1_ := Aside0.mk (Kd.R_lower ho0 (below_size (by repeat (first | (with_reducible first | exact HB.out | apply below_alloc | apply pw_below_drewN | apply below_drew1) | exact HB.out)))); have n2_ := Aside0.mk (below_step (by repeat (first | (with_reducible first | exact HB.out | apply below_alloc | apply pw_below_drewN | apply below_drew1) | exact HB.out)) hb); clear HO293; clear HB; have HO293 := n0_; have HO296 := n1_; have HB := n2_; clear n0_ n1_ n2_; (try clear hb); (try clear hb2); (try clear hk); (try clear hi); (try clear ho0)) | ((with_reducible refine gate_callee (f := 20) rfl ?_); refine goesL_ (some 15) rfl rfl Try.func20 (by kernel_rfl) rfl #[.slice A0 l0.length c0, .int .i64 a1] rfl (by (try simp only [List.map_toArray, List.map_cons, List.map_nil]); first | done | rfl | (simp only [List.length_drop, List.length_take]; rfl)) ?_; (with_reducible refine (weighhouseref06_Around.calls k _ _ l0 a1 t297 _ ?side1 ?side2 A8.out).mono ?_); (case side1 => repeat (first | exact (Kd.C_below HR0.out HB.out) | (with_reducible refine Kd.C_alloc ?_ _) | (with_reducible refine Kd.C_drewN ?_ _) | (with_reducible refine Kd.C_drew ?_))); (case side2 => exact HC0.out); rintro e w15 ⟨v298, rfl, ho0, hb⟩; refine ⟨_, rfl, ?_⟩; have n0_ := Aside0.mk (Kd.R_below (by (with_reducible repeat (first | apply Kd.R_alloc | apply Kd.R_drewN | apply Kd.R_drew)); exact HO293.out) hb); have n1_ := Aside0.mk (Kd.R_elder' (by (with_reducible repeat (first | apply Kd.R_alloc | apply Kd.R_drewN | apply Kd.R_drew)); exact HO296.out) (Kd.R_base ho0) hb); have n2_ := Aside0.mk (Kd.R_lower (Kd.R_new' ho0 (Kd.R_lt (by (with_reducible repeat (first | apply Kd.R_alloc | apply Kd.R_drewN | apply Kd.R_drew)); exact HO296.out))) (below_size (by repeat (first | (with_reducible first | exact HB.out | apply below_alloc | apply pw_below_drewN | apply below_drew1) | exact HB.out)))); have n3_ := Aside0.mk (below_step (by repeat (first | (with_reducible first | exact HB.out | apply below_alloc | apply pw_below_drewN | apply below_drew1) | exact HB.out)) hb); clear HO293; clear HO296; clear HB; have HO293 := n0_; have HO296 := n1_; have HO299 := n2_; have HB := n3_; clear n0_ n1_ n2_ n3_; (try clear hb); (try clear hb2); (try clear hk); (try clear hi); (try clear ho0); obtain ⟨Ao16, co16, eo16⟩ := Kd.R_slice HO296.out; subst eo16; obtain ⟨Ao17, co17, eo17⟩ := Kd.R_slice HO299.out; subst eo17) | ((with_reducible refine gate_callee (f := 18) rfl ?_); refine goesL_ (some 16) rfl rfl Try.func18 (by kernel_rfl) rfl #[.slice Ao16 t294.length co16, .slice Ao17 t297.length co17] rfl (by (try simp only [List.map_toArray, List.map_cons, List.map_nil]); first | done | rfl | (simp only [List.length_drop, List.length_take]; rfl)) ?_; (with_reducible refine (weighhouselaw03_Ints.calls k _ _ t294 _ _ t297 true _ ?side1 ?side2 ?side3 ?side4 A9.out).mono ?_); (case side1 => repeat (first | exact (Kd.R_reads' HO296.out).2.2 | (with_reducible refine Kd.C_alloc ?_ _) | (with_reducible refine Kd.C_drewN ?_ _) | (with_reducible refine Kd.C_drew ?_))); (case side2 => exact (Kd.R_reads' HO296.out).2.1); (case side3 => repeat (first | exact (Kd.R_reads' HO299.out).2.2 | (with_reducible refine Kd.C_alloc ?_ _) | (with_reducible refine Kd.C_drewN ?_ _) | (with_reducible refine Kd.C_drew ?_))); (case side4 => exact (Kd.R_reads' HO299.out).2.1); rintro e w' ⟨rfl, ⟨nd, rfl⟩⟩; refine ⟨_, rfl, ?_⟩) | (go_at_call 9; (with_reducible refine (weighhouselaw06_knows.calls k  t301 _ A11.out).mono ?_); rintro e w18 ⟨rfl, hb⟩; have n0_ := Aside0.mk (Kd.R_below (by (with_reducible repeat (first | apply Kd.R_alloc | apply Kd.R_drewN | apply Kd.R_drew)); exact HO293.out) hb); have n1_ := Aside0.mk (Kd.R_below (by (with_reducible repeat (first | apply Kd.R_alloc | apply Kd.R_drewN | apply Kd.R_drew)); exact HO296.out) hb); have n2_ := Aside0.mk (Kd.R_below (by (with_reducible repeat (first | apply Kd.R_alloc | apply Kd.R_drewN | apply Kd.R_drew)); exact HO299.out) hb); have n3_ := Aside0.mk (below_step (by repeat (first | (with_reducible first | exact HB.out | apply below_alloc | apply pw_below_drewN | apply below_drew1) | exact HB.out)) hb); clear HO293; clear HO296; clear HO299; clear HB; have HO293 := n0_; have HO296 := n1_; have HO299 := n2_; have HB := n3_; clear n0_ n1_ n2_ n3_; (try clear hb); (try clear hb2); (try clear hk); (try clear hi)))
      go_ret
      exact ⟨by first | rfl | (simp [errW_none, errW_some] <;> rfl) | (simp [*, errW_none, errW_some] <;> rfl), by repeat (first | (with_reducible first | exact HB.out | apply below_alloc | apply pw_below_drewN | apply below_drew1) | exact HB.out)⟩
    · replace c10 := Bool.eq_false_iff.mpr c10
      subst c10
      have H1 : (some false) = some r := by rw [if_neg (show ¬ (false = true) by decide)] at H; exact H
      clear H
      have H := H1
      clear H1
      obtain rfl := Option.some.inj H
      go_enter Try.func7, Try.ntmps7
      go_wp2_with (first | ((with_reducible refine gate_callee (f := 11) rfl ?_); refine goesL_ (some 10) rfl rfl Try.func11 (by kernel_rfl) rfl #[.slice A0 l0.length c0] rfl (by (try simp only [List.map_toArray, List.map_cons, List.map_nil]); first | done | rfl | (simp only [List.length_drop, List.length_take]; rfl)) ?_; (with_reducible refine (weighhouselaw06_Own.calls _ _ l0 t291 _ ?side1 ?side2 A6.out).mono ?_); (case side1 => repeat (first | exact HR0.out | (with_reducible refine Kd.C_alloc ?_ _) | (with_reducible refine Kd.C_drewN ?_ _) | (with_reducible refine Kd.C_drew ?_))); (case side2 => exact HC0.out); rintro e w19 ⟨v292, rfl, ho0, hb⟩; refine ⟨_, rfl, ?_⟩; have n0_ := Aside0.mk (Kd.R_lower ho0 (below_size (by repeat (first | (with_reducible first | exact HB.out | apply below_alloc | apply pw_below_drewN | apply below_drew1) | exact HB.out)))); have n1_ := Aside0.mk (below_step (by repeat (first | (with_reducible first | exact HB.out | apply below_alloc | apply pw_below_drewN | apply below_drew1) | exact HB.out)) hb); clear HB; have HO293 := n0_; have HB := n1_; clear n0_ n1_; (try clear hb); (try clear hb2); (try clear hk); (try clear hi); (try clear ho0); obtain ⟨Ao20, co20, eo20⟩ := Kd.R_slice HO293.out; subst eo20) | ((with_reducible refine gate_callee (f := 19) rfl ?_); refine goesL_ (some 12) rfl rfl Try.func19 (by kernel_rfl) rfl #[.slice Ao20 t291.length co20, .int .i64 a1] rfl (by (try simp only [List.map_toArray, List.map_cons, List.map_nil]); first | done | rfl | (simp only [List.length_drop, List.length_take]; rfl)) ?_; (with_reducible refine (shape_Around.calls _ _ t291 a1 t294 _ ?side1 ?side2 A7.out).mono ?_); (case side1 => repeat (first | exact (Kd.R_reads' HO293.out).2.2 | (with_reducible refine Kd.C_alloc ?_ _) | (with_reducible refine Kd.C_drewN ?_ _) | (with_reducible refine Kd.C_drew ?_))); (case side2 => exact (Kd.R_reads' HO293.out).2.1); rintro e w21 ⟨v295, rfl, ho0, hb⟩; refine ⟨_, rfl, ?_⟩; have n0_ := Aside0.mk (Kd.R_below (by (with_reducible repeat (first | apply Kd.R_alloc | apply Kd.R_drewN | apply Kd.R_drew)); exact HO293.out) hb); have n1_ := Aside0.mk (Kd.R_lower ho0 (below_size (by repeat (first | (with_reducible first | exact HB.out | apply below_alloc | apply pw_below_drewN | apply below_drew1) | exact HB.out)))); have n2_ := Aside0.mk (below_step (by repeat (first | (with_reducible first | exact HB.out | apply below_alloc | apply pw_below_drewN | apply below_drew1) | exact HB.out)) hb); clear HO293; clear HB; have HO293 := n0_; have HO296 := n1_; have HB := n2_; clear n0_ n1_ n2_; (try clear hb); (try clear hb2); (try clear hk); (try clear hi); (try clear ho0)) | ((with_reducible refine gate_callee (f := 20) rfl ?_); refine goesL_ (some 15) rfl rfl Try.func20 (by kernel_rfl) rfl #[.slice A0 l0.length c0, .int .i64 a1] rfl (by (try simp only [List.map_toArray, List.map_cons, List.map_nil]); first | done | rfl | (simp only [List.length_drop, List.length_take]; rfl)) ?_; (with_reducible refine (weighhouseref06_Around.calls k _ _ l0 a1 t297 _ ?side1 ?side2 A8.out).mono ?_); (case side1 => repeat (first | exact (Kd.C_below HR0.out HB.out) | (with_reducible refine Kd.C_alloc ?_ _) | (with_reducible refine Kd.C_drewN ?_ _) | (with_reducible refine Kd.C_drew ?_))); (case side2 => exact HC0.out); rintro e w22 ⟨v298, rfl, ho0, hb⟩; refine ⟨_, rfl, ?_⟩; have n0_ := Aside0.mk (Kd.R_below (by (with_reducible repeat (first | apply Kd.R_alloc | apply Kd.R_drewN | apply Kd.R_drew)); exact HO293.out) hb); have n1_ := Aside0.mk (Kd.R_elder' (by (with_reducible repeat (first | apply Kd.R_alloc | apply Kd.R_drewN | apply Kd.R_drew)); exact HO296.out) (Kd.R_base ho0) hb); have n2_ := Aside0.mk (Kd.R_lower (Kd.R_new' ho0 (Kd.R_lt (by (with_reducible repeat (first | apply Kd.R_alloc | apply Kd.R_drewN | apply Kd.R_drew)); exact HO296.out))) (below_size (by repeat (first | (with_reducible first | exact HB.out | apply below_alloc | apply pw_below_drewN | apply below_drew1) | exact HB.out)))); have n3_ := Aside0.mk (below_step (by repeat (first | (with_reducible first | exact HB.out | apply below_alloc | apply pw_below_drewN | apply below_drew1) | exact HB.out)) hb); clear HO293; clear HO296; clear HB; have HO293 := n0_; have HO296 := n1_; have HO299 := n2_; have HB := n3_; clear n0_ n1_ n2_ n3_; (try clear hb); (try clear hb2); (try clear hk); (try clear hi); (try clear ho0); obtain ⟨Ao23, co23, eo23⟩ := Kd.R_slice HO296.out; subst eo23; obtain ⟨Ao24, co24, eo24⟩ := Kd.R_slice HO299.out; subst eo24) | ((with_reducible refine gate_callee (f := 18) rfl ?_); refine goesL_ (some 16) rfl rfl Try.func18 (by kernel_rfl) rfl #[.slice Ao23 t294.length co23, .slice Ao24 t297.length co24] rfl (by (try simp only [List.map_toArray, List.map_cons, List.map_nil]); first | done | rfl | (simp only [List.length_drop, List.length_take]; rfl)) ?_; (with_reducible refine (weighhouselaw03_Ints.calls k _ _ t294 _ _ t297 false _ ?side1 ?side2 ?side3 ?side4 A9.out).mono ?_); (case side1 => repeat (first | exact (Kd.R_reads' HO296.out).2.2 | (with_reducible refine Kd.C_alloc ?_ _) | (with_reducible refine Kd.C_drewN ?_ _) | (with_reducible refine Kd.C_drew ?_))); (case side2 => exact (Kd.R_reads' HO296.out).2.1); (case side3 => repeat (first | exact (Kd.R_reads' HO299.out).2.2 | (with_reducible refine Kd.C_alloc ?_ _) | (with_reducible refine Kd.C_drewN ?_ _) | (with_reducible refine Kd.C_drew ?_))); (case side4 => exact (Kd.R_reads' HO299.out).2.1); rintro e w' ⟨rfl, ⟨nd, rfl⟩⟩; refine ⟨_, rfl, ?_⟩))
      go_ret
      exact ⟨by first | rfl | (simp [errW_none, errW_some] <;> rfl) | (simp [*, errW_none, errW_some] <;> rfl), by repeat (first | (with_reducible first | exact HB.out | apply below_alloc | apply pw_below_drewN | apply below_drew1) | exact HB.out)⟩

end Go.Proofs.Ytbdmbkmokhaflaa.Q
end

section
/- what the readings of the parameters of ShapeArounds give -/
set_option linter.unusedVariables false
set_option linter.unusedSimpArgs false
namespace Go.Proofs.Ytbdmbkmokhaflaa.OpShapeArounds
open Go.RowKit Go.Proofs.YtbdmbkmokhaflaaW.PrintWords Go.Proofs.YtbdmbkmokhaflaaW.Hb Go.Proofs.YtbdmbkmokhaflaaW.Ho Go.Proofs.Ytbdmbkmokhaflaa.Q

theorem opens_slice' {P : Program} {t : TypeId} {α : Type} {d : Kd α} {e B : Nat} {Q : α → Prop} (ht : P.underlying t = some (.slice e)) (hs : P.cellsOf e = d.sz) (hB : P.bytesOf e = B) (hp : Opens P d e Q) :
    Opens P (Kd.slice e d) t (fun xs => xs.length * B ≤ reachBytes ∧ xs.length ≤ maxLen ∧ ∀ x ∈ xs, Q x) := by
  subst hB
  exact opens_slice ht hs hp
def QS31 (x : S31) : Prop := ((Lit.int .i64 (x.f0)).wf = true) ∧ ((Lit.int .i64 (x.f1)).wf = true)
theorem open_S31 : Opens Try.prog k31 31 QS31 := by
  intro H enc w base spare held fuel cs x h hw
  obtain ⟨xs, n, _, hx, hl, hxl, hf⟩ := DataW.trod_struct Try.underlying31 h
  rw [show Try.prog.cellsOf 31 = 2 from by kernel_rfl] at hl
  obtain ⟨c0, c1, rfl⟩ : ∃ c0 c1, cs = [c0, c1] := by
    clear hf hx h
    match cs, hl with
    | [c0, c1], _ => exact ⟨c0, c1, rfl⟩
  obtain ⟨y0, y1, rfl⟩ : ∃ y0 y1, xs = [y0, y1] := by
    have hxl2 : xs.length = 2 := hxl
    clear hxl hf hx
    match xs, hxl2 with
    | [y0, y1], _ => exact ⟨y0, y1, rfl⟩
  subst hx
  have g0 : DataW.trod enc Try.prog w base spare held n 3 (([c0, c1].drop 0).take (Try.prog.cellsOf 3)) = some y0 := hf 0 _ rfl
  rw [show Try.prog.cellsOf 3 = 1 from by kernel_rfl] at g0
  replace g0 : DataW.trod enc Try.prog w base spare held n 3 [c0] = some y0 := g0
  obtain ⟨v0, K0, q0⟩ := (opens_int Try.underlying3) enc w base spare held n _ _ g0 (fun m hm => hw m (weights_field (j := 0) (tj := 3) Try.underlying31 rfl rfl m hm))
  have g1 : DataW.trod enc Try.prog w base spare held n 3 (([c0, c1].drop 1).take (Try.prog.cellsOf 3)) = some y1 := hf 1 _ rfl
  rw [show Try.prog.cellsOf 3 = 1 from by kernel_rfl] at g1
  replace g1 : DataW.trod enc Try.prog w base spare held n 3 [c1] = some y1 := g1
  obtain ⟨v1, K1, q1⟩ := (opens_int Try.underlying3) enc w base spare held n _ _ g1 (fun m hm => hw m (weights_field (j := 1) (tj := 3) Try.underlying31 rfl rfl m hm))
  exact ⟨⟨v0, v1⟩, ⟨[c0], [c1], rfl, K0, K1⟩, ⟨q0, q1⟩⟩
end Go.Proofs.Ytbdmbkmokhaflaa.OpShapeArounds
end

section
/- the pure statement of ShapeArounds -/
namespace Go.Proofs.Ytbdmbkmokhaflaa.PuShapeArounds
open Go.RowKit Go.Proofs.YtbdmbkmokhaflaaW.PrintWords Go.Proofs.YtbdmbkmokhaflaaW.Hb Go.Proofs.YtbdmbkmokhaflaaW.Ho Go.Proofs.Ytbdmbkmokhaflaa.Q Go.Proofs.Ytbdmbkmokhaflaa.OpShapeArounds
def Pure : Prop := ∀ (x0 : List (S31)) (x1 : Int), ((x0).length * 16 ≤ reachBytes ∧ (x0).length ≤ maxLen ∧ ∀ y ∈ (x0), QS31 (y)) → (Lit.int .i64 (x1)).wf = true → ∃ k, weighhouselaw06_ShapeArounds.f k x0 x1 = some true
end Go.Proofs.Ytbdmbkmokhaflaa.PuShapeArounds
end

section
/- layer 6, plain: what closes a block, read from its opener on; the scan with a stack -/
set_option linter.unusedVariables false
set_option linter.unusedSimpArgs false
namespace Go.Shape6

/-- Looking for the end of the block that a opens: running (how deep, its else), or over (its else, its end). -/
inductive CS where
  | run (d : Nat) (x : Int)
  | fin (x e : Int)
  deriving DecidableEq
def isOp (v : Int) : Bool := decide (v = 48) || decide (v = 51)
def clS (o : Nat → Int) (a i : Nat) : CS → CS
  | .fin x e => .fin x e
  | .run d x =>
    if isOp (o i) then .run (d + 1) x
    else if o i = 49 then (if d = 0 then (if 0 ≤ x ∨ o a ≠ 48 then .fin (-1) (-1) else .run 0 i) else .run d x)
    else if o i = 50 then (if d = 0 then .fin x i else .run (d - 1) x)
    else .run d x
/-- Ahead of instruction i. -/
def cl (o : Nat → Int) (a : Nat) : Nat → CS
  | 0 => .run 0 (-1)
  | i + 1 => if i ≤ a then .run 0 (-1) else clS o a i (cl o a i)
theorem cl_start (o : Nat → Int) (a : Nat) : cl o a (a + 1) = .run 0 (-1) := by simp [cl]
theorem cl_succ (o : Nat → Int) (a i : Nat) (h : a < i) : cl o a (i + 1) = clS o a i (cl o a i) := by
  rw [cl, if_neg (by omega)]
theorem cl_fin_mono {o : Nat → Int} {a i j : Nat} {x e : Int} (h : cl o a i = .fin x e) (ha : a < i) (hij : i ≤ j) : cl o a j = .fin x e := by
  induction j with
  | zero => omega
  | succ j ih =>
    rcases Nat.lt_or_ge i (j + 1) with hlt | hge
    · rw [cl_succ o a j (by omega), ih (by omega)]
      rfl
    · obtain rfl : i = j + 1 := by omega
      exact h
/-- What holds while it runs, and when it is over. -/
def clOk (o : Nat → Int) (a i : Nat) : CS → Prop
  | .run d x => x = -1 ∨ ((a : Int) < x ∧ x < i ∧ o x.toNat = 49 ∧ o a = 48)
  | .fin x e => (x = -1 ∧ e = -1) ∨ ((a : Int) < e ∧ e < i ∧ o e.toNat = 50 ∧ (x = -1 ∨ ((a : Int) < x ∧ x < e ∧ o x.toNat = 49 ∧ o a = 48)))
theorem cl_ok (o : Nat → Int) (a i : Nat) (h : a < i) : clOk o a i (cl o a i) := by
  induction i with
  | zero => omega
  | succ i ih =>
    by_cases hai : a < i
    · rw [cl_succ o a i hai]
      have h := ih hai
      cases hc : cl o a i with
      | fin x e =>
        rw [hc] at h
        simp only [clS, clOk] at h ⊢
        rcases h with h | ⟨h1, h2, h3, h4⟩
        · exact .inl h
        · exact .inr ⟨h1, by omega, h3, h4⟩
      | run d x =>
        rw [hc] at h
        simp only [clOk] at h
        have hx : x = -1 ∨ ((a : Int) < x ∧ x < (i + 1 : Nat) ∧ o x.toNat = 49 ∧ o a = 48) := by
          rcases h with h | ⟨h1, h2, h3⟩
          · exact .inl h
          · exact .inr ⟨h1, by omega, h3⟩
        unfold clS
        dsimp only
        split
        · exact hx
        · split
          · split
            · split
              · exact .inl ⟨rfl, rfl⟩
              · rename_i h49 _ hn
                refine .inr ⟨by omega, by omega, by simpa using h49, ?_⟩
                have : ¬ o a ≠ 48 := fun hh => hn (.inr hh)
                omega
            · exact hx
          · split
            · split
              · rename_i h50 _
                refine .inr ⟨by omega, by omega, by simpa using h50, ?_⟩
                rcases h with h | ⟨h1, h2, h3⟩
                · exact .inl h
                · exact .inr ⟨h1, h2, h3⟩
              · exact hx
            · exact hx
    · obtain rfl : i = a := by omega
      rw [cl_start]
      exact .inl rfl
/-- Of two that run, the inner one runs less deep. -/
theorem cl_nest {o : Nat → Int} {a b i : Nat} {d d' : Nat} {x x' : Int} (hab : a < b) (hbi : b < i) (hb : isOp (o b) = true)
    (h : cl o a i = .run d x) (h' : cl o b i = .run d' x') : d' < d := by
  induction i generalizing d d' x x' with
  | zero => omega
  | succ i ih =>
    rw [cl_succ o a i (by omega)] at h
    by_cases hbi' : b < i
    · rw [cl_succ o b i hbi'] at h'
      cases hc : cl o a i with
      | fin _ _ => rw [hc] at h; cases h
      | run e y =>
        cases hc' : cl o b i with
        | fin _ _ => rw [hc'] at h'; cases h'
        | run e' y' =>
          have hi := ih hbi' hc hc'
          rw [hc] at h
          rw [hc'] at h'
          unfold clS at h h'
          dsimp only at h h'
          split at h
          · rename_i ho
            rw [if_pos ho] at h'
            cases h; cases h'
            omega
          · rename_i ho
            rw [if_neg ho] at h'
            split at h
            · rename_i h9
              rw [if_pos h9] at h'
              rw [if_neg (by omega)] at h
              cases h
              split at h'
              · split at h'
                · cases h'
                · cases h'
                  omega
              · cases h'
                omega
            · rename_i h9
              rw [if_neg h9] at h'
              split at h
              · rename_i h0
                rw [if_pos h0] at h'
                rw [if_neg (by omega)] at h
                cases h
                split at h'
                · cases h'
                · cases h'
                  omega
              · rename_i h0
                rw [if_neg h0] at h'
                cases h; cases h'
                omega
    · obtain rfl : b = i := by omega
      rw [cl_start] at h'
      cases h'
      cases hc : cl o a b with
      | fin _ _ => rw [hc] at h; cases h
      | run e y =>
        rw [hc] at h
        unfold clS at h
        dsimp only at h
        rw [if_pos hb] at h
        cases h
        omega
/-- An outer block is not over while an inner one runs: if a is over (with a true end) ahead of i and b > a runs at i, then b was opened behind a's end. -/
theorem cl_over {o : Nat → Int} {a b i : Nat} {d' : Nat} {x e x' : Int} (hab : a < b) (hbi : b < i) (hb : isOp (o b) = true)
    (h : cl o a i = .fin x e) (h' : cl o b i = .run d' x') : cl o a (b + 1) = .fin x e := by
  induction i generalizing d' x' with
  | zero => omega
  | succ i ih =>
    by_cases hbi' : b < i
    · rw [cl_succ o b i hbi'] at h'
      cases hc' : cl o b i with
      | fin _ _ => rw [hc'] at h'; cases h'
      | run e' y' =>
        rw [cl_succ o a i (by omega)] at h
        cases hc : cl o a i with
        | fin _ _ =>
          rw [hc] at h
          cases h
          exact ih hbi' hc hc'
        | run d y =>
          have hn := cl_nest hab hbi' hb hc hc'
          rw [hc] at h
          unfold clS at h
          dsimp only at h
          split at h
          · cases h
          · split at h
            · rw [if_neg (by omega)] at h
              cases h
            · split at h
              · rw [if_neg (by omega)] at h
                cases h
              · cases h
    · obtain rfl : b = i := by omega
      exact h
end Go.Shape6
end

section
/- layer 6: what the stack of the scan says of the closing of blocks -/
set_option linter.unusedVariables false
set_option linter.unusedSimpArgs false
namespace Go.Proofs.Ytbdmbkmokhaflaa.Th
open Go.Shape6 Go.Proofs.Ytbdmbkmokhaflaa.Q

structure L1 (o : Nat → Int) (i : Nat) (g : List (Nat × Int)) : Prop where
  fr : ∀ (j a : Nat) (x : Int), g[j]? = some (a, x) → a < i ∧ isOp (o a) = true ∧ cl o a i = .run (g.length - 1 - j) x
  up : ∀ (j j' a : Nat) (x : Int) (a' : Nat) (x' : Int), j < j' → g[j]? = some (a, x) → g[j']? = some (a', x') → a < a'
  cl_ : ∀ a, a < i → isOp (o a) = true → (∀ (j : Nat) (x : Int), g[j]? ≠ some (a, x)) → ∃ x e, cl o a i = .fin x e ∧ 0 ≤ e
  el : ∀ k : Nat, k < i → o k = 49 → ∃ a, a < k ∧ isOp (o a) = true ∧ ((∃ d, cl o a i = .run d k) ∨ ∃ e, cl o a i = .fin k e ∧ 0 ≤ e)
  en : ∀ k : Nat, k < i → o k = 50 → ∃ a, a < k ∧ isOp (o a) = true ∧ ∃ x, cl o a i = .fin x k
theorem isOp_iff {v : Int} : isOp v = true ↔ v = 48 ∨ v = 51 := by simp [isOp]
theorem isOp_not {v : Int} (h : ¬ (v = 48 ∨ v = 51)) : isOp v = false := by
  cases he : isOp v
  · rfl
  · exact absurd (isOp_iff.1 he) h
variable {o : Nat → Int} {i : Nat} {g : List (Nat × Int)}
theorem lt_of_get {α : Type} {l : List α} {j : Nat} {v : α} (h : l[j]? = some v) : j < l.length := by
  rcases Nat.lt_or_ge j l.length with hl | hl
  · exact hl
  · rw [List.getElem?_eq_none hl] at h
    cases h
/-- An opener that runs is on the stack. -/
theorem L1.run_ (h : L1 o i g) {a d : Nat} {x : Int} (ha : a < i) (ho : isOp (o a) = true) (hc : cl o a i = .run d x) : ∃ j, g[j]? = some (a, x) ∧ d = g.length - 1 - j := by
  by_cases hn : ∃ (j : Nat) (y : Int), g[j]? = some (a, y)
  · obtain ⟨j, y, hj⟩ := hn
    have h1 := (h.fr j a y hj).2.2
    rw [hc] at h1
    injection h1 with h2 h3
    exact ⟨j, by rw [hj, h3], h2⟩
  · obtain ⟨y, e, h1, _⟩ := h.cl_ a ha ho (fun j y hj => hn ⟨j, y, hj⟩)
    rw [hc] at h1
    cases h1
theorem L1.fin_ {a : Nat} {x e : Int} (ha : a < i) (hc : cl o a i = .fin x e) : cl o a (i + 1) = .fin x e := cl_fin_mono hc ha (Nat.le_succ i)
theorem L1.start (o : Nat → Int) : L1 o 0 [] := ⟨fun j a x h => by simp at h, fun j j' a x a' x' _ h => by simp at h, fun a h => absurd h (Nat.not_lt_zero a), fun k h => absurd h (Nat.not_lt_zero k), fun k h => absurd h (Nat.not_lt_zero k)⟩
theorem L1.push (h : L1 o i g) (ho : isOp (o i) = true) : L1 o (i + 1) (g ++ [(i, -1)]) := by
  have hs : ∀ {a d : Nat} {x : Int}, a < i → cl o a i = .run d x → cl o a (i + 1) = .run (d + 1) x := by
    intro a d x ha hc
    rw [cl_succ o a i ha, hc]
    unfold clS
    dsimp only
    rw [if_pos ho]
  have hb := isOp_iff.1 ho
  refine ⟨fun j a x hj => ?_, fun j j' a x a' x' hjj hj hj' => ?_, fun a ha hoa hn => ?_, fun k hk hk9 => ?_, fun k hk hk0 => ?_⟩
  · rw [List.getElem?_append] at hj
    split at hj
    · rename_i hl
      obtain ⟨h1, h2, h3⟩ := h.fr j a x hj
      refine ⟨by omega, h2, ?_⟩
      rw [hs h1 h3]
      congr 1
      simp
      omega
    · rename_i hl
      have h0 := lt_of_get hj
      simp at h0
      have e0 : j - g.length = 0 := by omega
      rw [e0] at hj
      simp at hj
      obtain ⟨rfl, rfl⟩ := hj
      refine ⟨by omega, ho, ?_⟩
      rw [cl_start]
      congr 1
      simp
      omega
  · rw [List.getElem?_append] at hj hj'
    split at hj'
    · rename_i hl
      rw [if_pos (by omega)] at hj
      exact h.up j j' a x a' x' hjj hj hj'
    · rename_i hl
      have h0 := lt_of_get hj'
      simp at h0
      rw [if_pos (by omega)] at hj
      have e0 : j' - g.length = 0 := by omega
      rw [e0] at hj'
      simp at hj'
      obtain ⟨rfl, rfl⟩ := hj'
      exact (h.fr j a x hj).1
  · by_cases hai : a = i
    · subst hai
      exact absurd (by simp) (hn g.length (-1))
    · obtain ⟨x, e, h1, h2⟩ := h.cl_ a (by omega) hoa (fun j x hj => hn j x (by rw [List.getElem?_append_left (lt_of_get hj)]; exact hj))
      exact ⟨x, e, L1.fin_ (by omega) h1, h2⟩
  · by_cases hki : k = i
    · subst hki
      omega
    · obtain ⟨a, h1, h2, h3⟩ := h.el k (by omega) hk9
      refine ⟨a, h1, h2, ?_⟩
      rcases h3 with ⟨d, h3⟩ | ⟨e, h3, h4⟩
      · exact .inl ⟨_, hs (by omega) h3⟩
      · exact .inr ⟨e, L1.fin_ (by omega) h3, h4⟩
  · by_cases hki : k = i
    · subst hki
      omega
    · obtain ⟨a, h1, h2, x, h3⟩ := h.en k (by omega) hk0
      exact ⟨a, h1, h2, x, L1.fin_ (by omega) h3⟩
theorem L1.skip (h : L1 o i g) (h1 : isOp (o i) = false) (h2 : o i ≠ 49) (h3 : o i ≠ 50) : L1 o (i + 1) g := by
  have hs : ∀ {a : Nat} {c : CS}, a < i → cl o a i = c → cl o a (i + 1) = c := by
    intro a c ha hc
    rw [cl_succ o a i ha, hc]
    unfold clS
    cases c
    · dsimp only
      rw [h1, if_neg (by decide), if_neg h2, if_neg h3]
    · rfl
  refine ⟨fun j a x hj => ?_, h.up, fun a ha hoa hn => ?_, fun k hk hk9 => ?_, fun k hk hk0 => ?_⟩
  · obtain ⟨a1, a2, a3⟩ := h.fr j a x hj
    exact ⟨by omega, a2, hs a1 a3⟩
  · by_cases hai : a = i
    · subst hai
      rw [h1] at hoa
      cases hoa
    · obtain ⟨x, e, b1, b2⟩ := h.cl_ a (by omega) hoa hn
      exact ⟨x, e, hs (by omega) b1, b2⟩
  · by_cases hki : k = i
    · subst hki
      exact absurd hk9 h2
    · obtain ⟨a, b1, b2, b3⟩ := h.el k (by omega) hk9
      refine ⟨a, b1, b2, ?_⟩
      rcases b3 with ⟨d, b3⟩ | ⟨e, b3, b4⟩
      · exact .inl ⟨_, hs (by omega) b3⟩
      · exact .inr ⟨e, hs (by omega) b3, b4⟩
  · by_cases hki : k = i
    · subst hki
      exact absurd hk0 h3
    · obtain ⟨a, b1, b2, x, b3⟩ := h.en k (by omega) hk0
      exact ⟨a, b1, b2, x, hs (by omega) b3⟩
theorem L1.else_ (h : L1 o i g) (h9 : o i = 49) {k0 a0 : Nat} {x0 : Int} (hk : g.length = k0 + 1) (hg : g[k0]? = some (a0, x0)) (hx : ¬ 0 ≤ x0) (ho : o a0 = 48) : L1 o (i + 1) (g.set k0 (a0, (i : Int))) := by
  have hni : isOp (o i) = false := isOp_not (by omega)
  have hdeep : ∀ {a d : Nat} {x : Int}, a < i → cl o a i = .run (d + 1) x → cl o a (i + 1) = .run (d + 1) x := by
    intro a d x ha hc
    rw [cl_succ o a i ha, hc]
    unfold clS
    dsimp only
    rw [hni, if_neg (by decide), if_pos h9, if_neg (by omega)]
  obtain ⟨t1, t2, t3⟩ := h.fr k0 a0 x0 hg
  have htop : cl o a0 (i + 1) = .run 0 i := by
    rw [cl_succ o a0 i t1, t3, hk, show k0 + 1 - 1 - k0 = 0 by omega]
    unfold clS
    dsimp only
    rw [hni, if_neg (by decide), if_pos h9, if_pos rfl, if_neg (by omega)]
  have hlow : ∀ {j a : Nat} {x : Int}, j ≠ k0 → g[j]? = some (a, x) → a < i ∧ cl o a (i + 1) = .run (g.length - 1 - j) x := by
    intro j a x hj hgj
    have hl := lt_of_get hgj
    obtain ⟨b1, b2, b3⟩ := h.fr j a x hgj
    obtain ⟨d, hd⟩ : ∃ d, g.length - 1 - j = d + 1 := ⟨g.length - 2 - j, by omega⟩
    rw [hd] at b3 ⊢
    exact ⟨b1, hdeep b1 b3⟩
  refine ⟨fun j a x hj => ?_, fun j j' a x a' x' hjj hj hj' => ?_, fun a ha hoa hn => ?_, fun k hk' hk9 => ?_, fun k hk' hk0 => ?_⟩
  · rw [List.length_set]
    by_cases hjk : j = k0
    · subst hjk
      rw [List.getElem?_set_self (by omega)] at hj
      cases hj
      refine ⟨by omega, t2, ?_⟩
      rw [htop, hk, show j + 1 - 1 - j = 0 by omega]
    · rw [List.getElem?_set_ne (fun e => hjk e.symm)] at hj
      obtain ⟨b1, b2⟩ := hlow hjk hj
      exact ⟨by omega, (h.fr j a x hj).2.1, b2⟩
  · have hx1 : ∃ y, g[j]? = some (a, y) := by
      by_cases hjk : j = k0
      · subst hjk
        rw [List.getElem?_set_self (by omega)] at hj
        cases hj
        exact ⟨_, hg⟩
      · rw [List.getElem?_set_ne (fun e => hjk e.symm)] at hj
        exact ⟨_, hj⟩
    have hx2 : ∃ y, g[j']? = some (a', y) := by
      by_cases hjk : j' = k0
      · subst hjk
        rw [List.getElem?_set_self (by omega)] at hj'
        cases hj'
        exact ⟨_, hg⟩
      · rw [List.getElem?_set_ne (fun e => hjk e.symm)] at hj'
        exact ⟨_, hj'⟩
    obtain ⟨y, hy⟩ := hx1
    obtain ⟨y', hy'⟩ := hx2
    exact h.up j j' a y a' y' hjj hy hy'
  · by_cases hai : a = i
    · subst hai
      rw [hni] at hoa
      cases hoa
    · obtain ⟨x, e, b1, b2⟩ := h.cl_ a (by omega) hoa (fun j x hj => by
        by_cases hjk : j = k0
        · subst hjk
          rw [hg] at hj
          cases hj
          exact hn j i (by rw [List.getElem?_set_self (by omega)])
        · exact hn j x (by rw [List.getElem?_set_ne (fun e => hjk e.symm)]; exact hj))
      exact ⟨x, e, L1.fin_ (by omega) b1, b2⟩
  · by_cases hki : k = i
    · subst hki
      exact ⟨a0, t1, t2, .inl ⟨0, htop⟩⟩
    · obtain ⟨a, b1, b2, b3⟩ := h.el k (by omega) hk9
      refine ⟨a, b1, b2, ?_⟩
      rcases b3 with ⟨d, b3⟩ | ⟨e, b3, b4⟩
      · obtain ⟨j, hj, hd⟩ := h.run_ (by omega) b2 b3
        by_cases hjk : j = k0
        · subst hjk
          rw [hg] at hj
          cases hj
          omega
        · exact .inl ⟨_, (hlow hjk hj).2⟩
      · exact .inr ⟨e, L1.fin_ (by omega) b3, b4⟩
  · by_cases hki : k = i
    · subst hki
      omega
    · obtain ⟨a, b1, b2, x, b3⟩ := h.en k (by omega) hk0
      exact ⟨a, b1, b2, x, L1.fin_ (by omega) b3⟩
theorem L1.end_ (h : L1 o i g) (h0 : o i = 50) {k0 a0 : Nat} {x0 : Int} (hk : g.length = k0 + 1) (hg : g[k0]? = some (a0, x0)) : L1 o (i + 1) (g.take k0) ∧ cl o a0 (i + 1) = .fin x0 i := by
  have hni : isOp (o i) = false := isOp_not (by omega)
  have hdeep : ∀ {a d : Nat} {x : Int}, a < i → cl o a i = .run (d + 1) x → cl o a (i + 1) = .run d x := by
    intro a d x ha hc
    rw [cl_succ o a i ha, hc]
    unfold clS
    dsimp only
    rw [hni, if_neg (by decide), if_neg (by omega), if_pos h0, if_neg (by omega)]
    rfl
  obtain ⟨t1, t2, t3⟩ := h.fr k0 a0 x0 hg
  have htop : cl o a0 (i + 1) = .fin x0 i := by
    rw [cl_succ o a0 i t1, t3, hk, show k0 + 1 - 1 - k0 = 0 by omega]
    unfold clS
    dsimp only
    rw [hni, if_neg (by decide), if_neg (by omega), if_pos h0, if_pos rfl]
  have htk : ∀ {j : Nat} {v : Nat × Int}, (g.take k0)[j]? = some v ↔ j < k0 ∧ g[j]? = some v := by
    intro j v
    rw [List.getElem?_take]
    split
    · rename_i hl
      exact ⟨fun h => ⟨hl, h⟩, fun h => h.2⟩
    · rename_i hl
      exact ⟨fun h => (by cases h), fun h => absurd h.1 hl⟩
  have hlen : (g.take k0).length = k0 := by rw [List.length_take]; omega
  refine ⟨⟨fun j a x hj => ?_, fun j j' a x a' x' hjj hj hj' => h.up j j' a x a' x' hjj (htk.1 hj).2 (htk.1 hj').2, fun a ha hoa hn => ?_, fun k hk' hk9 => ?_, fun k hk' hk0 => ?_⟩, htop⟩
  · obtain ⟨hjl, hj⟩ := htk.1 hj
    obtain ⟨b1, b2, b3⟩ := h.fr j a x hj
    rw [hlen]
    refine ⟨by omega, b2, ?_⟩
    rw [show g.length - 1 - j = (k0 - 1 - j) + 1 by omega] at b3
    exact hdeep b1 b3
  · by_cases hai : a = i
    · subst hai
      rw [hni] at hoa
      cases hoa
    · by_cases ha0 : a = a0
      · subst ha0
        exact ⟨x0, i, htop, by omega⟩
      · obtain ⟨x, e, b1, b2⟩ := h.cl_ a (by omega) hoa (fun j x hj => by
          have hl := lt_of_get hj
          by_cases hjk : j = k0
          · subst hjk
            rw [hg] at hj
            cases hj
            exact ha0 rfl
          · exact hn j x (htk.2 ⟨by omega, hj⟩))
        exact ⟨x, e, L1.fin_ (by omega) b1, b2⟩
  · by_cases hki : k = i
    · subst hki
      omega
    · obtain ⟨a, b1, b2, b3⟩ := h.el k (by omega) hk9
      refine ⟨a, b1, b2, ?_⟩
      rcases b3 with ⟨d, b3⟩ | ⟨e, b3, b4⟩
      · cases d with
        | zero =>
          obtain ⟨j, hj, hd⟩ := h.run_ (by omega) b2 b3
          have hl := lt_of_get hj
          have hjk : j = k0 := by omega
          subst hjk
          rw [hg] at hj
          cases hj
          exact .inr ⟨i, htop, by omega⟩
        | succ d => exact .inl ⟨d, hdeep (by omega) b3⟩
      · exact .inr ⟨e, L1.fin_ (by omega) b3, b4⟩
  · by_cases hki : k = i
    · subst hki
      exact ⟨a0, t1, t2, x0, htop⟩
    · obtain ⟨a, b1, b2, x, b3⟩ := h.en k (by omega) hk0
      exact ⟨a, b1, b2, x, L1.fin_ (by omega) b3⟩
end Go.Proofs.Ytbdmbkmokhaflaa.Th
end

section
/- layer 6: the scan, read: the stack, and where instructions lead -/
set_option linter.unusedVariables false
set_option linter.unusedSimpArgs false
namespace Go.Proofs.Ytbdmbkmokhaflaa.Th
open Go.Shape6 Go.Proofs.Ytbdmbkmokhaflaa.Q

def pr (b : Fr) : Nat × Int := (b.a, b.o)
abbrev opc (cs : List Ins) : Nat → Int := Q.opAt cs
/-- The loop that a Leave at k leaves. -/
def Tgt (cs : List Ins) (k a : Nat) : Prop := ∃ m0 fs0 j b, scanTo cs k = some (m0, fs0) ∧ topLoop cs (fs0.map Fr.a) = some j ∧ fs0[j]? = some b ∧ b.a = a
theorem Tgt.det {cs : List Ins} {k a a' : Nat} (h : Tgt cs k a) (h' : Tgt cs k a') : a = a' := by
  obtain ⟨m, fs, j, b, h1, h2, h3, h4⟩ := h
  obtain ⟨m', fs', j', b', h1', h2', h3', h4'⟩ := h'
  rw [h1] at h1'
  cases h1'
  rw [h2] at h2'
  cases h2'
  rw [h3] at h3'
  cases h3'
  rw [← h4, ← h4']
theorem last_get {α : Type} {l : List α} {b : α} (h : l.getLast? = some b) : ∃ k, l.length = k + 1 ∧ l[k]? = some b := by
  rw [List.getLast?_eq_getElem?] at h
  have := lt_of_get h
  exact ⟨l.length - 1, by omega, h⟩
theorem map_set_same {fs : List Fr} {j : Nat} {b b' : Fr} (h : fs[j]? = some b) (he : pr b' = pr b) : (fs.set j b').map pr = fs.map pr := by
  apply List.ext_getElem?
  intro q
  rw [List.getElem?_map, List.getElem?_map, List.getElem?_set]
  split
  · rename_i e
    subst e
    rw [if_pos (lt_of_get h), h]
    simp [he]
  · rfl
theorem setAll_get (m l : List Int) (x : Int) (k : Nat) (h0 : ∀ q ∈ l, 0 ≤ q) : (setAll m l x)[k]? = if (k : Int) ∈ l ∧ k < m.length then some x else m[k]? := by
  unfold setAll
  induction l generalizing m with
  | nil => simp
  | cons q l ih =>
    rw [List.foldl_cons, ih _ (fun y hy => h0 y (List.mem_cons_of_mem _ hy)), List.length_set, List.getElem?_set]
    have hq := h0 q (List.mem_cons_self ..)
    by_cases h1 : (k : Int) ∈ l ∧ k < m.length
    · rw [if_pos h1, if_pos ⟨List.mem_cons_of_mem _ h1.1, h1.2⟩]
    · rw [if_neg h1]
      by_cases h2 : q.toNat = k
      · rw [if_pos h2]
        by_cases h3 : k < m.length
        · rw [if_pos (by omega), if_pos ⟨by rw [List.mem_cons]; exact .inl (by omega), h3⟩]
        · rw [if_neg (by omega), if_neg (fun h => h3 h.2), List.getElem?_eq_none (by omega)]
      · rw [if_neg h2, if_neg]
        rintro ⟨h3, h4⟩
        rcases List.mem_cons.1 h3 with h3 | h3
        · omega
        · exact h1 ⟨h3, h4⟩
/-- Where the else of a block was read, it was read at depth 0. -/
theorem cl_else {o : Nat → Int} {a i : Nat} (ha : a < i) : (∀ d (x : Nat), cl o a i = .run d x → a < x ∧ x < i ∧ cl o a x = .run 0 (-1)) ∧ (∀ (x : Nat) (e : Int), 0 ≤ e → cl o a i = .fin x e → a < x ∧ x < i ∧ cl o a x = .run 0 (-1)) := by
  induction i with
  | zero => omega
  | succ i ih =>
    by_cases hai : a < i
    · obtain ⟨ih1, ih2⟩ := ih hai
      have hok := cl_ok o a i hai
      rw [cl_succ o a i hai]
      cases hc : cl o a i with
      | fin x e =>
        refine ⟨fun d x' h => (by cases h), fun x' e' he' h => ?_⟩
        cases h
        obtain ⟨h1, h2, h3⟩ := ih2 _ _ he' hc
        exact ⟨h1, by omega, h3⟩
      | run d x =>
        rw [hc] at hok
        have ih1' : ∀ x' : Nat, x = x' → a < x' ∧ x' < i + 1 ∧ cl o a x' = .run 0 (-1) := by
          intro x' hx
          subst hx
          obtain ⟨h1, h2, h3⟩ := ih1 d x' hc
          exact ⟨h1, by omega, h3⟩
        unfold clS
        dsimp only
        constructor
        · intro d' x' h
          split at h
          · cases h
            exact ih1' x' rfl
          · split at h
            · split at h
              · split at h
                · cases h
                · rename_i hd hx
                  have hxm : x = -1 := by
                    rcases hok with h5 | h5
                    · exact h5
                    · omega
                  cases h
                  exact ⟨hai, by omega, by rw [hc, hd, hxm]⟩
              · cases h
                exact ih1' x' rfl
            · split at h
              · split at h
                · cases h
                · cases h
                  exact ih1' x' rfl
              · cases h
                exact ih1' x' rfl
        · intro x' e' he' h
          split at h
          · cases h
          · split at h
            · split at h
              · split at h
                · cases h
                · cases h
              · cases h
            · split at h
              · split at h
                · cases h
                  exact ih1' x' rfl
                · cases h
              · cases h
    · obtain rfl : a = i := by omega
      rw [cl_start]
      exact ⟨fun d x h => (by injection h with h1 h2; omega), fun x e _ h => (by cases h)⟩
/-- Ahead of its end a block ran at depth 0. -/
theorem cl_end {o : Nat → Int} {a i : Nat} (ha : a < i) (x : Int) (e : Nat) (h : cl o a i = .fin x e) : a < e ∧ e < i ∧ cl o a e = .run 0 x := by
  induction i with
  | zero => omega
  | succ i ih =>
    by_cases hai : a < i
    · rw [cl_succ o a i hai] at h
      cases hc : cl o a i with
      | fin y z =>
        rw [hc] at h
        cases h
        obtain ⟨h1, h2, h3⟩ := ih hai hc
        exact ⟨h1, by omega, h3⟩
      | run d y =>
        rw [hc] at h
        unfold clS at h
        dsimp only at h
        split at h
        · cases h
        · split at h
          · split at h
            · split at h
              · injection h with h1 h2
                omega
              · cases h
            · cases h
          · split at h
            · split at h
              · rename_i hd
                injection h with h1 h2
                have : i = e := by omega
                subst this
                exact ⟨hai, by omega, by rw [hc, hd, h1]⟩
              · cases h
            · cases h
    · obtain rfl : a = i := by omega
      rw [cl_start] at h
      cases h
theorem run0_inj {o : Nat → Int} {a b k : Nat} {x y : Int} (hoa : isOp (o a) = true) (hob : isOp (o b) = true) (ha : a < k) (hb : b < k) (h1 : cl o a k = .run 0 x) (h2 : cl o b k = .run 0 y) : a = b := by
  rcases Nat.lt_trichotomy a b with h | h | h
  · have := cl_nest h hb hob h1 h2
    omega
  · exact h
  · have := cl_nest h ha hoa h2 h1
    omega
theorem scan_L1 {cs : List Ins} {i : Nat} {m : List Int} {fs : List Fr} (h : scanTo cs i = some (m, fs)) : L1 (opc cs) i (fs.map pr) := by
  induction i generalizing m fs with
  | zero =>
    cases h
    exact L1.start _
  | succ i ih =>
    obtain ⟨⟨m1, fs1⟩, h1, h2⟩ := Option.bind_eq_some_iff.1 h
    have hL := ih h1
    have h2 : scanStep cs i m1 fs1 = some (m, fs) := h2
    unfold scanStep at h2
    split at h2
    · rename_i ho
      split at h2
      · cases h2
        have := hL.push (isOp_iff.2 ho)
        rw [List.map_append]
        exact this
      · cases h2
    · rename_i ho
      split at h2
      · rename_i h9
        split at h2
        · cases h2
        · rename_i b hb
          split at h2
          · cases h2
          · rename_i hx
            cases h2
            obtain ⟨k0, hk, hg⟩ := last_get hb
            have e1 : fs1.length - 1 = k0 := by omega
            have hx1 : ¬ 0 ≤ b.o := fun hh => hx (.inl hh)
            have hx2 : opc cs b.a = 48 := Classical.byContradiction (fun hh => hx (.inr hh))
            have := hL.else_ h9 (k0 := k0) (a0 := b.a) (x0 := b.o) (by rw [List.length_map]; exact hk) (by rw [List.getElem?_map, hg]; rfl) hx1 hx2
            rw [e1, List.map_set]
            exact this
      · rename_i h9
        split at h2
        · rename_i h0
          split at h2
          · cases h2
          · rename_i b hb
            cases h2
            obtain ⟨k0, hk, hg⟩ := last_get hb
            have e1 : fs1.length - 1 = k0 := by omega
            have := (hL.end_ h0 (k0 := k0) (a0 := b.a) (x0 := b.o) (by rw [List.length_map]; exact hk) (by rw [List.getElem?_map, hg]; rfl)).1
            rw [e1, List.map_take]
            exact this
        · rename_i h0
          split at h2
          · split at h2
            · cases h2
            · rename_i j hj
              cases h2
              have hl := topLoop_lt hj
              rw [List.length_map] at hl
              rw [map_set_same (List.getElem?_eq_getElem hl) (by rw [List.getElem?_eq_getElem hl]; rfl)]
              exact hL.skip (isOp_not ho) h9 h0
          · cases h2
            exact hL.skip (isOp_not ho) h9 h0
end Go.Proofs.Ytbdmbkmokhaflaa.Th
end

section
/- layer 6: the scan, read: where instructions lead -/
set_option linter.unusedVariables false
set_option linter.unusedSimpArgs false
namespace Go.Proofs.Ytbdmbkmokhaflaa.Th
open Go.Shape6 Go.Proofs.Ytbdmbkmokhaflaa.Q

def val : CS → Int
  | .run _ x => x
  | .fin x e => if 0 ≤ x then x else e
def special (v : Int) : Prop := v = 48 ∨ v = 49 ∨ v = 50 ∨ v = 51 ∨ v = 52
theorem cl_keep {o : Nat → Int} {a i : Nat} (ha : a < i) (h : ∀ x, cl o a i = .run 0 x → o i ≠ 49 ∧ o i ≠ 50) :
    val (cl o a (i + 1)) = val (cl o a i) ∧ ∀ x e, cl o a (i + 1) = .fin x e → cl o a i = .fin x e := by
  rw [cl_succ o a i ha]
  cases hc : cl o a i with
  | fin x e => exact ⟨rfl, fun _ _ h => h⟩
  | run d x =>
    have h0 : d = 0 → o i ≠ 49 ∧ o i ≠ 50 := fun hd => h x (by rw [hc, hd])
    unfold clS
    dsimp only
    split
    · exact ⟨rfl, fun _ _ h => (by cases h)⟩
    · split
      · split
        · rename_i h9 hd
          exact absurd h9 (h0 hd).1
        · exact ⟨rfl, fun _ _ h => (by cases h)⟩
      · split
        · split
          · rename_i h5 hd
            exact absurd h5 (h0 hd).2
          · exact ⟨rfl, fun _ _ h => (by cases h)⟩
        · exact ⟨rfl, fun _ _ h => (by cases h)⟩
structure L2 (cs : List Ins) (i : Nat) (m : List Int) (fs : List Fr) : Prop where
  m1 : ∀ a, a < i → isOp (opc cs a) = true → m[a]? = some (val (cl (opc cs) a i))
  m2 : ∀ (a : Nat) (x : Int) (e : Nat), a < i → isOp (opc cs a) = true → cl (opc cs) a i = .fin x e → m[e]? = some (a : Int) ∧ (0 ≤ x → m[x.toNat]? = some (e : Int))
  m4 : ∀ k : Nat, k < i → opc cs k = 52 → ∃ a, Tgt cs k a ∧ ((∃ b ∈ fs, b.a = a ∧ (k : Int) ∈ b.l) ∨ ∃ (x : Int) (e : Nat), cl (opc cs) a i = .fin x e ∧ m[k]? = some (e : Int))
  m5 : ∀ k, k < cs.length → ¬ special (opc cs k) → m[k]? = some (-1)
  m6 : ∀ k, i ≤ k → k < cs.length → m[k]? = some (-1)
  lv : ∀ b ∈ fs, ∀ q ∈ b.l, ∃ k : Nat, q = (k : Int) ∧ k < i ∧ opc cs k = 52 ∧ Tgt cs k b.a
theorem Tgt.ok {cs : List Ins} {k a : Nat} (h : Tgt cs k a) : a < k ∧ opc cs a = 51 ∧ ∃ d x, cl (opc cs) a k = .run d x := by
  obtain ⟨m, fs, j, b, h1, h2, h3, h4⟩ := h
  have hL := scan_L1 h1
  have hf := hL.fr j b.a b.o (by rw [List.getElem?_map, h3]; rfl)
  have hl : loopAt cs (fs.map Fr.a) j = true := by
    have h2' := List.find?_some h2
    exact h2'
  have ho : opc cs b.a = 51 := by
    have := of_decide_eq_true hl
    rw [List.getElem?_map, h3] at this
    exact this
  rw [← h4]
  exact ⟨hf.1, ho, _, _, hf.2.2⟩
theorem fin_facts {cs : List Ins} {a i : Nat} {x : Int} {e : Nat} (ha : a < i) (h : cl (opc cs) a i = .fin x e) : a < e ∧ e < i ∧ opc cs e = 50 ∧ (x = -1 ∨ ((a : Int) < x ∧ x < e ∧ opc cs x.toNat = 49 ∧ opc cs a = 48)) := by
  have := cl_ok (opc cs) a i ha
  rw [h] at this
  rcases this with ⟨h1, h2⟩ | ⟨h1, h2, h3, h4⟩
  · omega
  · rw [Int.toNat_natCast] at h3
    exact ⟨by omega, by omega, h3, h4⟩
theorem run_facts {cs : List Ins} {a i d : Nat} {x : Int} (ha : a < i) (h : cl (opc cs) a i = .run d x) : x = -1 ∨ ((a : Int) < x ∧ x < i ∧ opc cs x.toNat = 49 ∧ opc cs a = 48) := by
  have := cl_ok (opc cs) a i ha
  rw [h] at this
  exact this
theorem L2.same {cs : List Ins} {i : Nat} {m : List Int} {fs fs' : List Fr} (h : L2 cs i m fs) (hi : i < cs.length) (hk : ∀ a, a < i → ∀ x, cl (opc cs) a i = .run 0 x → opc cs i ≠ 49 ∧ opc cs i ≠ 50) (hfs : ∀ b ∈ fs, ∃ b' ∈ fs', b'.a = b.a ∧ ∀ q ∈ b.l, q ∈ b'.l)
    (h4 : opc cs i = 52 → ∃ a, Tgt cs i a ∧ ∃ b ∈ fs', b.a = a ∧ (i : Int) ∈ b.l) (hlv : ∀ b ∈ fs', ∀ q ∈ b.l, ∃ k : Nat, q = (k : Int) ∧ k < i + 1 ∧ opc cs k = 52 ∧ Tgt cs k b.a) : L2 cs (i + 1) m fs' := by
  refine ⟨fun a ha ho => ?_, fun a x e ha ho hc => ?_, fun k hk' hk2 => ?_, h.m5, fun k hk1 hk2 => h.m6 k (by omega) hk2, hlv⟩
  · by_cases hai : a = i
    · subst hai
      rw [cl_start]
      exact h.m6 a (Nat.le_refl _) hi
    · rw [h.m1 a (by omega) ho, (cl_keep (by omega) (hk a (by omega))).1]
  · by_cases hai : a = i
    · subst hai
      rw [cl_start] at hc
      cases hc
    · exact h.m2 a x e (by omega) ho ((cl_keep (by omega) (hk a (by omega))).2 x e hc)
  · by_cases hki : k = i
    · subst hki
      obtain ⟨a, h1, h2⟩ := h4 hk2
      exact ⟨a, h1, .inl h2⟩
    · obtain ⟨a, h1, h2⟩ := h.m4 k (by omega) hk2
      refine ⟨a, h1, ?_⟩
      rcases h2 with ⟨b, hb, hb2, hb3⟩ | ⟨x, e, hc, hm⟩
      · obtain ⟨b', hb', e1, e2⟩ := hfs b hb
        exact .inl ⟨b', hb', e1.trans hb2, e2 _ hb3⟩
      · exact .inr ⟨x, e, cl_fin_mono hc (by have := h1.ok.1; omega) (Nat.le_succ i), hm⟩
theorem scan_L2 {cs : List Ins} {i : Nat} {m : List Int} {fs : List Fr} (hn : i ≤ cs.length) (h : scanTo cs i = some (m, fs)) : L2 cs i m fs := by
  induction i generalizing m fs with
  | zero =>
    cases h
    have hr : ∀ k, k < cs.length → (List.replicate cs.length (-1 : Int))[k]? = some (-1) := fun k hk => by rw [List.getElem?_replicate, if_pos hk]
    exact ⟨fun a ha => absurd ha (Nat.not_lt_zero a), fun a x e ha => absurd ha (Nat.not_lt_zero a), fun k hk => absurd hk (Nat.not_lt_zero k), fun k hk _ => hr k hk, fun k _ hk => hr k hk, fun b hb => (by cases hb)⟩
  | succ i ih =>
    obtain ⟨⟨m1, fs1⟩, h1, h2⟩ := Option.bind_eq_some_iff.1 h
    have hL := scan_L1 h1
    have hI := ih (by omega) h1
    have hok := scanTo_ok h1
    have h2 : scanStep cs i m1 fs1 = some (m, fs) := h2
    have hlv' : ∀ b ∈ fs1, ∀ q ∈ b.l, ∃ k : Nat, q = (k : Int) ∧ k < i + 1 ∧ opc cs k = 52 ∧ Tgt cs k b.a := fun b hb q hq => by
      obtain ⟨k, e1, e2, e3⟩ := hI.lv b hb q hq
      exact ⟨k, e1, by omega, e3⟩
    unfold scanStep at h2
    split at h2
    · rename_i ho
      have ho : opc cs i = 48 ∨ opc cs i = 51 := ho
      split at h2
      · cases h2
        refine hI.same (by omega) (fun a _ x _ => by omega) (fun b hb => ⟨b, List.mem_append_left _ hb, rfl, fun _ h => h⟩) (fun h => by omega) (fun b hb q hq => ?_)
        rcases List.mem_append.1 hb with hb | hb
        · exact hlv' b hb q hq
        · rw [List.mem_singleton.1 hb] at hq
          cases hq
      · cases h2
    · rename_i ho
      have ho : ¬ (opc cs i = 48 ∨ opc cs i = 51) := ho
      split at h2
      · rename_i h9
        have h9 : opc cs i = 49 := h9
        split at h2
        · cases h2
        · rename_i b hb
          split at h2
          · cases h2
          · rename_i hx
            cases h2
            obtain ⟨k0, hk, hg⟩ := last_get hb
            have e1 : fs1.length - 1 = k0 := by omega
            have hgm : (fs1.map pr)[k0]? = some (b.a, b.o) := by rw [List.getElem?_map, hg]; rfl
            have hlm : (fs1.map pr).length = k0 + 1 := by rw [List.length_map]; exact hk
            have hx1 : ¬ 0 ≤ b.o := fun hh => hx (.inl hh)
            have hx2 : opc cs b.a = 48 := Classical.byContradiction (fun hh => hx (.inr hh))
            obtain ⟨t1, t2, t3⟩ := hL.fr k0 b.a b.o hgm
            rw [hlm, show k0 + 1 - 1 - k0 = 0 by omega] at t3
            have htop : cl (opc cs) b.a (i + 1) = .run 0 i := by
              have h3 := (hL.else_ h9 hlm hgm hx1 hx2).fr k0 b.a i (by rw [List.getElem?_set_self (by omega)])
              rw [List.length_set, hlm, show k0 + 1 - 1 - k0 = 0 by omega] at h3
              exact h3.2.2
            have hkeep : ∀ a, a < i → isOp (opc cs a) = true → a ≠ b.a → val (cl (opc cs) a (i + 1)) = val (cl (opc cs) a i) ∧ ∀ x e, cl (opc cs) a (i + 1) = .fin x e → cl (opc cs) a i = .fin x e := fun a ha hoa hne => cl_keep ha (fun x hx => absurd (run0_inj hoa t2 ha t1 hx t3) hne)
            have hmem : b ∈ fs1 := getLast_mem' hb
            have hset : ∀ k, k ≠ b.a → (m1.set b.a (i : Int))[k]? = m1[k]? := fun k hk => List.getElem?_set_ne (fun e => hk e.symm)
            have hset0 : (m1.set b.a (i : Int))[b.a]? = some (i : Int) := List.getElem?_set_self (by rw [hok.1]; omega)
            rw [e1]
            refine ⟨fun a ha hoa => ?_, fun a x e ha hoa hc => ?_, fun k hk' hk2 => ?_, fun k hk1 hk2 => ?_, fun k hk1 hk2 => ?_, fun b' hb' q hq => ?_⟩
            · by_cases hab : a = b.a
              · subst hab
                rw [hset0, htop]
                rfl
              · by_cases hai : a = i
                · subst hai
                  exact absurd (isOp_iff.1 hoa) ho
                · rw [hset a hab, hI.m1 a (by omega) hoa, (hkeep a (by omega) hoa hab).1]
            · by_cases hab : a = b.a
              · subst hab
                rw [htop] at hc
                cases hc
              · by_cases hai : a = i
                · subst hai
                  exact absurd (isOp_iff.1 hoa) ho
                · have hc' := (hkeep a (by omega) hoa hab).2 x e hc
                  obtain ⟨f1, f2, f3, f4⟩ := fin_facts (by omega) hc'
                  obtain ⟨g1, g2⟩ := hI.m2 a x e (by omega) hoa hc'
                  refine ⟨by rw [hset e (fun hh => by rw [hh] at f3; omega)]; exact g1, fun h0 => ?_⟩
                  rw [hset x.toNat (fun hh => by
                    rcases f4 with f4 | f4
                    · omega
                    · rw [hh] at f4
                      omega)]
                  exact g2 h0
            · by_cases hki : k = i
              · subst hki
                omega
              · obtain ⟨a, h3, h4⟩ := hI.m4 k (by omega) hk2
                refine ⟨a, h3, ?_⟩
                rcases h4 with ⟨b', hb', hb2, hb3⟩ | ⟨x, e, hc, hm⟩
                · obtain ⟨q, hq, hqe⟩ := List.getElem_of_mem hb'
                  by_cases hqk : q = k0
                  · subst hqk
                    rw [List.getElem?_eq_getElem hq] at hg
                    have hbb : b' = b := by rw [← hqe]; exact Option.some.inj hg
                    exact .inl ⟨⟨b.a, i, b.l⟩, List.mem_set hq _, by rw [← hb2, hbb], by rw [← hbb]; exact hb3⟩
                  · exact .inl ⟨b', List.mem_iff_getElem?.2 ⟨q, by rw [List.getElem?_set_ne (fun e => hqk e.symm), List.getElem?_eq_getElem hq, hqe]⟩, hb2, hb3⟩
                · refine .inr ⟨x, e, cl_fin_mono hc (by have := h3.ok.1; omega) (Nat.le_succ i), ?_⟩
                  rw [hset k (fun hh => by rw [hh] at hk2; omega)]
                  exact hm
            · rw [hset k (fun hh => hk2 (by rw [hh]; exact .inl hx2))]
              exact hI.m5 k hk1 hk2
            · rw [hset k (by omega)]
              exact hI.m6 k (by omega) hk2
            · rcases List.mem_or_eq_of_mem_set hb' with hb' | hb'
              · exact hlv' b' hb' q hq
              · rw [hb'] at hq ⊢
                exact hlv' b hmem q hq
      · rename_i h9
        have h9 : opc cs i ≠ 49 := h9
        split at h2
        · rename_i h0
          have h0 : opc cs i = 50 := h0
          split at h2
          · cases h2
          · rename_i b hb
            cases h2
            obtain ⟨k0, hk, hg⟩ := last_get hb
            have e1 : fs1.length - 1 = k0 := by omega
            have hgm : (fs1.map pr)[k0]? = some (b.a, b.o) := by rw [List.getElem?_map, hg]; rfl
            have hlm : (fs1.map pr).length = k0 + 1 := by rw [List.length_map]; exact hk
            obtain ⟨t1, t2, t3⟩ := hL.fr k0 b.a b.o hgm
            rw [hlm, show k0 + 1 - 1 - k0 = 0 by omega] at t3
            have htop := (hL.end_ h0 hlm hgm).2
            have hkeep : ∀ a, a < i → isOp (opc cs a) = true → a ≠ b.a → val (cl (opc cs) a (i + 1)) = val (cl (opc cs) a i) ∧ ∀ x e, cl (opc cs) a (i + 1) = .fin x e → cl (opc cs) a i = .fin x e := fun a ha hoa hne => cl_keep ha (fun x hx => absurd (run0_inj hoa t2 ha t1 hx t3) hne)
            have hmem : b ∈ fs1 := getLast_mem' hb
            have hrf := run_facts t1 t3
            have hix : ∃ ix : Nat, (if 0 ≤ b.o then b.o.toNat else b.a) = ix ∧ ix < i ∧ (0 ≤ b.o → (ix : Int) = b.o ∧ opc cs ix = 49) ∧ (¬ 0 ≤ b.o → ix = b.a) := by
              by_cases hbo : 0 ≤ b.o
              · rw [if_pos hbo]
                rcases hrf with h3 | ⟨h3, h4, h5, h6⟩
                · omega
                · exact ⟨_, rfl, by omega, fun _ => ⟨by omega, h5⟩, fun h => absurd hbo h⟩
              · rw [if_neg hbo]
                exact ⟨_, rfl, t1, fun h => absurd h hbo, fun _ => rfl⟩
            obtain ⟨ix, hixe, hix1, hix2, hix3⟩ := hix
            rw [hixe, e1]
            have hml := hok.1
            have hl0 : ∀ q ∈ b.l, 0 ≤ q := fun q hq => ((hok.2.2 b hmem).2.2.2 q hq).1
            have hnl : ∀ k : Nat, opc cs k ≠ 52 → (k : Int) ∉ b.l := fun k hk2 hkl => by
              obtain ⟨k', f1, f2, f3, f4⟩ := hI.lv b hmem _ hkl
              have : k = k' := by omega
              rw [this] at hk2
              exact hk2 f3
            have hget : ∀ k : Nat, (k : Int) ∉ b.l → k ≠ i → k ≠ ix → (setAll ((m1.set i (b.a : Int)).set ix (i : Int)) b.l (i : Int))[k]? = m1[k]? := fun k g1 g2 g3 => by
              rw [setAll_get _ _ _ _ hl0, if_neg (fun hh => g1 hh.1), List.getElem?_set_ne (fun e => g3 e.symm), List.getElem?_set_ne (fun e => g2 e.symm)]
            have hgeti : (setAll ((m1.set i (b.a : Int)).set ix (i : Int)) b.l (i : Int))[i]? = some (b.a : Int) := by
              rw [setAll_get _ _ _ _ hl0, if_neg (fun hh => hnl i (by omega) hh.1), List.getElem?_set_ne (by omega), List.getElem?_set_self (by omega)]
            have hgetx : opc cs ix ≠ 52 → (setAll ((m1.set i (b.a : Int)).set ix (i : Int)) b.l (i : Int))[ix]? = some (i : Int) := fun hne => by
              rw [setAll_get _ _ _ _ hl0, if_neg (fun hh => hnl ix hne hh.1), List.getElem?_set_self (by rw [List.length_set]; omega)]
            have hgetl : ∀ k : Nat, (k : Int) ∈ b.l → (setAll ((m1.set i (b.a : Int)).set ix (i : Int)) b.l (i : Int))[k]? = some (i : Int) := fun k hkl => by
              rw [setAll_get _ _ _ _ hl0, if_pos ⟨hkl, by rw [List.length_set, List.length_set]; have := (hok.2.2 b hmem).2.2.2 _ hkl; omega⟩]
            have hba2 : opc cs b.a = 48 ∨ opc cs b.a = 51 := isOp_iff.1 t2
            refine ⟨fun a ha hoa => ?_, fun a x e ha hoa hc => ?_, fun k hk' hk2 => ?_, fun k hk1 hk2 => ?_, fun k hk1 hk2 => ?_, fun b' hb' q hq => hlv' b' (List.mem_of_mem_take hb') q hq⟩
            · have hoa2 := isOp_iff.1 hoa
              by_cases hai : a = i
              · subst hai
                exact absurd hoa2 ho
              · by_cases hab : a = b.a
                · rw [hab, htop]
                  show _ = some (if 0 ≤ b.o then b.o else (i : Int))
                  by_cases hbo : 0 ≤ b.o
                  · rw [if_pos hbo, hget b.a (hnl b.a (by omega)) (by omega) (fun hh => by have := (hix2 hbo).2; rw [← hh] at this; omega), hI.m1 b.a t1 t2, t3]
                    rfl
                  · have h7 := hgetx (by rw [hix3 hbo]; omega)
                    have e7 := hix3 hbo
                    rw [if_neg hbo]
                    rw [e7] at h7 ⊢
                    exact h7
                · rw [hget a (hnl a (by omega)) hai (fun hh => by
                    by_cases hbo : 0 ≤ b.o
                    · have := (hix2 hbo).2
                      rw [← hh] at this
                      omega
                    · exact hab (hh.trans (hix3 hbo))), hI.m1 a (by omega) hoa, (hkeep a (by omega) hoa hab).1]
            · have hoa2 := isOp_iff.1 hoa
              by_cases hai : a = i
              · subst hai
                exact absurd hoa2 ho
              · by_cases hab : a = b.a
                · subst hab
                  rw [htop] at hc
                  injection hc with hc1 hc2
                  have : e = i := by omega
                  subst this
                  refine ⟨hgeti, fun hx0 => ?_⟩
                  rw [← hc1] at hx0 ⊢
                  have h3 := hix2 hx0
                  rw [show b.o.toNat = ix by omega]
                  exact hgetx (by omega)
                · have hc' := (hkeep a (by omega) hoa hab).2 x e hc
                  obtain ⟨f1, f2, f3, f4⟩ := fin_facts (by omega) hc'
                  obtain ⟨g1, g2⟩ := hI.m2 a x e (by omega) hoa hc'
                  have hixe2 : opc cs ix ≠ 50 := by
                    by_cases hbo : 0 ≤ b.o
                    · have := (hix2 hbo).2
                      omega
                    · rw [hix3 hbo]
                      omega
                  refine ⟨by rw [hget e (hnl e (by omega)) (by omega) (fun hh => hixe2 (by rw [← hh]; exact f3))]; exact g1, fun hx0 => ?_⟩
                  rcases f4 with f4 | ⟨f4, f5, f6, f7⟩
                  · omega
                  · rw [hget x.toNat (hnl _ (by omega)) (by omega) (fun hh => by
                      by_cases hbo : 0 ≤ b.o
                      · obtain ⟨h3, h4⟩ := hix2 hbo
                        have p1 := (cl_else (o := opc cs) t1).1 0 ix (by rw [h3]; exact t3)
                        have p2 := (cl_else (o := opc cs) (by omega : a < i)).2 ix e (by omega) (by rw [← hh, show ((x.toNat : Nat) : Int) = x by omega]; exact hc')
                        exact hab (run0_inj hoa t2 p2.1 p1.1 p2.2.2 p1.2.2)
                      · rw [hh, hix3 hbo] at f6
                        omega)]
                    exact g2 hx0
            · by_cases hki : k = i
              · subst hki
                omega
              · obtain ⟨a, h3, h4⟩ := hI.m4 k (by omega) hk2
                refine ⟨a, h3, ?_⟩
                rcases h4 with ⟨b', hb', hb2, hb3⟩ | ⟨x, e, hc, hm⟩
                · obtain ⟨q, hq, hqe⟩ := List.getElem_of_mem hb'
                  by_cases hqk : q = k0
                  · subst hqk
                    rw [List.getElem?_eq_getElem hq] at hg
                    have hbb : b' = b := by rw [← hqe]; exact Option.some.inj hg
                    exact .inr ⟨b.o, i, by rw [← hb2, hbb]; exact htop, hgetl k (by rw [← hbb]; exact hb3)⟩
                  · exact .inl ⟨b', List.mem_iff_getElem?.2 ⟨q, by rw [List.getElem?_take, if_pos (by omega), List.getElem?_eq_getElem hq, hqe]⟩, hb2, hb3⟩
                · refine .inr ⟨x, e, cl_fin_mono hc (by have := h3.ok.1; omega) (Nat.le_succ i), ?_⟩
                  rw [hget k (fun hkl => by
                    obtain ⟨k', f1, f2, f3, f4⟩ := hI.lv b hmem _ hkl
                    have hkk : k = k' := by omega
                    subst hkk
                    have := Tgt.det f4 h3
                    rw [← this, t3] at hc
                    cases hc) hki (fun hh => by
                      by_cases hbo : 0 ≤ b.o
                      · have := (hix2 hbo).2
                        rw [← hh] at this
                        omega
                      · rw [hh, hix3 hbo] at hk2
                        omega)]
                  exact hm
            · have hsp : ∀ v, v = 48 ∨ v = 51 ∨ v = 49 ∨ v = 50 ∨ v = 52 → special v := fun v hv => by unfold special; omega
              rw [hget k (hnl k (fun hh => hk2 (hsp _ (by omega)))) (fun hh => hk2 (hsp _ (by rw [hh]; omega))) (fun hh => hk2 (hsp _ (by
                rw [hh]
                by_cases hbo : 0 ≤ b.o
                · have := (hix2 hbo).2
                  omega
                · rw [hix3 hbo]
                  omega)))]
              exact hI.m5 k hk1 hk2
            · rw [hget k (fun hkl => by have := (hok.2.2 b hmem).2.2.2 _ hkl; omega) (by omega) (by omega)]
              exact hI.m6 k (by omega) hk2
        · rename_i h0
          have h0 : opc cs i ≠ 50 := h0
          split at h2
          · rename_i h52
            split at h2
            · cases h2
            · rename_i j hj
              cases h2
              have hl := topLoop_lt hj
              rw [List.length_map] at hl
              have hgj := List.getElem?_eq_getElem hl
              rw [hgj, Option.getD_some]
              have htg : Tgt cs i fs1[j].a := ⟨m, fs1, j, fs1[j], h1, hj, hgj, rfl⟩
              refine hI.same (by omega) (fun a _ x _ => ⟨h9, h0⟩) (fun b hb => ?_) (fun _ => ⟨_, htg, ⟨fs1[j].a, fs1[j].o, fs1[j].l ++ [(i : Int)]⟩, List.mem_set hl _, rfl, by simp⟩) (fun b hb q hq => ?_)
              · obtain ⟨p, hp, hpe⟩ := List.getElem_of_mem hb
                by_cases hpj : p = j
                · subst hpj
                  refine ⟨_, List.mem_set hl _, by rw [← hpe], fun q hq => ?_⟩
                  rw [← hpe] at hq
                  exact List.mem_append_left _ hq
                · exact ⟨b, List.mem_iff_getElem?.2 ⟨p, by rw [List.getElem?_set_ne (fun e => hpj e.symm), List.getElem?_eq_getElem hp, hpe]⟩, rfl, fun _ h => h⟩
              · rcases List.mem_or_eq_of_mem_set hb with hb | hb
                · exact hlv' b hb q hq
                · rw [hb] at hq ⊢
                  rcases List.mem_append.1 hq with hq | hq
                  · exact hlv' fs1[j] (List.getElem_mem hl) q hq
                  · rw [List.mem_singleton.1 hq]
                    exact ⟨i, rfl, by omega, h52, htg⟩
          · rename_i h52
            cases h2
            exact hI.same (by omega) (fun a _ x _ => ⟨h9, h0⟩) (fun b hb => ⟨b, hb, rfl, fun _ h => h⟩) (fun h => absurd h h52) hlv'
end Go.Proofs.Ytbdmbkmokhaflaa.Th
end

section
/- layer 6: what the laws' small functions come to: rows of numbers compared, own instructions, what must come -/
set_option linter.unusedVariables false
set_option linter.unusedSimpArgs false
namespace Go.Proofs.Ytbdmbkmokhaflaa.Th
open Go.RowKit Go.Proofs.YtbdmbkmokhaflaaW.PrintWords Go.Proofs.YtbdmbkmokhaflaaW.Hb Go.Proofs.Ytbdmbkmokhaflaa.Q

theorem w64 {x : Int} (h0 : -9223372036854775808 ≤ x) (h1 : x ≤ 9223372036854775807) : wrap64 x = x := by unfold wrap64; omega
theorem rdN (l : List Int) (i : Nat) (hi : i < l.length) : rd l (i : Int) = l[i] := by simp [rd, List.getD_eq_getElem?_getD, hi]
theorem ints_l0 (a b : List Int) (hl : a.length = b.length) (hm : a.length ≤ 4611686018427387904) (d : Nat) : ∀ i : Nat, a.length - i = d → i ≤ a.length → Ev (fun k => weighhouselaw03_Ints.l0 k a b (i : Int)) (decide (a.drop i = b.drop i)) := by
  induction d with
  | zero =>
    intro i hd hi
    have e1 : a.drop i = b.drop i := by rw [List.drop_eq_nil_of_le (by omega), List.drop_eq_nil_of_le (by omega)]
    rw [decide_eq_true e1]
    refine Ev.step (f := fun _ => some true) (fun k => ?_) (Ev.now _)
    simp only [weighhouselaw03_Ints.l0]
    rw [if_neg (by omega)]
  | succ d ih =>
    intro i hd hi
    have ha : i < a.length := by omega
    have hb : i < b.length := by omega
    by_cases he : a[i] = b[i]
    · have e1 : decide (a.drop i = b.drop i) = decide (a.drop (i + 1) = b.drop (i + 1)) := by
        rw [List.drop_eq_getElem_cons ha, List.drop_eq_getElem_cons hb, he]
        exact decide_eq_decide.2 ⟨fun h => (List.cons.inj h).2, fun h => by rw [h]⟩
      rw [e1]
      refine Ev.step (f := fun k => weighhouselaw03_Ints.l0 k a b ((i + 1 : Nat) : Int)) (fun k => ?_) (ih (i + 1) (by omega) (by omega))
      simp only [weighhouselaw03_Ints.l0]
      rw [if_pos (by omega), if_pos (by omega), if_pos (by omega), rdN a i ha, rdN b i hb, if_pos he, w64 (by omega) (by omega)]
      rfl
    · have e1 : decide (a.drop i = b.drop i) = false := by
        rw [List.drop_eq_getElem_cons ha, List.drop_eq_getElem_cons hb]
        exact decide_eq_false (fun h => he (List.cons.inj h).1)
      rw [e1]
      refine Ev.step (f := fun _ => some false) (fun k => ?_) (Ev.now _)
      simp only [weighhouselaw03_Ints.l0]
      rw [if_pos (by omega), if_pos (by omega), if_pos (by omega), rdN a i ha, rdN b i hb, if_neg he]
theorem ints_ev (a b : List Int) (hm : a.length ≤ 4611686018427387904) : Ev (fun k => weighhouselaw03_Ints.f k a b) (decide (a = b)) := by
  by_cases hl : a.length = b.length
  · refine Ev.congr (f := fun k => weighhouselaw03_Ints.l0 k a b ((0 : Nat) : Int)) (fun k => ?_) ?_
    · unfold weighhouselaw03_Ints.f
      rw [if_pos (by omega)]
      rfl
    · have h := ints_l0 a b hl hm a.length 0 (by omega) (by omega)
      simpa using h
  · have e : decide (a = b) = false := decide_eq_false (fun e => hl (by rw [e]))
    rw [e]
    refine Ev.congr (f := fun _ => some false) (fun k => ?_) (Ev.now _)
    unfold weighhouselaw03_Ints.f
    rw [if_neg (by omega)]
theorem own_f (l : List Ins) (h : l.length ≤ 1048576) : weighhouselaw06_Own.f l = some l := by
  unfold weighhouselaw06_Own.f
  rw [Option.bind_some, if_pos (by simp; omega)]
  rfl
theorem match_none {l : List Ins} (hl : l.length ≤ 1048576) (h : scanAll l = none) : shape_Match.f l = some ([], 31) := by
  unfold shape_Match.f
  rw [if_pos hl, h]
theorem match_some {l : List Ins} {m : List Int} (hl : l.length ≤ 1048576) (h : scanAll l = some m) : shape_Match.f l = some (m, 0) := by
  unfold shape_Match.f
  rw [if_pos hl, h]
theorem knows_ev : Ev (fun k => weighhouselaw06_knows.f k) true := by
  have h1 : shape_Match.f (([(⟨48, 0⟩ : Ins), (⟨49, 0⟩ : Ins), (⟨50, 0⟩ : Ins)] : List Ins)) = some ([1, 2, 0], 0) := match_some (by decide) (by decide +kernel)
  have h2 : shape_Match.f (([(⟨51, 1⟩ : Ins), (⟨52, 0⟩ : Ins), (⟨50, 0⟩ : Ins)] : List Ins)) = some ([2, 2, 0], 0) := match_some (by decide) (by decide +kernel)
  refine Ev.congr (f := fun k => (weighhouselaw03_Ints.f k [1, 2, 0] [1, 2, 0]).bind fun t122 => (if t122 = true then ((weighhouselaw03_Ints.f k [2, 2, 0] [2, 2, 0]).bind fun t126 => (some t126)) else (some false))) (fun k => ?_) ?_
  · unfold weighhouselaw06_knows.f
    rw [h1, Option.bind_some, h2, Option.bind_some]
    show ((weighhouselaw06_num.f 0).bind fun t117 => (weighhouselaw06_num.f 0).bind fun t118 => _) = _
    rw [show weighhouselaw06_num.f 0 = some 0 from rfl, Option.bind_some, Option.bind_some, if_pos (by rw [w64 (by omega) (by omega)]; rfl)]
  · refine Ev.bind (a := true) (ints_ev [1, 2, 0] [1, 2, 0] (by decide)) ?_
    refine Ev.congr (f := fun k => (weighhouselaw03_Ints.f k [2, 2, 0] [2, 2, 0]).bind fun t126 => (some t126)) (fun k => if_pos rfl) ?_
    exact Ev.bind (a := true) (ints_ev [2, 2, 0] [2, 2, 0] (by decide)) (Ev.now _)
end Go.Proofs.Ytbdmbkmokhaflaa.Th
end

section
/- layer 6: the document's answer, its first rounds: what closes a block, the pairs, the check of elses and ends -/
set_option linter.unusedVariables false
set_option linter.unusedSimpArgs false
namespace Go.Proofs.Ytbdmbkmokhaflaa.Th
open Go.RowKit Go.Proofs.YtbdmbkmokhaflaaW.PrintWords Go.Proofs.YtbdmbkmokhaflaaW.Hb
open Go.Shape6 Go.Proofs.Ytbdmbkmokhaflaa.Q

def ends (c : CS) : Int × Int := match c with | .run _ x => (x, -1) | .fin x e => (x, e)
def xe (cs : List Ins) (a : Nat) : Int × Int := ends (cl (opc cs) a cs.length)
theorem rdI (l : List Ins) (n : Nat) (hn : n < l.length) : (rd_T31 l (n : Int)).f0 = opc l n := by
  show _ = Q.opAt l n
  rw [opAt_lt hn]
  simp [rd_T31, List.getD_eq_getElem?_getD, hn]
theorem cl_depth {o : Nat → Int} {a i d : Nat} {x : Int} (h : cl o a i = .run d x) : d ≤ i := by
  induction i generalizing d x with
  | zero => cases h; omega
  | succ i ih =>
    unfold cl at h
    split at h
    · cases h
      omega
    · cases hc : cl o a i with
      | fin y e => rw [hc] at h; cases h
      | run d' y =>
        have := ih hc
        rw [hc] at h
        unfold clS at h
        dsimp only at h
        split at h
        · cases h; omega
        · split at h
          · split at h
            · split at h
              · cases h
              · cases h; omega
            · cases h; omega
          · split at h
            · split at h
              · cases h
              · cases h; omega
            · cases h; omega
theorem closes_l0 (cs : List Ins) (hm : cs.length ≤ 4611686018427387904) (a : Nat) (ha : a < cs.length) (q : Nat) : ∀ (i d : Nat) (x : Int), cs.length - i = q → a < i → i ≤ cs.length → cl (opc cs) a i = .run d x →
    Ev (fun k => weighhouseref06_closes.l0 k cs (a : Int) (d : Int) x (i : Int)) (xe cs a) := by
  induction q with
  | zero =>
    intro i d x hq hai hi hc
    have e : i = cs.length := by omega
    subst e
    have e2 : xe cs a = (x, -1) := by unfold xe; rw [hc]; rfl
    rw [e2]
    refine Ev.step (f := fun _ => some (x, -1)) (fun k => ?_) (Ev.now _)
    simp only [weighhouseref06_closes.l0]
    rw [if_neg (by omega)]
  | succ q ih =>
    intro i d x hq hai hi hc
    have hil : i < cs.length := by omega
    have hd := cl_depth hc
    have hs := cl_succ (opc cs) a i hai
    rw [hc] at hs
    unfold clS at hs
    dsimp only at hs
    have hw : wrap64 ((i : Int) + 1) = ((i + 1 : Nat) : Int) := by rw [w64 (by omega) (by omega)]; rfl
    have hdone : ∀ {x' e' : Int}, cl (opc cs) a (i + 1) = .fin x' e' → xe cs a = (x', e') := fun {x' e'} h => by
      unfold xe
      rw [cl_fin_mono h (by omega) (by omega : i + 1 ≤ cs.length)]
      rfl
    by_cases ho : opc cs i = 48 ∨ opc cs i = 51
    · rw [if_pos (isOp_iff.2 ho)] at hs
      refine Ev.step (f := fun k => weighhouseref06_closes.j1 k cs (a : Int) (d : Int) x (i : Int) (opc cs i) true) (fun k => ?_) ?_
      · simp only [weighhouseref06_closes.l0]
        rw [if_pos (by omega), if_pos (by omega), rdI cs i hil]
        rcases ho with h | h
        · rw [if_pos h, h]
          rfl
        · rw [if_neg (by omega), h]
          rfl
      · refine Ev.step (f := fun k => weighhouseref06_closes.l0 k cs (a : Int) ((d + 1 : Nat) : Int) x ((i + 1 : Nat) : Int)) (fun k => ?_) (ih (i + 1) (d + 1) x (by omega) (by omega) (by omega) hs)
        simp only [weighhouseref06_closes.j1]
        rw [if_true, hw, w64 (by omega) (by omega)]
        rfl
    · rw [isOp_not ho, if_neg (by decide)] at hs
      refine Ev.step (f := fun k => weighhouseref06_closes.j1 k cs (a : Int) (d : Int) x (i : Int) (opc cs i) false) (fun k => ?_) ?_
      · simp only [weighhouseref06_closes.l0]
        rw [if_pos (by omega), if_pos (by omega), rdI cs i hil, if_neg (by omega), show (opc cs i == 51) = false by simp; omega]
      · by_cases h9 : opc cs i = 49
        · rw [if_pos h9] at hs
          have hj2 : ∀ b : Bool, (b = true ↔ (d = 0 ∧ (0 ≤ x ∨ opc cs a ≠ 48))) → Ev (fun k => weighhouseref06_closes.j2 k cs (a : Int) (d : Int) x (i : Int) b) (xe cs a) := by
            intro b hb
            by_cases hd0 : d = 0
            · rw [if_pos hd0] at hs
              by_cases hx : 0 ≤ x ∨ opc cs a ≠ 48
              · rw [if_pos hx] at hs
                rw [hdone hs, hb.2 ⟨hd0, hx⟩]
                refine Ev.step (f := fun _ => some (-1, -1)) (fun k => ?_) (Ev.now _)
                simp only [weighhouseref06_closes.j2]
                rw [if_true]
              · rw [if_neg hx] at hs
                have hbf : b = false := by
                  cases b
                  · rfl
                  · exact absurd (hb.1 rfl).2 hx
                rw [hbf]
                refine Ev.step (f := fun k => weighhouseref06_closes.l0 k cs (a : Int) ((0 : Nat) : Int) (i : Int) ((i + 1 : Nat) : Int)) (fun k => ?_) (ih (i + 1) 0 i (by omega) (by omega) (by omega) hs)
                simp only [weighhouseref06_closes.j2]
                rw [if_neg (by decide), if_pos (by omega), hw, hd0]
            · rw [if_neg hd0] at hs
              have hbf : b = false := by
                cases b
                · rfl
                · exact absurd (hb.1 rfl).1 hd0
              rw [hbf]
              refine Ev.step (f := fun k => weighhouseref06_closes.l0 k cs (a : Int) (d : Int) x ((i + 1 : Nat) : Int)) (fun k => ?_) (ih (i + 1) d x (by omega) (by omega) (by omega) hs)
              simp only [weighhouseref06_closes.j2]
              rw [if_neg (by decide), if_neg (by omega), hw]
          by_cases hd0 : d = 0
          · by_cases hx : x ≥ 0
            · refine Ev.step (f := fun k => weighhouseref06_closes.j2 k cs (a : Int) (d : Int) x (i : Int) true) (fun k => ?_) (hj2 true ⟨fun _ => ⟨hd0, .inl hx⟩, fun _ => rfl⟩)
              simp only [weighhouseref06_closes.j1]
              rw [if_neg (by decide), if_pos h9, if_pos (by omega), if_pos hx]
            · refine Ev.step (f := fun k => weighhouseref06_closes.j2 k cs (a : Int) (d : Int) x (i : Int) (opc cs a != 48)) (fun k => ?_) (hj2 _ ⟨fun h => ⟨hd0, .inr (by simpa using h)⟩, fun h => by
                rcases h.2 with h | h
                · exact absurd h hx
                · simpa using h⟩)
              simp only [weighhouseref06_closes.j1]
              rw [if_neg (by decide), if_pos h9, if_pos (by omega), if_neg hx, if_pos (by omega), if_pos (by omega), rdI cs a ha]
          · refine Ev.step (f := fun k => weighhouseref06_closes.j2 k cs (a : Int) (d : Int) x (i : Int) false) (fun k => ?_) (hj2 false ⟨fun h => (by cases h), fun h => absurd h.1 hd0⟩)
            simp only [weighhouseref06_closes.j1]
            rw [if_neg (by decide), if_pos h9, if_neg (by omega)]
        · rw [if_neg h9] at hs
          by_cases h0 : opc cs i = 50
          · rw [if_pos h0] at hs
            by_cases hd0 : d = 0
            · rw [if_pos hd0] at hs
              rw [hdone hs]
              refine Ev.step (f := fun _ => some (x, (i : Int))) (fun k => ?_) (Ev.now _)
              simp only [weighhouseref06_closes.j1]
              rw [if_neg (by decide), if_neg h9, if_pos h0, if_pos (by omega)]
            · rw [if_neg hd0] at hs
              refine Ev.step (f := fun k => weighhouseref06_closes.l0 k cs (a : Int) ((d - 1 : Nat) : Int) x ((i + 1 : Nat) : Int)) (fun k => ?_) (ih (i + 1) (d - 1) x (by omega) (by omega) (by omega) hs)
              simp only [weighhouseref06_closes.j1]
              rw [if_neg (by decide), if_neg h9, if_pos h0, if_neg (by omega), hw, w64 (by omega) (by omega), show (d : Int) - 1 = ((d - 1 : Nat) : Int) by omega]
          · rw [if_neg h0] at hs
            refine Ev.step (f := fun k => weighhouseref06_closes.l0 k cs (a : Int) (d : Int) x ((i + 1 : Nat) : Int)) (fun k => ?_) (ih (i + 1) d x (by omega) (by omega) (by omega) hs)
            simp only [weighhouseref06_closes.j1]
            rw [if_neg (by decide), if_neg h9, if_neg h0, hw]
theorem closes_ev (cs : List Ins) (hm : cs.length ≤ 4611686018427387904) (a : Nat) (ha : a < cs.length) : Ev (fun k => weighhouseref06_closes.f k cs (a : Int)) (xe cs a) := by
  refine Ev.congr (f := fun k => weighhouseref06_closes.l0 k cs (a : Int) ((0 : Nat) : Int) (-1) ((a + 1 : Nat) : Int)) (fun k => ?_) (closes_l0 cs hm a ha _ (a + 1) 0 (-1) rfl (by omega) (by omega) (cl_start _ _))
  unfold weighhouseref06_closes.f
  rw [w64 (by omega) (by omega)]
  rfl
/-- What ends mean. -/
theorem xe_ok {cs : List Ins} {a : Nat} (ha : a < cs.length) (h : 0 ≤ (xe cs a).2) : ∃ (x : Int) (e : Nat), cl (opc cs) a cs.length = .fin x e ∧ xe cs a = (x, (e : Int)) := by
  unfold xe at h ⊢
  cases hc : cl (opc cs) a cs.length with
  | run d x => rw [hc] at h; exact absurd h (by show ¬ (0 : Int) ≤ -1; decide)
  | fin x e =>
    rw [hc] at h
    have h : 0 ≤ e := h
    exact ⟨x, e.toNat, by rw [Int.toNat_of_nonneg h], by rw [Int.toNat_of_nonneg h]; rfl⟩
theorem xe_of {cs : List Ins} {a : Nat} {x e : Int} (h : cl (opc cs) a cs.length = .fin x e) : xe cs a = (x, e) := by unfold xe; rw [h]; rfl
/-- The pairs, round by round. -/
def mBs (cs : List Ins) (i : Nat) (m : List Int) : List Int :=
  if isOp (opc cs i) = true then
    (if 0 ≤ (xe cs i).1 then (((m.set i (xe cs i).2).set (xe cs i).2.toNat (i : Int)).set i (xe cs i).1).set (xe cs i).1.toNat (xe cs i).2 else (m.set i (xe cs i).2).set (xe cs i).2.toNat (i : Int))
  else m
def mB (cs : List Ins) : Nat → List Int
  | 0 => List.replicate cs.length (-1)
  | i + 1 => mBs cs i (mB cs i)
theorem mBs_len (cs : List Ins) (i : Nat) (m : List Int) : (mBs cs i m).length = m.length := by
  unfold mBs
  split
  · split <;> simp
  · rfl
theorem mB_len (cs : List Ins) (i : Nat) : (mB cs i).length = cs.length := by
  induction i with
  | zero => simp [mB]
  | succ i ih => rw [mB, mBs_len, ih]
theorem B_step (cs : List Ins) (hm : cs.length ≤ 4611686018427387904) (i : Nat) (hi : i < cs.length) (m : List Int) (hl : m.length = cs.length) (r : List Int × Int)
    (hok : (isOp (opc cs i) = true → 0 ≤ (xe cs i).2) → Ev (fun k => weighhouseref06_Match.l1 k cs (mBs cs i m) ((i + 1 : Nat) : Int)) r) (hno : isOp (opc cs i) = true → (xe cs i).2 < 0 → r = ([], 31)) :
    Ev (fun k => weighhouseref06_Match.l1 k cs m (i : Int)) r := by
  have hw : wrap64 ((i : Int) + 1) = ((i + 1 : Nat) : Int) := by rw [w64 (by omega) (by omega)]; rfl
  by_cases ho : opc cs i = 48 ∨ opc cs i = 51
  · have hop := isOp_iff.2 ho
    refine Ev.step (f := fun k => weighhouseref06_Match.j2 k cs m (i : Int) false) (fun k => ?_) ?_
    · simp only [weighhouseref06_Match.l1]
      rw [if_pos (by omega), if_pos (by omega), rdI cs i hi]
      rcases ho with h | h
      · rw [if_pos h]
      · rw [if_neg (by omega), h]
        rfl
    · by_cases he : (xe cs i).2 < 0
      · rw [hno hop he]
        refine Ev.step (f := fun k => (weighhouseref06_closes.f k cs (i : Int)).bind fun bt230 => (if bt230.2 < 0 then (some (([] : List Int), (31 : Int))) else (if 0 ≤ (i : Int) then (if (i : Int) < (m.length : Int) then (if 0 ≤ bt230.2 then (if bt230.2 < (m.length : Int) then ((some ((m.set (i : Int).toNat bt230.2).set (bt230.2 : Int).toNat (i : Int) : List Int)).bind fun y233 => (if bt230.1 ≥ 0 then (if 0 ≤ bt230.1 then (if bt230.1 < (m.length : Int) then (weighhouseref06_Match.l1 k cs ((y233.set (i : Int).toNat bt230.1).set (bt230.1 : Int).toNat bt230.2) (wrap64 ((i : Int) + 1))) else (none)) else (none)) else (weighhouseref06_Match.l1 k cs y233 (wrap64 ((i : Int) + 1))))) else (none)) else (none)) else (none)) else (none)))) (fun k => ?_) ?_
        · simp only [weighhouseref06_Match.j2]
          rw [if_neg (by decide)]
        · refine Ev.bind (closes_ev cs hm i hi) ?_
          exact Ev.congr (f := fun _ => some ([], 31)) (fun k => if_pos he) (Ev.now _)
      · obtain ⟨x, e, hc, hxe⟩ := xe_ok hi (by omega)
        obtain ⟨f1, f2, f3, f4⟩ := fin_facts hi hc
        have hmb : mBs cs i m = if 0 ≤ x then (((m.set i (e : Int)).set e (i : Int)).set i x).set x.toNat (e : Int) else (m.set i (e : Int)).set e (i : Int) := by
          unfold mBs
          rw [if_pos hop, hxe]
          simp only [Int.toNat_natCast]
        have h := hok (fun _ => by omega)
        rw [hmb] at h
        refine Ev.step (f := fun k => (weighhouseref06_closes.f k cs (i : Int)).bind fun bt230 => (if bt230.2 < 0 then (some (([] : List Int), (31 : Int))) else (if 0 ≤ (i : Int) then (if (i : Int) < (m.length : Int) then (if 0 ≤ bt230.2 then (if bt230.2 < (m.length : Int) then ((some ((m.set (i : Int).toNat bt230.2).set (bt230.2 : Int).toNat (i : Int) : List Int)).bind fun y233 => (if bt230.1 ≥ 0 then (if 0 ≤ bt230.1 then (if bt230.1 < (m.length : Int) then (weighhouseref06_Match.l1 k cs ((y233.set (i : Int).toNat bt230.1).set (bt230.1 : Int).toNat bt230.2) (wrap64 ((i : Int) + 1))) else (none)) else (none)) else (weighhouseref06_Match.l1 k cs y233 (wrap64 ((i : Int) + 1))))) else (none)) else (none)) else (none)) else (none)))) (fun k => ?_) ?_
        · simp only [weighhouseref06_Match.j2]
          rw [if_neg (by decide)]
        · refine Ev.bind (closes_ev cs hm i hi) ?_
          rw [hxe]
          by_cases hx : 0 ≤ x
          · rw [if_pos hx] at h
            refine Ev.congr (fun k => ?_) h
            dsimp only
            rw [if_neg (by omega), if_pos (by omega), if_pos (by omega), if_pos (by omega), if_pos (by omega), Option.bind_some, if_pos hx, if_pos hx, if_pos (by omega), hw, Int.toNat_natCast, Int.toNat_natCast]
          · rw [if_neg hx] at h
            refine Ev.congr (fun k => ?_) h
            dsimp only
            rw [if_neg (by omega), if_pos (by omega), if_pos (by omega), if_pos (by omega), if_pos (by omega), Option.bind_some, if_neg hx, hw, Int.toNat_natCast, Int.toNat_natCast]
  · have h := hok (fun hh => absurd (isOp_iff.1 hh) ho)
    unfold mBs at h
    rw [isOp_not ho, if_neg (by decide)] at h
    refine Ev.step (f := fun k => weighhouseref06_Match.j2 k cs m (i : Int) true) (fun k => ?_) ?_
    · simp only [weighhouseref06_Match.l1]
      rw [if_pos (by omega), if_pos (by omega), rdI cs i hi, if_neg (by omega), show (opc cs i != 51) = true by simp; omega]
    · refine Ev.step (fun k => ?_) h
      simp only [weighhouseref06_Match.j2]
      rw [if_true, hw]
theorem B_fail (cs : List Ins) (hm : cs.length ≤ 4611686018427387904) (q : Nat) : ∀ (i : Nat) (m : List Int), cs.length - i = q → i ≤ cs.length → m.length = cs.length → (∃ a, i ≤ a ∧ a < cs.length ∧ isOp (opc cs a) = true ∧ (xe cs a).2 < 0) →
    Ev (fun k => weighhouseref06_Match.l1 k cs m (i : Int)) ([], 31) := by
  induction q with
  | zero =>
    rintro i m hq hi hl ⟨a, h1, h2, _⟩
    omega
  | succ q ih =>
    rintro i m hq hi hl ⟨a, h1, h2, h3, h4⟩
    refine B_step cs hm i (by omega) m hl _ (fun hh => ?_) (fun _ _ => rfl)
    refine ih (i + 1) _ (by omega) (by omega) (by rw [mBs_len]; exact hl) ⟨a, ?_, h2, h3, h4⟩
    by_cases hai : a = i
    · rw [hai] at h3 h4
      have := hh h3
      omega
    · omega
theorem B_ok (cs : List Ins) (hm : cs.length ≤ 4611686018427387904) (r : List Int × Int) (hH : ∀ a, a < cs.length → isOp (opc cs a) = true → 0 ≤ (xe cs a).2) (hr : Ev (fun k => weighhouseref06_Match.l2 k cs (mB cs cs.length) ((0 : Nat) : Int)) r) (q : Nat) : ∀ (i : Nat), cs.length - i = q → i ≤ cs.length →
    Ev (fun k => weighhouseref06_Match.l1 k cs (mB cs i) (i : Int)) r := by
  induction q with
  | zero =>
    intro i hq hi
    have e : i = cs.length := by omega
    subst e
    refine Ev.step (fun k => ?_) hr
    simp only [weighhouseref06_Match.l1]
    rw [if_neg (by omega)]
    rfl
  | succ q ih =>
    intro i hq hi
    exact B_step cs hm i (by omega) _ (mB_len _ _) _ (fun _ => ih (i + 1) (by omega) (by omega)) (fun ho he => by have := hH i (by omega) ho; omega)
def bad (cs : List Ins) (m : List Int) (k : Nat) : Prop := (opc cs k = 49 ∨ opc cs k = 50) ∧ rd m (k : Int) < 0
theorem C_step (cs : List Ins) (hm : cs.length ≤ 4611686018427387904) (i : Nat) (hi : i < cs.length) (m : List Int) (hl : m.length = cs.length) (r : List Int × Int) (hok : ¬ bad cs m i → Ev (fun k => weighhouseref06_Match.l2 k cs m ((i + 1 : Nat) : Int)) r) (hno : bad cs m i → r = ([], 31)) :
    Ev (fun k => weighhouseref06_Match.l2 k cs m (i : Int)) r := by
  have hw : wrap64 ((i : Int) + 1) = ((i + 1 : Nat) : Int) := by rw [w64 (by omega) (by omega)]; rfl
  by_cases hb : bad cs m i
  · rw [hno hb]
    refine Ev.step (f := fun _ => some ([], 31)) (fun k => ?_) (Ev.now _)
    simp only [weighhouseref06_Match.l2]
    rw [if_pos (by omega), if_pos (by omega), rdI cs i hi]
    rcases hb.1 with h | h
    · rw [if_pos h, if_pos (by omega), if_pos hb.2]
    · rw [if_neg (by omega), if_pos h, if_pos (by omega), if_pos hb.2]
  · refine Ev.step (fun k => ?_) (hok hb)
    simp only [weighhouseref06_Match.l2]
    rw [if_pos (by omega), if_pos (by omega), rdI cs i hi, hw]
    by_cases h9 : opc cs i = 49
    · rw [if_pos h9, if_pos (by omega), if_neg (fun h => hb ⟨.inl h9, h⟩)]
    · rw [if_neg h9]
      by_cases h0 : opc cs i = 50
      · rw [if_pos h0, if_pos (by omega), if_neg (fun h => hb ⟨.inr h0, h⟩)]
      · rw [if_neg h0]
theorem C_fail (cs : List Ins) (hm : cs.length ≤ 4611686018427387904) (m : List Int) (hl : m.length = cs.length) (q : Nat) : ∀ i, cs.length - i = q → i ≤ cs.length → (∃ k, i ≤ k ∧ k < cs.length ∧ bad cs m k) → Ev (fun k => weighhouseref06_Match.l2 k cs m (i : Int)) ([], 31) := by
  induction q with
  | zero =>
    rintro i hq hi ⟨a, h1, h2, _⟩
    omega
  | succ q ih =>
    rintro i hq hi ⟨a, h1, h2, h3⟩
    refine C_step cs hm i (by omega) m hl _ (fun hh => ?_) (fun _ => rfl)
    refine ih (i + 1) (by omega) (by omega) ⟨a, ?_, h2, h3⟩
    by_cases hai : a = i
    · rw [hai] at h3
      exact absurd h3 hh
    · omega
theorem C_ok (cs : List Ins) (hm : cs.length ≤ 4611686018427387904) (m : List Int) (hl : m.length = cs.length) (r : List Int × Int) (hH : ∀ k, k < cs.length → ¬ bad cs m k) (hr : Ev (fun k => weighhouseref06_Match.l3 k cs m ((0 : Nat) : Int)) r) (q : Nat) : ∀ i, cs.length - i = q → i ≤ cs.length → Ev (fun k => weighhouseref06_Match.l2 k cs m (i : Int)) r := by
  induction q with
  | zero =>
    intro i hq hi
    have e : i = cs.length := by omega
    subst e
    refine Ev.step (fun k => ?_) hr
    simp only [weighhouseref06_Match.l2]
    rw [if_neg (by omega)]
    rfl
  | succ q ih =>
    intro i hq hi
    exact C_step cs hm i (by omega) m hl _ (fun _ => ih (i + 1) (by omega) (by omega)) (fun hb => absurd hb (hH i (by omega)))
theorem A_ok (cs : List Ins) (hm : cs.length ≤ 4611686018427387904) (r : List Int × Int) (hr : Ev (fun k => weighhouseref06_Match.l1 k cs (List.replicate cs.length (-1)) ((0 : Nat) : Int)) r) (q : Nat) : ∀ (i : Nat), cs.length - i = q → i ≤ cs.length →
    Ev (fun k => weighhouseref06_Match.l0 k cs (List.replicate i (-1) ++ List.replicate (cs.length - i) 0) (i : Int)) r := by
  induction q with
  | zero =>
    intro i hq hi
    have e : i = cs.length := by omega
    subst e
    refine Ev.step (fun k => ?_) hr
    simp only [weighhouseref06_Match.l0]
    rw [if_neg (by omega)]
    simp
  | succ q ih =>
    intro i hq hi
    refine Ev.step (fun k => ?_) (ih (i + 1) (by omega) (by omega))
    simp only [weighhouseref06_Match.l0]
    rw [if_pos (by omega), if_pos (by omega), if_pos (by simp; omega), w64 (by omega) (by omega), Int.toNat_natCast]
    congr 1
    rw [List.set_append_right _ _ (by simp), List.length_replicate, Nat.sub_self, show cs.length - i = (cs.length - (i + 1)) + 1 by omega, List.replicate_succ, List.set_cons_zero, List.replicate_succ' (n := i), List.append_assoc]
    rfl
end Go.Proofs.Ytbdmbkmokhaflaa.Th
end
