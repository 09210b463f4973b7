/- texts of one claim, merged: each in a section of its own -/
import Derived.Test.YtjkimfjhfncldaaMWireBack3
section
-- written by hprint.py (a program of these sessions) out of the translation; Lean checks it
namespace Go.Proofs.Ytjkimfjhfncldaa.Q
open Go.RowKit Go.Proofs.YtjkimfjhfncldaaW.Hb Go.Proofs.YtjkimfjhfncldaaW.PrintWords Go.Proofs.YtjkimfjhfncldaaW.PrintLast Go.Proofs.YtjkimfjhfncldaaW.PrintMore
attribute [local go_sem] max2_int min2_int max_two min_two max_three min_three max_four min_four   -- for this text's walks alone
set_option linter.unusedVariables false
set_option linter.unusedSimpArgs false

/-! ### wire_Frame: function 13, by hand -/
def wire_Frame.f (k : Nat) (l0 : List Int) : Option (List Int × Int) := if 1048576 < (l0.length : Int) then some ([], 6) else (wire_Sum.f k (bigL (l0.length : Int) 4 ++ l0)).bind fun c => (wire_little.f k c).bind fun lc => if lc.length ≤ 8 then some (bigL (l0.length : Int) 4 ++ (lc ++ l0), 0) else none
theorem wire_Frame.mono : ∀ a0 k, LeO (wire_Frame.f k a0) (wire_Frame.f (k + 1) a0) := by
  intro a0 k
  unfold wire_Frame.f
  exact LeO.ite (LeO.refl _) (LeO.bind (wire_Sum.mono _ _) (fun _ => LeO.bind (wire_little.mono _ _) (fun _ => LeO.refl _)))
theorem Reps_three {α : Type} {R : α → List Value → Prop} {size : Nat} {p q r : α} {c e f : List Value} (h : R p c) (hc : c.length = size) (h' : R q e) (he : e.length = size) (h'' : R r f) (hf : f.length = size) : Reps R size [p, q, r] (c ++ e ++ f) := by
  have := Reps.snoc (Reps_two h hc h' he) h'' hf
  simpa using this
theorem C_lit_three {α : Type} (d : Kd α) (W : World) (e t : TypeId) (A1 A2 A3 : Option Addr) (n1 n2 n3 c1 c2 c3 : Nat) (x1 x2 x3 : List α) (hn1 : x1.length = n1) (hn2 : x2.length = n2) (hn3 : x3.length = n3) (h1 : d.C W A1 x1.length x1) (h2 : d.C W A2 x2.length x2) (h3 : d.C W A3 x3.length x3) (hc1 : n1 ≤ c1) (hc2 : n2 ≤ c2) (hc3 : n3 ≤ c3) :
    (Kd.slice e d).C (W.alloc (.cells #[.slice A1 n1 c1, .slice A2 n2 c2, .slice A3 n3 c3] t)) (some ⟨W.heap.size, 0, none⟩) [x1, x2, x3].length [x1, x2, x3] := by
  subst hn1 hn2 hn3
  refine C_of_reps (d := Kd.slice e d) (Blk.new W t _) [x1, x2, x3] (Reps_three (c := [.slice A1 x1.length c1]) (e := [.slice A2 x2.length c2]) (f := [.slice A3 x3.length c3]) ⟨A1, c1, rfl, hc1, Kd.C_alloc h1 _⟩ rfl ⟨A2, c2, rfl, hc2, Kd.C_alloc h2 _⟩ rfl ⟨A3, c3, rfl, hc3, Kd.C_alloc h3 _⟩ rfl) (by simp)
theorem bigL_len (n : Int) (m : Nat) : (bigL n m).length = m := by simp [bigL]
set_option maxRecDepth 100000 in
set_option maxHeartbeats 1000000 in
theorem wire_Frame.calls (k : Nat) (A0 : Option Addr) (c0 : Nat) (l0 : List Int) (r1 : List Int) (r2 : Int) (w : World) (hr0 : Kd.C (Kd.int .u8) w A0 l0.length l0) (hc0 : l0.length ≤ c0) (h : wire_Frame.f k l0 = some (r1, r2)) :
    Calls Try.prog 13 #[.slice A0 l0.length c0] w fun e w' => ∃ v0_ : Value, e = .returned (.tuple #[v0_, .int .i64 r2]) ∧ Kd.R (Kd.int .u8) 5 w' w.heap.size (fun _ => True) v0_ r1 ∧ Below w.heap.size w w' := by
  have hm : l0.length ≤ 9223372036854775807 := hr0.2.1
  have HR := Aside0.mk hr0
  clear hr0
  unfold wire_Frame.f at h
  by_cases h1 : 1048576 < (l0.length : Int)
  · rw [if_pos h1] at h
    cases h
    go_enter Try.func13, Try.ntmps13
    go_wp2
    go_ret2
    exact ⟨_, rfl, Kd.R_nil _ _ _ _ _, Below.refl _ _⟩
  · rw [if_neg h1] at h
    obtain ⟨c, hs, h⟩ := Option.bind_eq_some_iff.1 h
    obtain ⟨lc, hl, h⟩ := Option.bind_eq_some_iff.1 h
    have hlc : lc.length ≤ 8 := by
      split at h
      · assumption
      · cases h
    rw [if_pos hlc] at h
    cases h
    have HSM := Aside0.mk hs
    have HLT := Aside0.mk hl
    have h2 : (l0.length : Int) ≤ u64top := by unfold u64top; omega
    have HBG := Aside0.mk (wire_big.walkI (l0.length : Int) 4 4 rfl w (by omega) (by omega) h2)
    clear hs hl h2
    obtain ⟨sz, hsz⟩ : ∃ sz, sz = bigL (l0.length : Int) 4 := ⟨_, rfl⟩
    have hsl : sz.length = 4 := by rw [hsz, bigL_len]
    rw [← hsz]
    rw [← hsz] at HBG HSM
    clear hsz
    have hsl' : sz.length ≤ 4 := by omega
    have HSL := Aside0.mk hsl
    clear hsl
    go_enter Try.func13, Try.ntmps13
    go_wp2_with (first | (go_at_call 43; (with_reducible refine HBG.out.mono ?_); rintro e w1 ⟨v1, rfl, hR1, hB1⟩; obtain ⟨A1, c1, rfl, hc1, hC1⟩ := Kd.R_reads hR1; have HR1 := Aside0.mk hR1; have HC1 := Aside0.mk hC1; have HB1 := Aside0.mk hB1; clear hR1 hC1 hB1))
    have HL2 := Aside0.mk (C_lit_two (Kd.int .u8) w1 w1.heap.size rfl 5 22 A1 A0 sz.length l0.length c1 c0 sz l0 rfl rfl HC1.out (Kd.C_below HR.out HB1.out) hc1 hc0)
    refine (slices_Concat_byte_byte.walk (some ⟨w1.heap.size, 0, none⟩) 2 2 [sz, l0] (w1.alloc (.cells #[.slice A1 sz.length c1, .slice A0 l0.length c0] 22)) rfl HL2.out (Nat.le_refl 2) (by simp; omega)).mono ?_
    rintro e w2 ⟨v2, rfl, hR2, hB2⟩
    have e2 : ([sz, l0] : List (List Int)).flatten = sz ++ l0 := by simp
    obtain ⟨L, hL⟩ : ∃ L, L = sz ++ l0 := ⟨_, rfl⟩
    rw [e2, ← hL] at hR2
    rw [← hL] at HSM
    clear e2 hL
    obtain ⟨A2, c2, rfl, hc2, hC2⟩ := Kd.R_reads hR2
    have HC2 := Aside0.mk hC2
    have HB2 := Aside0.mk (HB1.out.trans (((Below.refl w1.heap.size w1).alloc (Nat.le_refl _) _).trans (hB2.mono (by simp)) |>.mono HB1.out.size))
    have HK2 := Aside0.mk (((Below.refl w1.heap.size w1).alloc (Nat.le_refl _) _).trans (hB2.mono (by simp)))
    clear hR2 hC2 hB2 HL2
    go_wp2_with (go_at_call 15; (with_reducible refine (wire_Sum.calls k A2 c2 L c _ HC2.out hc2 HSM.out).mono ?_); rintro e w3 ⟨rfl, hd3⟩; have HB3 := Aside0.mk hd3.below; clear hd3)
    refine (wire_little.calls k c lc w3 HLT.out).mono ?_
    rintro e w4 ⟨v4, rfl, hR4, hB4⟩
    obtain ⟨A4, c4, rfl, hc4, hC4⟩ := Kd.R_reads hR4
    have HC4 := Aside0.mk hC4
    have HB4 := Aside0.mk hB4
    clear hR4 hC4 hB4
    go_wp2_with (fail)
    have HK4 := Aside0.mk ((HK2.out.trans (HB3.out.mono HK2.out.size)).trans (HB4.out.mono (Nat.le_trans HK2.out.size HB3.out.size)))
    have HL3 := Aside0.mk (C_lit_three (Kd.int .u8) w4 5 22 A1 A4 A0 sz.length lc.length l0.length c1 c4 c0 sz lc l0 rfl rfl rfl (Kd.C_below HC1.out HK4.out) HC4.out (Kd.C_below HR.out (HB1.out.trans (HK4.out.mono HB1.out.size))) hc1 hc4 hc0)
    refine (slices_Concat_byte_byte.walk (some ⟨w4.heap.size, 0, none⟩) 3 3 [sz, lc, l0] (w4.alloc (.cells #[.slice A1 sz.length c1, .slice A4 lc.length c4, .slice A0 l0.length c0] 22)) rfl HL3.out (Nat.le_refl 3) (by simp; omega)).mono ?_
    rintro e w5 ⟨v5, rfl, hR5, hB5⟩
    have e5 : ([sz, lc, l0] : List (List Int)).flatten = sz ++ (lc ++ l0) := by simp
    rw [e5] at hR5
    have hW4 := HB1.out.trans (HK4.out.mono HB1.out.size)
    have HR5 := Aside0.mk (Kd.R_lower hR5 (show w.heap.size ≤ _ by have := hW4.size; simp; omega))
    have HB5 := Aside0.mk ((hW4.alloc hW4.size _).trans (hB5.mono (by have := hW4.size; simp; omega)))
    clear hR5 hB5 e5 hW4 HL3
    go_wp2
    go_ret2
    exact ⟨_, rfl, HR5.out, HB5.out⟩



end Go.Proofs.Ytjkimfjhfncldaa.Q
end

section
-- written by hprint.py (a program of these sessions) out of the translation; Lean checks it
namespace Go.Proofs.Ytjkimfjhfncldaa.Q
open Go.RowKit Go.Proofs.YtjkimfjhfncldaaW.Hb Go.Proofs.YtjkimfjhfncldaaW.PrintWords Go.Proofs.YtjkimfjhfncldaaW.PrintLast Go.Proofs.YtjkimfjhfncldaaW.PrintMore
attribute [local go_sem] max2_int min2_int max_two min_two max_three min_three max_four min_four   -- for this text's walks alone
set_option linter.unusedVariables false
set_option linter.unusedSimpArgs false

/-! ### slices_Equal_byte_byte: function 49 -/
def slices_Equal_byte_byte.l0 : Nat → List Int → List Int → Int → Int → Option (Bool)
  | 0, _, _, _, _ => none
  | k + 1, x0, x1, x12, x13 => if x13 < x12 then (if 0 ≤ x13 then (if x13 < (x0.length : Int) then (if x13 < (x1.length : Int) then (if (rd x0 x13) = (rd x1 x13) then (slices_Equal_byte_byte.l0 k x0 x1 x12 (wrap64 (x13 + 1))) else (some false)) else (none)) else (none)) else (none)) else (some true)
def slices_Equal_byte_byte.f (k : Nat) (l0 : List Int) (l1 : List Int) : Option (Bool) := if (l0.length : Int) = (l1.length : Int) then (slices_Equal_byte_byte.l0 k l0 l1 (l0.length : Int) 0) else (some false)
theorem slices_Equal_byte_byte.mono_l : ∀ k, (∀ y0 y1 y2 y3, LeO (slices_Equal_byte_byte.l0 k y0 y1 y2 y3) (slices_Equal_byte_byte.l0 (k + 1) y0 y1 y2 y3))
  | 0 => fun _ _ _ _ r h => by simp [slices_Equal_byte_byte.l0] at h
  | k + 1 => by
    have ih0 := slices_Equal_byte_byte.mono_l k
    · intro y0 y1 y2 y3
      unfold slices_Equal_byte_byte.l0
      repeat' first
      | (with_reducible exact ih0 _ _ _ _)
      | (with_reducible exact LeO.refl _)
      | (with_reducible exact LeO.none _)
      | (with_reducible refine LeO.ite ?_ ?_)
      | (with_reducible refine LeO.bind ?_ (fun _ => ?_))
      | exact ih0 _ _ _ _
      | exact LeO.none _
      | refine LeO.ite ?_ ?_
      | refine LeO.bind ?_ (fun _ => ?_)
theorem slices_Equal_byte_byte.mono : ∀ a0 a1 k, LeO (slices_Equal_byte_byte.f k a0 a1) (slices_Equal_byte_byte.f (k + 1) a0 a1) := by
  intro a0 a1 k
  have ih0 := slices_Equal_byte_byte.mono_l k
  unfold slices_Equal_byte_byte.f
  repeat' first
      | (with_reducible exact ih0 _ _ _ _)
      | (with_reducible exact LeO.refl _)
      | (with_reducible exact LeO.none _)
      | (with_reducible refine LeO.ite ?_ ?_)
      | (with_reducible refine LeO.bind ?_ (fun _ => ?_))
      | exact ih0 _ _ _ _
      | exact LeO.none _
      | refine LeO.ite ?_ ?_
      | refine LeO.bind ?_ (fun _ => ?_)
set_option maxHeartbeats 8000000 in
set_option maxRecDepth 100000 in
theorem slices_Equal_byte_byte.calls (k : Nat) (A0 : Option Addr) (c0 : Nat) (l0 : List Int) (A1 : Option Addr) (c1 : Nat) (l1 : List Int) (r : Bool) (w : World) (hr0 : Kd.C (Kd.int .u8) w A0 l0.length l0) (hc0 : l0.length ≤ c0) (hr1 : Kd.C (Kd.int .u8) w A1 l1.length l1) (hc1 : l1.length ≤ c1) (h : slices_Equal_byte_byte.f k l0 l1 = some r) :
    Calls Try.prog 49 #[.slice A0 l0.length c0, .slice A1 l1.length c1] w fun e w' => e = .returned (.bool r) ∧ Drawn0 w w' := by
  have HR0 := Aside0.mk hr0
  have HC0 := Aside0.mk hc0
  clear hr0 hc0
  have HR1 := Aside0.mk hr1
  have HC1 := Aside0.mk hc1
  clear hr1 hc1
  have H : (if (l0.length : Int) = (l1.length : Int) then (slices_Equal_byte_byte.l0 k l0 l1 (l0.length : Int) 0) else (some false)) = some r := h
  clear h
  by_cases c3 : (l0.length : Int) = (l1.length : Int)
  · rw [if_pos c3] at H
    have c3b0 : ((l0.length : Int) == (l1.length : Int)) = true := beq_iff_eq.mpr c3
    have c3b1 : ((l0.length : Int) != (l1.length : Int)) = false := bne_eq_false_iff_eq.mpr c3
    have c3b2 : (l0.length == l1.length) = true := by first | simpa using c3 | (simp at c3 ⊢; omega)
    clear c3
    have H' := Aside0.mk H
    clear H
    go_enter Try.func49, Try.ntmps49
    go_wp2
    repeat (go_quiet (fail); try go_wp2)
    go_loopg [13] k (fun kq v13 w' => ∃ (x13_1 : Int), v13 = .int .i64 x13_1 ∧ Aside0 (slices_Equal_byte_byte.l0 kq l0 l1 (l0.length : Int) x13_1 = some r) ∧ Aside0 (kq ≤ k) ∧ Drawn0 w w')
    case atStart => exact ⟨(0), (by first | rfl | (simp; done) | (simp [*]; done)), H', ⟨Nat.le_refl _⟩, by repeat (first | exact Drawn0.refl _ | apply Drawn0.step)⟩
    case round =>
      clear H'
      try clear c1
      try clear p2
      try clear c3
      try clear c3b0
      try clear c3b1
      try clear c3b2
      obtain ⟨x13_1, rfl, HA, HK1, ⟨m1, rfl⟩⟩ := hrel
      cases gk with
      | zero => exact absurd HA.out (by simp [slices_Equal_byte_byte.l0])
      | succ k1 =>
        have H := HA.out
        clear HA
        simp only [slices_Equal_byte_byte.l0] at H
        by_cases c4 : x13_1 < (l0.length : Int)
        · rw [if_pos c4] at H
          have c4b0 : decide (x13_1 < (l0.length : Int)) = true := decide_eq_true c4
          clear c4
          by_cases c5 : 0 ≤ x13_1
          · rw [if_pos c5] at H
            have c5b0 : decide (0 ≤ x13_1) = true := decide_eq_true c5
            clear c5
            by_cases c6 : x13_1 < (l0.length : Int)
            · rw [if_pos c6] at H
              have c6b0 : decide (x13_1 < (l0.length : Int)) = true := decide_eq_true c6
              clear c6
              by_cases c7 : x13_1 < (l1.length : Int)
              · rw [if_pos c7] at H
                have c7b0 : decide (x13_1 < (l1.length : Int)) = true := decide_eq_true c7
                clear c7
                by_cases c8 : (rd l0 x13_1) = (rd l1 x13_1)
                · rw [if_pos c8] at H
                  have c8b0 : ((rd l0 x13_1) == (rd l1 x13_1)) = true := beq_iff_eq.mpr c8
                  have c8b1 : ((rd l0 x13_1) != (rd l1 x13_1)) = false := bne_eq_false_iff_eq.mpr c8
                  clear c8
                  have H' := Aside0.mk H
                  clear H
                  have p154 : 0 ≤ (x13_1 : Int) := of_decide_eq_true (by first | (with_reducible assumption) | assumption)
                  have q154 : x13_1 < (l0.length : Int) := of_decide_eq_true (by first | (with_reducible assumption) | assumption)
                  obtain ⟨ad154, e154, hx154_0⟩ := Kd.at_int HR0.out x13_1 p154 q154
                  cases e154
                  replace p154 := eq_true p154
                  replace q154 := eq_true q154
                  have p155 : 0 ≤ (x13_1 : Int) := of_decide_eq_true (by first | (with_reducible assumption) | assumption)
                  have q155 : x13_1 < (l1.length : Int) := of_decide_eq_true (by first | (with_reducible assumption) | assumption)
                  obtain ⟨ad155, e155, hx155_0⟩ := Kd.at_int HR1.out x13_1 p155 q155
                  cases e155
                  replace p155 := eq_true p155
                  replace q155 := eq_true q155
                  go_wp2
                  repeat (go_quiet (fail); try go_wp2)
                  go_roundg k1
                  case measure => have := HK1.out; omega
                  case rel => exact ⟨(wrap64 (x13_1 + 1)), (by first | rfl | (simp; done) | (simp [*]; done)), H', ⟨by have := HK1.out; omega⟩, by repeat (first | exact Drawn0.refl _ | apply Drawn0.step)⟩
                · rw [if_neg c8] at H
                  have c8b0 : ((rd l0 x13_1) == (rd l1 x13_1)) = false := beq_eq_false_iff_ne.mpr c8
                  have c8b1 : ((rd l0 x13_1) != (rd l1 x13_1)) = true := bne_iff_ne.mpr c8
                  obtain rfl := Option.some.inj H
                  have p154 : 0 ≤ (x13_1 : Int) := of_decide_eq_true (by first | (with_reducible assumption) | assumption)
                  have q154 : x13_1 < (l0.length : Int) := of_decide_eq_true (by first | (with_reducible assumption) | assumption)
                  obtain ⟨ad154, e154, hx154_0⟩ := Kd.at_int HR0.out x13_1 p154 q154
                  cases e154
                  replace p154 := eq_true p154
                  replace q154 := eq_true q154
                  have p155 : 0 ≤ (x13_1 : Int) := of_decide_eq_true (by first | (with_reducible assumption) | assumption)
                  have q155 : x13_1 < (l1.length : Int) := of_decide_eq_true (by first | (with_reducible assumption) | assumption)
                  obtain ⟨ad155, e155, hx155_0⟩ := Kd.at_int HR1.out x13_1 p155 q155
                  cases e155
                  replace p155 := eq_true p155
                  replace q155 := eq_true q155
                  go_wp2
                  repeat (go_quiet (fail); try go_wp2)
                  go_ret
                  exact ⟨by first | rfl | (simp; done) | (simp [*]; done), by repeat (first | exact Drawn0.refl _ | apply Drawn0.step)⟩
              · rw [if_neg c7] at H
                exact absurd H (by simp)
            · rw [if_neg c6] at H
              exact absurd H (by simp)
          · rw [if_neg c5] at H
            exact absurd H (by simp)
        · rw [if_neg c4] at H
          have c4b0 : decide (x13_1 < (l0.length : Int)) = false := decide_eq_false c4
          clear c4
          obtain rfl := Option.some.inj H
          go_wp2
          repeat (go_quiet (fail); try go_wp2)
          go_ret
          exact ⟨by first | rfl | (simp; done) | (simp [*]; done), by repeat (first | exact Drawn0.refl _ | apply Drawn0.step)⟩
  · rw [if_neg c3] at H
    have c3b0 : ((l0.length : Int) == (l1.length : Int)) = false := beq_eq_false_iff_ne.mpr c3
    have c3b1 : ((l0.length : Int) != (l1.length : Int)) = true := bne_iff_ne.mpr c3
    have c3b2 : (l0.length == l1.length) = false := by first | simpa using c3 | (simp at c3 ⊢; omega)
    obtain rfl := Option.some.inj H
    go_enter Try.func49, Try.ntmps49
    go_wp2
    repeat (go_quiet (fail); try go_wp2)
    go_ret
    exact ⟨by first | rfl | (simp; done) | (simp [*]; done), by repeat (first | exact Drawn0.refl _ | apply Drawn0.step)⟩

end Go.Proofs.Ytjkimfjhfncldaa.Q
end

section
-- written by hprint.py (a program of these sessions) out of the translation; Lean checks it
namespace Go.Proofs.Ytjkimfjhfncldaa.Q
open Go.RowKit Go.Proofs.YtjkimfjhfncldaaW.Hb Go.Proofs.YtjkimfjhfncldaaW.PrintWords Go.Proofs.YtjkimfjhfncldaaW.PrintLast Go.Proofs.YtjkimfjhfncldaaW.PrintMore
attribute [local go_sem] max2_int min2_int max_two min_two max_three min_three max_four min_four   -- for this text's walks alone
set_option linter.unusedVariables false
set_option linter.unusedSimpArgs false

/-! ### wire_Frames: function 20, by hand -/
theorem cut_ex {P : Program} (t e : TypeId) {i : TypeInfo} (ht : P.underlying t = some (.slice e)) (hi : P.info? e = some i) (hsz : i.size = 1) (A : Option Addr) (c : Nat) (xs : List Int) (lo hi' : Int) (h0 : 0 ≤ lo) (h1 : lo ≤ hi') (h2 : hi' ≤ xs.length) (hc : xs.length ≤ c) (ys : List Int) (hys : ys = (xs.take hi'.toNat).drop lo.toNat) :
    ∃ A' c', (∀ W : World, (Instr.slice t (.slice A xs.length c) (some (.int .i64 lo)) (some (.int .i64 hi')) none).run P W = .ok (.slice A' ys.length c') W) ∧ ys.length ≤ c' ∧ ∀ (w : World) (k : IntKind), (Kd.int k).C w A xs.length xs → (Kd.int k).C w A' ys.length ys := by
  subst hys
  have hl : ((xs.take hi'.toNat).drop lo.toNat).length = hi'.toNat - lo.toNat := by simp; omega
  refine ⟨(if c = lo.toNat then A else A.map (·.add (lo.toNat * 1))), c - lo.toNat, fun W => ?_, by rw [hl]; omega, fun w k h => ?_⟩
  · rw [hl]
    exact cut_mid t e .i64 .i64 ht hi 1 hsz A xs.length c lo hi' h0 h1 h2 hc W
  · exact Kd.C_mid h (by omega) (by omega) hc
theorem cut_ex_from {P : Program} (t e : TypeId) {i : TypeInfo} (ht : P.underlying t = some (.slice e)) (hi : P.info? e = some i) (hsz : i.size = 1) (A : Option Addr) (c : Nat) (xs : List Int) (lo : Int) (h0 : 0 ≤ lo) (h1 : lo ≤ xs.length) (hc : xs.length ≤ c) (ys : List Int) (hys : ys = xs.drop lo.toNat) :
    ∃ A' c', (∀ W : World, (Instr.slice t (.slice A xs.length c) (some (.int .i64 lo)) none none).run P W = .ok (.slice A' ys.length c') W) ∧ ys.length ≤ c' ∧ ∀ (w : World) (k : IntKind), (Kd.int k).C w A xs.length xs → (Kd.int k).C w A' ys.length ys := by
  subst hys
  have hl : (xs.drop lo.toNat).length = xs.length - lo.toNat := by simp
  refine ⟨(if c = lo.toNat then A else A.map (·.add (lo.toNat * 1))), c - lo.toNat, fun W => ?_, by rw [hl]; omega, fun w k h => ?_⟩
  · rw [hl]
    exact cut_from t e .i64 ht hi 1 hsz A xs.length c lo h0 h1 W
  · exact Kd.C_drop h (by omega) hc
theorem cut_ex_to {P : Program} (t e : TypeId) {i : TypeInfo} (ht : P.underlying t = some (.slice e)) (hi : P.info? e = some i) (A : Option Addr) (c : Nat) (xs : List Int) (hi' : Int) (h0 : 0 ≤ hi') (h1 : hi' ≤ xs.length) (hc : xs.length ≤ c) (ys : List Int) (hys : ys = xs.take hi'.toNat) :
    (∀ W : World, (Instr.slice t (.slice A xs.length c) none (some (.int .i64 hi')) none).run P W = .ok (.slice A ys.length c) W) ∧ ys.length ≤ c ∧ ∀ (w : World) (k : IntKind), (Kd.int k).C w A xs.length xs → (Kd.int k).C w A ys.length ys := by
  subst hys
  have hl : (xs.take hi'.toNat).length = hi'.toNat := by simp; omega
  refine ⟨fun W => ?_, by rw [hl]; omega, fun w k h => Kd.C_take h (by omega)⟩
  rw [hl]
  exact cut_to t e .i64 ht hi A xs.length c hi' h0 h1 hc W
def wire_Frames.l0 : Nat → List Int → List (List Int) → Nat → Option (List (List Int) × Int)
  | 0, _, _, _ => none
  | k + 1, b, l, e => if b.length < e then none else if (b.drop e).length < 8 then some (l, (e : Int)) else (wire_number.f k ((b.drop e).take 4)).bind fun m => if 1048576 < wrap64 m then some (l, (e : Int)) else if ((b.drop e).length : Int) - 8 < wrap64 m then some (l, (e : Int)) else if wrap64 m < 0 then none else (wire_Sum.f k ((b.drop e).take 4 ++ (((b.drop e).take (8 + wrap64 m).toNat).drop 8))).bind fun c => (wire_little.f k c).bind fun lc => (slices_Equal_byte_byte.f k lc (((b.drop e).take 8).drop 4)).bind fun q => if q = true then (if (l.length + 1) * 24 ≤ 140737488355328 then wire_Frames.l0 k b (l ++ [((b.drop e).take (8 + wrap64 m).toNat).drop 8]) (e + 8 + (wrap64 m).toNat) else none) else some (l, (e : Int))
def wire_Frames.f (k : Nat) (b : List Int) : Option (List (List Int) × Int) := wire_Frames.l0 k b [] 0
theorem wire_Frames.mono_l : ∀ k b l e, LeO (wire_Frames.l0 k b l e) (wire_Frames.l0 (k + 1) b l e)
  | 0, _, _, _ => fun r h => by simp [wire_Frames.l0] at h
  | k + 1, b, l, e => by
    have ih := wire_Frames.mono_l k
    rw [wire_Frames.l0, wire_Frames.l0]
    exact LeO.ite (LeO.none _) (LeO.ite (LeO.refl _) (LeO.bind (wire_number.mono _ _) (fun _ => LeO.ite (LeO.refl _) (LeO.ite (LeO.refl _) (LeO.ite (LeO.none _) (LeO.bind (wire_Sum.mono _ _) (fun _ => LeO.bind (wire_little.mono _ _) (fun _ => LeO.bind (slices_Equal_byte_byte.mono _ _ _) (fun _ => LeO.ite (LeO.ite (ih _ _ _) (LeO.none _)) (LeO.refl _))))))))))
theorem wire_Frames.mono : ∀ a0 k, LeO (wire_Frames.f k a0) (wire_Frames.f (k + 1) a0) := fun a0 k => wire_Frames.mono_l k a0 [] 0
set_option maxRecDepth 100000 in
set_option maxHeartbeats 2000000 in
theorem wire_Frames.calls (k : Nat) (A0 : Option Addr) (c0 : Nat) (l0 : List Int) (r1 : List (List Int)) (r2 : Int) (w : World) (hr0 : Kd.C (Kd.int .u8) w A0 l0.length l0) (hc0 : l0.length ≤ c0) (h : wire_Frames.f k l0 = some (r1, r2)) :
    Calls Try.prog 20 #[.slice A0 l0.length c0] w fun e w' => ∃ v0_ : Value, e = .returned (.tuple #[v0_, .int .i64 r2]) ∧ Kd.S (Kd.slice 5 (Kd.int .u8)) 22 w' w.heap.size (fun _ => True) v0_ r1 ∧ Below w.heap.size w w' := by
  have hm : l0.length ≤ 9223372036854775807 := hr0.2.1
  have HR := Aside0.mk hr0
  have H := Aside0.mk h
  clear hr0 h
  obtain ⟨ii, hii, his⟩ : ∃ ii, Try.prog.info? 5 = some ii ∧ ii.size = 1 := by
    obtain ⟨ii, h1, h2⟩ := Option.map_eq_some_iff.1 info5
    exact ⟨ii, h1, congrArg (fun p => p.2.1) h2⟩
  go_enter Try.func20, Try.ntmps20
  go_wp2
  go_loopg [2, 3] k (fun kq v2 v3 wr => ∃ (l : List (List Int)) (e : Nat), v3 = .int .i64 e ∧ Aside0 (wire_Frames.l0 kq l0 l e = some (r1, r2)) ∧ Aside0 (kq ≤ k) ∧ Aside0 (Kd.S (Kd.slice 5 (Kd.int .u8)) 22 wr w.heap.size (fun _ => True) v2 l) ∧ Aside0 (Below w.heap.size w wr))
  case atStart => exact ⟨[], 0, rfl, H, ⟨Nat.le_refl _⟩, ⟨Kd.S_nil _ _ _ _ _⟩, ⟨Below.refl _ _⟩⟩
  case round =>
    clear H
    obtain ⟨l, e, rfl, HA, HK, HO, HB⟩ := hrel
    cases gk with
    | zero => exact absurd HA.out (by simp [wire_Frames.l0])
    | succ k1 =>
      have H := HA.out
      clear HA
      rw [wire_Frames.l0] at H
      by_cases hlt : l0.length < e
      · rw [if_pos hlt] at H
        cases H
      rw [if_neg hlt] at H
      have he : e ≤ l0.length := by omega
      clear hlt
      obtain ⟨b, hb⟩ : ∃ b, b = l0.drop e := ⟨_, rfl⟩
      rw [← hb] at H
      obtain ⟨A1, c1, hq1, hc1, hC1⟩ := cut_ex_from (P := Try.prog) 22 5 Try.underlying22 hii his A0 c0 l0 (e : Int) (by omega) (by omega) hc0 b (by rw [hb]; rfl)
      have hbl : b.length = l0.length - e := by rw [hb]; simp
      have HC1 := Aside0.mk (hC1 w .u8 HR.out)
      have HBL := Aside0.mk hbl
      clear hC1 hb hbl
      by_cases h8 : b.length < 8
      · rw [if_pos h8] at H
        cases H
        have h8b : decide ((b.length : Int) < 8) = true := decide_eq_true (by omega)
        go_wp2
        go_ret2
        exact ⟨_, rfl, HO.out, HB.out⟩
      · rw [if_neg h8] at H
        have h8' : 8 ≤ b.length := by omega
        clear h8
        have h8b : decide ((b.length : Int) < 8) = false := decide_eq_false (by omega)
        have hbm : b.length ≤ 9223372036854775807 := by have := HBL.out; omega
        obtain ⟨m, hn, H⟩ := Option.bind_eq_some_iff.1 H
        have HN := Aside0.mk hn
        clear hn
        obtain ⟨q, hq⟩ : ∃ q, q = b.take 4 := ⟨_, rfl⟩
        rw [← hq] at H HN
        obtain ⟨hq2, hc2, hC2⟩ := cut_ex_to (P := Try.prog) 22 5 Try.underlying22 hii A1 c1 b 4 (by omega) (by omega) hc1 q hq
        have HC2 := Aside0.mk (hC2 w .u8 HC1.out)
        have HQ := Aside0.mk hq
        have hql : q.length ≤ 4 := by rw [hq]; simp; omega
        clear hC2 hq
        have H' := Aside0.mk H
        clear H
        go_upto_region 5 with (go_at_call 47; (with_reducible refine (wire_number.calls k1 A1 c1 q m _ (Kd.C_below HC2.out HB.out) hc2 HN.out).mono ?_); rintro e1 w1 ⟨rfl, hd1⟩; have HD1 := Aside0.mk hd1.below; clear hd1)
        have HB1 := Aside0.mk (HB.out.trans (HD1.out.mono HB.out.size))
        have HO1 := Aside0.mk (Kd.S_below HO.out HD1.out)
        have H := H'.out
        clear H'
        by_cases h1 : 1048576 < wrap64 m
        · rw [if_pos h1] at H
          cases H
          have h1b : decide (1048576 < wrap64 m) = true := decide_eq_true h1
          clear h1
          go_wp2
          go_ret2
          exact ⟨_, rfl, HO1.out, HB1.out⟩
        rw [if_neg h1] at H
        have h1b : decide (1048576 < wrap64 m) = false := decide_eq_false h1
        by_cases h2 : (b.length : Int) - 8 < wrap64 m
        · rw [if_pos h2] at H
          cases H
          have h2b : decide ((b.length : Int) - 8 < wrap64 m) = true := decide_eq_true h2
          clear h1 h2
          go_wp2
          go_ret2
          exact ⟨_, rfl, HO1.out, HB1.out⟩
        rw [if_neg h2] at H
        by_cases h3 : wrap64 m < 0
        · rw [if_pos h3] at H
          cases H
        rw [if_neg h3] at H
        have h2b : decide ((b.length : Int) - 8 < wrap64 m) = false := decide_eq_false h2
        obtain ⟨n, hn⟩ : ∃ n : Nat, wrap64 m = (n : Int) := Int.eq_ofNat_of_zero_le (by omega)
        rw [hn] at H h1 h2 h3
        have hn1 : n ≤ 1048576 := by omega
        have hn2 : 8 + n ≤ b.length := by omega
        clear h1 h2 h3
        obtain ⟨x, hx⟩ : ∃ x, x = (b.take (8 + (n : Int)).toNat).drop 8 := ⟨_, rfl⟩
        rw [← hx] at H
        obtain ⟨c, hs, H⟩ := Option.bind_eq_some_iff.1 H
        obtain ⟨lc, hlc, H⟩ := Option.bind_eq_some_iff.1 H
        obtain ⟨y, hy⟩ : ∃ y, y = (b.take 8).drop 4 := ⟨_, rfl⟩
        rw [← hy] at H
        obtain ⟨qq, hqq, H⟩ := Option.bind_eq_some_iff.1 H
        have HS := Aside0.mk hs
        have HLC := Aside0.mk hlc
        have HQQ := Aside0.mk hqq
        have H' := Aside0.mk H
        clear H hs hlc hqq
        obtain ⟨A3, c3, hq3, hc3, hC3⟩ := cut_ex (P := Try.prog) 22 5 Try.underlying22 hii his A1 c1 b 8 (8 + (n : Int)) (by omega) (by omega) (by omega) hc1 x hx
        obtain ⟨A4, c4, hq4, hc4, hC4⟩ := cut_ex (P := Try.prog) 22 5 Try.underlying22 hii his A1 c1 b 4 8 (by omega) (by omega) (by omega) hc1 y hy
        have HC3 := Aside0.mk (hC3 w .u8 HC1.out)
        have HC4 := Aside0.mk (hC4 w .u8 HC1.out)
        have hxl : x.length * 1 ≤ 140737488355328 := by rw [hx]; simp; omega
        have HXL := Aside0.mk (show x.length ≤ 1048576 by rw [hx]; simp; omega)
        have HX := Aside0.mk hx
        have HY := Aside0.mk hy
        have HN1 := Aside0.mk hn
        clear hC3 hC4 hx hy
        go_upto_region 8 with (go_at_call 48; (with_reducible refine (slices_Clone_byte_byte.walk A3 x.length c3 x _ rfl (Kd.C_below HC3.out HB1.out) hc3 hxl).mono ?_); rintro e2 w2 ⟨v6, rfl, hR6, hB6⟩; obtain ⟨A6, c6, rfl, hc6, hC6⟩ := Kd.R_reads hR6; have HR6 := Aside0.mk (Kd.R_mono (Kd.R_bound hR6) (fun k hk => hk.2.1)); have HC6 := Aside0.mk hC6; have HB6 := Aside0.mk hB6; clear hR6 hC6 hB6)
        have HL2 := Aside0.mk (C_lit_two (Kd.int .u8) w2 w2.heap.size rfl 5 22 A1 A6 q.length x.length c1 c6 q x rfl rfl (Kd.C_below HC2.out (HB1.out.trans (HB6.out.mono HB1.out.size))) HC6.out hc2 hc6)
        obtain ⟨L, hL⟩ : ∃ L, L = q ++ x := ⟨_, rfl⟩
        rw [show (wire_Sum.f k1 (q ++ x)) = (wire_Sum.f k1 L) by rw [hL]] at HS
        have HFL := Aside0.mk (show ([q, x] : List (List Int)).flatten = L by rw [hL]; simp)
        have hsum : ([q, x] : List (List Int)).flatten.length * 1 ≤ 140737488355328 := by have := HXL.out; simp; omega
        clear hL
        have HB12 := Aside0.mk (HB1.out.trans (HB6.out.mono HB1.out.size))
        have hend : e + 8 + n ≤ 9223372036854775807 := by have := HBL.out; omega
        cases qq
        all_goals go_region_with (first | (go_at_call 44; (with_reducible refine (slices_Concat_byte_byte.walk (some ⟨w2.heap.size, 0, none⟩) 2 2 [q, x] _ rfl (Kd.C_below HL2.out ((Below.refl _ _).drew)) (Nat.le_refl 2) hsum).mono ?_); rintro e3 w3 ⟨v3, rfl, hR3, hB3⟩; rw [HFL.out] at hR3; obtain ⟨A7, c7, rfl, hc7, hC7⟩ := Kd.R_reads hR3; have HC7 := Aside0.mk hC7; have HB7 := Aside0.mk (((Below.refl w2.heap.size w2).alloc (Nat.le_refl _) _).drew.trans (hB3.mono (by simp))); clear hR3 hC7 hB3) | (go_at_call 15; (with_reducible refine (wire_Sum.calls k1 A7 c7 L c _ HC7.out hc7 HS.out).mono ?_); rintro e4 w4 ⟨rfl, hd4⟩; have HB8 := Aside0.mk (HB7.out.trans (hd4.below.mono HB7.out.size)); clear hd4) | (go_at_call 45; (with_reducible refine (wire_little.calls k1 c lc _ HLC.out).mono ?_); rintro e5 w5 ⟨v5, rfl, hR5, hB5⟩; obtain ⟨A9, c9, rfl, hc9, hC9⟩ := Kd.R_reads hR5; have HC9 := Aside0.mk hC9; have HB9 := Aside0.mk (HB8.out.trans (hB5.mono HB8.out.size)); clear hR5 hC9 hB5) | (go_at_call 49; (with_reducible refine (slices_Equal_byte_byte.calls k1 A9 c9 lc A4 c4 y _ _ HC9.out hc9 (Kd.C_below HC4.out (HB12.out.trans (HB9.out.mono HB12.out.size))) hc4 HQQ.out).mono ?_); rintro e6 w6 ⟨rfl, hd6⟩; have HB10 := Aside0.mk (HB9.out.trans (hd6.below.mono HB9.out.size)); clear hd6))
        all_goals have HB26 := Aside0.mk (HB12.out.trans (HB10.out.mono HB12.out.size))
        all_goals have HO6 := Aside0.mk (Kd.S_below HO1.out (HB6.out.trans (HB10.out.mono HB6.out.size)))
        · have H := H'.out
          rw [if_neg (by decide)] at H
          cases H
          go_wp2
          go_ret2
          exact ⟨_, rfl, HO6.out, HB26.out⟩
        · have H := H'.out
          first | rw [if_pos trivial] at H | rw [if_pos rfl] at H
          by_cases hll : (l.length + 1) * 24 ≤ 140737488355328
          · rw [if_pos hll] at H
            have H1 := Aside0.mk H
            have HLL := Aside0.mk hll
            clear hll H H'
            have HM := Aside0.mk (show (Kd.slice 5 (Kd.int .u8)).M w6 w.heap.size (fun k => w1.heap.size ≤ k) x [.slice A6 x.length c6] from ⟨_, rfl, Kd.R_below (Kd.R_lower HR6.out HB1.out.size) HB10.out⟩)
            have HO6s := Aside0.mk (Kd.S_below (Kd.S_mono (ok' := fun k => True ∧ ¬ w1.heap.size ≤ k) (Kd.S_bound HO1.out) (fun k hk => ⟨trivial, by have := hk.2.2.1; omega⟩)) (HB6.out.trans (HB10.out.mono HB6.out.size)))
            have HNE := Aside0.mk (show ∀ k, w1.heap.size ≤ k → True ∧ some k ≠ u2.ownBlock from fun k hk => ⟨trivial, fun he => by have := Kd.S_lt HO1.out _ he.symm; omega⟩)
            go_wp2_with ((with_reducible refine gate_builtin (b := .append) (xs := #[.tmp 48, .tmp 50]) rfl ?_); at_builtin; refine Kd.S_append (Kd.slice 5 (Kd.int .u8)) (w0 := w) w.heap.size rfl (.tmp 48) (.tmp 50) 35 22 (.slice none 0 0) 24 rfl Try.underlying35 info22 rfl (by decide) (by omega) u2 l x [.slice A6 x.length c6] (fun _ => True) (fun k => w1.heap.size ≤ k) rfl rfl HM.out HNE.out (fun _ _ => trivial) HO6s.out HB26.out HB26.out.size HLL.out ?_; intro v7 w7 hR7 hB7 _ _; have HR7 := Aside0.mk hR7; have HB7' := Aside0.mk hB7; clear hR7 hB7)
            go_roundg k1
            case measure => have := HK.out; omega
            case rel => exact ⟨l ++ [x], e + 8 + n, by go_num, ⟨H1.out⟩, ⟨by have := HK.out; omega⟩, HR7, HB7'⟩
          · rw [if_neg hll] at H
            cases H



end Go.Proofs.Ytjkimfjhfncldaa.Q
end

section
-- written by hprint.py (a program of these sessions) out of the translation; Lean checks it
namespace Go.Proofs.Ytjkimfjhfncldaa.Q
open Go.RowKit Go.Proofs.YtjkimfjhfncldaaW.Hb Go.Proofs.YtjkimfjhfncldaaW.PrintWords Go.Proofs.YtjkimfjhfncldaaW.PrintLast Go.Proofs.YtjkimfjhfncldaaW.PrintMore
attribute [local go_sem] max2_int min2_int max_two min_two max_three min_three max_four min_four   -- for this text's walks alone
set_option linter.unusedVariables false
set_option linter.unusedSimpArgs false

/-! ### weighhouselaw01_knows: function 19, by hand -/
def weighhouselaw01_knows.f : Option Bool := some true
def knFr : List Int := [0, 0, 0, 0, 28, 223, 68, 33]
def knIn : List (List Int) := [[]]
theorem knFr_eq : wire_Frame.f 100 [] = some (knFr, 0) := by decide +kernel
theorem knIn_eq : wire_Frames.f 100 knFr = some (knIn, 8) := by decide +kernel
abbrev knS : ByteArray := { data := #[97, 98] }
def knB : List Int := (wtexts (wmore [] (ints8 [1])).1 [knS]).1
theorem knB_len : knB.length ≤ 1048576 := by decide +kernel
theorem kn1 : (wmore [] (ints8 [1])).2 = 0 := by decide +kernel
theorem kn2 : (wtexts (wmore [] (ints8 [1])).1 [knS]).2 = 0 := by decide +kernel
theorem kn3 : (wmore [] (ints8 [1])).1.length ≤ 1048576 := by decide +kernel
theorem kn4 : (textsB [knS]).length * 1 ≤ 140737488355328 := by decide +kernel
theorem kn5 : strOfNums knB = { data := #[0, 0, 0, 0, 0, 0, 0, 1, 0, 2, 97, 98] } := by decide +kernel
theorem knFrame (w : World) : Calls Try.prog 13 #[.slice none 0 0] w fun e w' => ∃ v0_ : Value, e = .returned (.tuple #[v0_, .int .i64 0]) ∧ Kd.R (Kd.int .u8) 5 w' w.heap.size (fun _ => True) v0_ knFr ∧ Below w.heap.size w w' :=
  wire_Frame.calls 100 none 0 [] knFr 0 w (Kd.C_nil _ _) (Nat.le_refl 0) knFr_eq
set_option maxRecDepth 100000 in
set_option maxHeartbeats 2000000 in
theorem weighhouselaw01_knows.calls (r : Bool) (w : World) (h : weighhouselaw01_knows.f = some r) : Calls Try.prog 19 #[] w fun e w' => e = .returned (.bool r) ∧ Below w.heap.size w w' := by
  obtain rfl : true = r := Option.some.inj h
  clear h
  have HI := Aside0.mk knIn_eq
  go_enter Try.func19, Try.ntmps19
  go_upto_region 2 with (go_at_call 22; (with_reducible refine (wire_NewWriter.calls w).mono ?_); rintro e w1 ⟨g, rfl, hW1, hg1, hB1⟩; have HW1 := Aside0.mk hW1; have HB1 := Aside0.mk hB1; clear hW1 hB1)
  have hx1 : (Kd.int .i64).C (w1.alloc (.cells #[.int .i64 1] 3)) (some ⟨w1.heap.size, 0, none⟩) [(1 : Int)].length [1] := C_lit_int w1 w1.heap.size rfl .i64 [1] #[.int .i64 1] rfl 3 (by decide)
  have HI1 := Aside0.mk (wire_Writer_Int.calls (fun k => k = g) g [] (some ⟨w1.heap.size, 0, none⟩) 1 1 [1] (w1.alloc (.cells #[.int .i64 1] 3)) rfl hx1 (Nat.le_refl 1) (by decide) (HW1.out.below ((Below.refl _ _).alloc (Nat.le_refl _) _)) (by decide))
  clear hx1
  go_upto_region 3 with (go_at_call 25; (with_reducible refine HI1.out.mono ?_); rintro e w2 ⟨rfl, hW2, hF2⟩; rw [kn1]; have HW2 := Aside0.mk hW2; have HF2 := Aside0.mk hF2; clear hW2 hF2)
  have HD2 := Aside0.mk (Fr.below (B := w.heap.size) ((Fr.of_below (((Below.refl _ _).alloc (Nat.le_refl _) (.cells #[.int .i64 1] 3)) : Below w1.heap.size w1 _) _).then_ HF2.out (fun _ h => .inl h)) HB1.out.size (fun k hk => by subst hk; exact hg1))
  have HE2 := Aside0.mk (HB1.out.trans HD2.out)
  have hx2 : Kd.string.C (w2.alloc (.cells #[.string knS] 9)) (some ⟨w2.heap.size, 0, none⟩) [knS].length [knS] := C_of_reps (d := Kd.string) (Blk.new w2 _ _) [knS] (Reps_one (c := [.string knS]) rfl rfl) (by decide)
  have HT1 := Aside0.mk (wire_Writer_Text.calls (SS (fun k => k = g) (w1.alloc (.cells #[.int .i64 1] 3)) w2) g (wmore [] (ints8 [1])).1 (some ⟨w2.heap.size, 0, none⟩) 1 1 [knS] (w2.alloc (.cells #[.string knS] 9)) rfl hx2 (Nat.le_refl 1) kn4 (by decide) (HW2.out.below ((Below.refl _ _).alloc (Nat.le_refl _) _)) kn3)
  clear hx2
  go_upto_region 4 with (go_at_call 27; (with_reducible refine HT1.out.mono ?_); rintro e w3 ⟨rfl, hW3, hF3⟩; rw [kn2]; have HW3 := Aside0.mk hW3; have HF3 := Aside0.mk hF3; clear hW3 hF3)
  have HD3 := Aside0.mk (Fr.below (B := w.heap.size) ((Fr.of_below (((Below.refl _ _).alloc (Nat.le_refl _) (.cells #[.string knS] 9)) : Below w2.heap.size w2 _) _).then_ HF3.out (fun _ h => .inl h)) HE2.out.size (fun k hk => by
    rcases hk with hk | hk
    · subst hk; exact hg1
    · have := HB1.out.size
      have := hk.1
      simp at this
      omega))
  have HE3 := Aside0.mk (HE2.out.trans HD3.out)
  have HFR := Aside0.mk (knFrame w3)
  have HK2 := Aside0.mk knIn_eq
  obtain ⟨fl, hfl⟩ : ∃ fl, fl = knFr := ⟨_, rfl⟩
  rw [← hfl] at HFR HK2
  clear hfl
  go_upto_region 5 with (go_at_call 13; (with_reducible refine HFR.out.mono ?_); rintro e w4 ⟨v4, rfl, hR4, hB4⟩; obtain ⟨A4, c4, rfl, hc4, hC4⟩ := Kd.R_reads hR4; have HC4 := Aside0.mk hC4; have HB4 := Aside0.mk hB4; clear hR4 hC4 hB4)
  have HW4 := Aside0.mk (show Wr w4 _ g knB from HW3.out.below HB4.out)
  have HE4 := Aside0.mk (HE3.out.trans (HB4.out.mono HE3.out.size))
  have HFM := Aside0.mk (wire_Frames.calls 100 A4 c4 fl knIn 8 w4 HC4.out hc4 HK2.out)
  go_upto_region 6 with (go_at_call 20; (with_reducible refine HFM.out.mono ?_); rintro e w5 ⟨v5, rfl, hR5, hB5⟩; obtain ⟨A5, c5, hv5, hc5, hC5⟩ := Kd.S_reads hR5; rw [show knIn.length = 1 from rfl] at hv5; subst hv5; have HB5 := Aside0.mk hB5; clear hR5 hB5 hC5 hc5)
  have HWX := Aside0.mk (HW4.out.below HB5.out)
  have HEX := Aside0.mk (HE4.out.trans (HB5.out.mono HE4.out.size))
  go_wp2_with (first | (go_at_call 17; (with_reducible refine (weighhouselaw01_num.calls 0 0 _ rfl).mono ?_); rintro e w6 ⟨rfl, hd⟩; have n0_ := Aside0.mk (HWX.out.below hd.below); have n1_ := Aside0.mk (HEX.out.trans (hd.below.mono HEX.out.size)); clear HWX HEX hd; have HWX := n0_; have HEX := n1_; clear n0_ n1_) | (go_at_call 29; (with_reducible refine (wire_Writer_Bytes.calls _ g knB _ HWX.out knB_len).mono ?_); rintro e w7 ⟨v7, rfl, hR7, hB7⟩; obtain ⟨A7, c7, rfl, hc7, hC7⟩ := Kd.R_reads hR7; have hcv := Kd.C_string (P := Try.prog) (src := 22) (dst := 9) (e := 5) (c := c7) Try.underlying22 Try.underlying5 Try.underlying9 hC7; rw [kn5] at hcv; have HEY := Aside0.mk (HEX.out.trans (hB7.mono HEX.out.size)); clear hR7 hB7 hC7 hc7))
  go_ret
  exact ⟨rfl, HEY.out⟩


end Go.Proofs.Ytjkimfjhfncldaa.Q
end

section
-- written by hprint.py (a program of these sessions) out of the translation; Lean checks it
namespace Go.Proofs.Ytjkimfjhfncldaa.Q
open Go.RowKit Go.Proofs.YtjkimfjhfncldaaW.Hb Go.Proofs.YtjkimfjhfncldaaW.PrintWords Go.Proofs.YtjkimfjhfncldaaW.PrintLast Go.Proofs.YtjkimfjhfncldaaW.PrintMore
attribute [local go_sem] max2_int min2_int max_two min_two max_three min_three max_four min_four   -- for this text's walks alone
set_option linter.unusedVariables false
set_option linter.unusedSimpArgs false

/-! ### weighhouseref01_Writer_Byte: function 24, by hand -/
set_option maxRecDepth 100000 in
set_option maxHeartbeats 2000000 in
theorem weighhouseref01_Writer_Byte.calls (S : Nat → Prop) (g : Nat) (l : List Int) (A : Option Addr) (n c : Nat) (xs : List Int) (w : World) (hn : xs.length = n) (hr : (Kd.int .i64).C w A xs.length xs) (hc : n ≤ c) (hsum : xs.length * 8 ≤ 140737488355328) (hW : Rw w S g l) (hl : l.length ≤ 1048576) :
    Calls Try.prog 24 #[.pointer (some ⟨g, 0, none⟩), .slice A n c] w fun e w' => e = .returned (.int .i64 (wbytes l xs).2) ∧ Rw w' (SS S w w') g (wbytes l xs).1 ∧ Fr w w' S := by
  subst hn
  have hm : xs.length ≤ 9223372036854775807 := hr.2.1
  have HR := Aside0.mk hr
  have HW := Aside0.mk hW
  clear hr hW
  go_enter Try.func24, Try.ntmps24
  go_wp2
  go_loopw [5, 6] (fun v i wr => ∃ j : Nat, j ≤ xs.length ∧ i = .int .i64 j ∧ Aside0 (∀ x ∈ xs.take j, badB x = false) ∧ Aside0 (Kd.R (Kd.int .u8) 5 wr w.heap.size (fun _ => True) v (xs.take j)) ∧ Aside0 (Below w.heap.size w wr)) (fun _ i _ => xs.length - (intOf i).toNat)
  case atStart => exact ⟨0, Nat.zero_le _, rfl, ⟨by simp⟩, ⟨Kd.R_nil _ _ _ _ _⟩, ⟨Below.refl _ _⟩⟩
  case round =>
    obtain ⟨j, hj, rfl, HS, HRj, HB⟩ := hrel
    by_cases hlt : j < xs.length
    · obtain ⟨ad, e, hcell⟩ := at_intN HR.out j hlt
      cases e
      replace hcell := (HB.out.cell (World.block_lt_of_cell? w _ hcell)).trans hcell
      have HT := Aside0.mk (List.take_succ_eq_append_getElem hlt)
      have HMEM := Aside0.mk (List.getElem_mem hlt)
      have HSN := Aside0.mk (take_bad hlt HS.out)
      obtain ⟨x, hx⟩ : ∃ x, x = xs[j] := ⟨_, rfl⟩
      rw [← hx] at HT hcell HMEM HSN
      clear hx
      have HWR := Aside0.mk (HW.out.below HB.out)
      by_cases hneg : x < 0
      · have HWB := Aside0.mk (wbytes_bad (l := l) HMEM.out (Or.inl hneg))
        have d1 : decide (x < 0) = true := decide_eq_true hneg
        clear hneg
        go_wp2
        go_ret
        rw [HWB.out]
        exact ⟨rfl, HWR.out.mono (fun k hk => .inl hk), Fr.of_below HB.out S⟩
      by_cases hbig : 255 < x
      · have HWB := Aside0.mk (wbytes_bad (l := l) HMEM.out (Or.inr hbig))
        have d1 : decide (x < 0) = false := decide_eq_false hneg
        have d2 : decide (255 < x) = true := decide_eq_true hbig
        clear hneg hbig
        go_wp2
        go_ret
        rw [HWB.out]
        exact ⟨rfl, HWR.out.mono (fun k hk => .inl hk), Fr.of_below HB.out S⟩
      · have d1 : decide (x < 0) = false := decide_eq_false hneg
        have d2 : decide (255 < x) = false := decide_eq_false hbig
        have h0 : 0 ≤ x := by omega
        have h1 : x ≤ 255 := by omega
        have HSN2 := Aside0.mk (HSN.out (badB_ok h0 h1))
        have HL := Aside0.mk (show ((xs.take j).length + 1) * 1 ≤ 140737488355328 by rw [List.length_take]; omega)
        clear hneg hbig
        go_wp2_with ((with_reducible refine gate_builtin (b := .append) (xs := #[.tmp 25, .tmp 31]) rfl ?_); at_builtin; refine Kd.R_append (Kd.int .u8) (w0 := w) w.heap.size rfl (.tmp 25) (.tmp 31) 22 5 (.int .u8 0) 1 rfl Try.underlying22 info5 rfl (by decide) (by omega) u5 (xs.take j) x [.int .u8 x] (fun _ => True) (fun _ => False) rfl rfl rfl (fun _ hk => hk.elim) (fun _ _ => trivial) HRj.out HB.out HB.out.size HL.out ?_; intro v3 w3 hR3 hB3 _ _; have HR3 := Aside0.mk hR3; have HB3 := Aside0.mk hB3; clear hR3 hB3)
        go_roundw
        case rel => exact ⟨j + 1, by omega, by go_num, HSN2, ⟨by rw [HT.out]; exact HR3.out⟩, HB3⟩
        case measure => simp [intOf]; omega
    · have hall : xs.take j = xs := List.take_of_length_le (by omega)
      have hS := HS.out
      have hR := HRj.out
      rw [hall] at hS hR
      have HWB := Aside0.mk (wbytes_ok (l := l) hS)
      obtain ⟨A1, c1, rfl, hc1, hC1⟩ := Kd.R_reads hR
      have HM := Aside0.mk (weighhouseref01_Writer_more.calls S g l A1 xs.length c1 xs wr rfl hC1 hc1 (by omega) (HW.out.below HB.out) hl)
      clear hR hC1 HRj hS hall HS
      go_wp2_with (go_at_call 53; (with_reducible refine HM.out.mono ?_); rintro e2 w2 ⟨rfl, hw2, hf2⟩; have HE := Aside0.mk (rmore_end HB.out hw2 hf2); clear hw2 hf2)
      go_ret
      rw [HWB.out]
      exact ⟨rfl, HE.out.1, HE.out.2⟩


end Go.Proofs.Ytjkimfjhfncldaa.Q
end

section
-- written by hprint.py (a program of these sessions) out of the translation; Lean checks it
namespace Go.Proofs.Ytjkimfjhfncldaa.Q
open Go.RowKit Go.Proofs.YtjkimfjhfncldaaW.Hb Go.Proofs.YtjkimfjhfncldaaW.PrintWords Go.Proofs.YtjkimfjhfncldaaW.PrintLast Go.Proofs.YtjkimfjhfncldaaW.PrintMore
attribute [local go_sem] max2_int min2_int max_two min_two max_three min_three max_four min_four   -- for this text's walks alone
set_option linter.unusedVariables false
set_option linter.unusedSimpArgs false

/-! ### weighhouseref01_Number: function 46 -/
def weighhouseref01_Number.l0 : Nat → Int → List Int → Int → Option (List Int)
  | 0, _, _, _ => none
  | k + 1, x0, x3, x4 => if x4 ≥ 0 then (if 0 ≤ (IntKind.u64.wrap (x4)) then (if x3.length < 140737488355328 then (weighhouseref01_Number.l0 k x0 (x3 ++ [(shr .u64 (IntKind.u64.wrap (x0)) (IntKind.u64.wrap (x4))) % 256]) (wrap64 (x4 - 8))) else (none)) else (none)) else (some x3)
def weighhouseref01_Number.f (k : Nat) (a0 : Int) : Option (List Int) := weighhouseref01_Number.l0 k a0 ([] : List Int) 56
theorem weighhouseref01_Number.mono_l : ∀ k, (∀ y0 y1 y2, LeO (weighhouseref01_Number.l0 k y0 y1 y2) (weighhouseref01_Number.l0 (k + 1) y0 y1 y2))
  | 0 => fun _ _ _ r h => by simp [weighhouseref01_Number.l0] at h
  | k + 1 => by
    have ih0 := weighhouseref01_Number.mono_l k
    · intro y0 y1 y2
      unfold weighhouseref01_Number.l0
      repeat' first
      | (with_reducible exact ih0 _ _ _)
      | (with_reducible exact LeO.refl _)
      | (with_reducible exact LeO.none _)
      | (with_reducible refine LeO.ite ?_ ?_)
      | (with_reducible refine LeO.bind ?_ (fun _ => ?_))
      | exact ih0 _ _ _
      | exact LeO.none _
      | refine LeO.ite ?_ ?_
      | refine LeO.bind ?_ (fun _ => ?_)
theorem weighhouseref01_Number.mono : ∀ a0 k, LeO (weighhouseref01_Number.f k a0) (weighhouseref01_Number.f (k + 1) a0) := by
  intro a0 k
  have ih0 := weighhouseref01_Number.mono_l k
  unfold weighhouseref01_Number.f
  repeat' first
      | (with_reducible exact ih0 _ _ _)
      | (with_reducible exact LeO.refl _)
      | (with_reducible exact LeO.none _)
      | (with_reducible refine LeO.ite ?_ ?_)
      | (with_reducible refine LeO.bind ?_ (fun _ => ?_))
      | exact ih0 _ _ _
      | exact LeO.none _
      | refine LeO.ite ?_ ?_
      | refine LeO.bind ?_ (fun _ => ?_)
set_option maxHeartbeats 8000000 in
set_option maxRecDepth 100000 in
theorem weighhouseref01_Number.calls (k : Nat) (a0 : Int) (r : List Int) (w : World) (h : weighhouseref01_Number.f k a0 = some r) :
    Calls Try.prog 46 #[.int .i64 a0] w fun e w' => ∃ v0_ : Value, e = .returned (v0_) ∧ Kd.R (Kd.int .u8) 5 w' w.heap.size (fun _ => True) v0_ r ∧ Below w.heap.size w w' := by
  have HB := Aside0.mk (Below.refl w.heap.size w)
  have H : (weighhouseref01_Number.l0 k a0 ([] : List Int) 56) = some r := h
  clear h
  have H' := Aside0.mk H
  clear H
  go_enter Try.func46, Try.ntmps46
  go_wp2
  go_loopg [3, 4] k (fun kq v3 v4 w' => ∃ (x3_1 : List Int) (x4_1 : Int), v4 = .int .i64 x4_1 ∧ Aside0 (weighhouseref01_Number.l0 kq a0 x3_1 x4_1 = some r) ∧ Aside0 (kq ≤ k) ∧ Aside0 (Kd.R (Kd.int .u8) 5 w' w.heap.size (fun _ => True) v3 x3_1) ∧ Aside0 (Below w.heap.size w w'))
  case atStart => exact ⟨(([] : List Int)), (56), (by first | rfl | (simp; done) | (simp [*]; done)), H', ⟨Nat.le_refl _⟩, ⟨by first | exact Kd.R_nil _ _ _ _ _ | exact Kd.N_nil _ _ _ _ _ | exact Kd.V_nil _ _ _ _ _ | exact Kd.Q_nil _ _ _ _ _ | exact Kd.S_nil _ _ _ _ _⟩, ⟨by repeat (first | (with_reducible first | exact HB.out | apply below_alloc | apply pw_below_drewN | apply below_drew1) | exact HB.out)⟩⟩
  case round =>
    clear H'
    obtain ⟨x3_1, x4_1, rfl, HA, HK1, HO_3, HB⟩ := hrel
    cases gk with
    | zero => exact absurd HA.out (by simp [weighhouseref01_Number.l0])
    | succ k1 =>
      have H := HA.out
      clear HA
      simp only [weighhouseref01_Number.l0] at H
      by_cases c2 : x4_1 ≥ 0
      · rw [if_pos c2] at H
        have c2b0 : decide (0 ≤ x4_1) = true := decide_eq_true c2
        clear c2
        obtain ⟨ji3, hji3⟩ : ∃ j_ : Int, (IntKind.u64.wrap (x4_1)) = j_ := ⟨_, rfl⟩
        replace H : (if 0 ≤ (ji3) then (if x3_1.length < 140737488355328 then (weighhouseref01_Number.l0 k1 a0 (x3_1 ++ [(shr .u64 (IntKind.u64.wrap (a0)) (ji3)) % 256]) (wrap64 (x4_1 - 8))) else (none)) else (none)) = some r := by first | (rw [hji3] at H; exact H) | (simp only [hji3] at H ⊢; exact H)
        by_cases c4 : 0 ≤ (ji3)
        · rw [if_pos c4] at H
          have c4b0 := eq_true c4
          have c4b1 : decide (0 ≤ (ji3)) = true := decide_eq_true c4
          clear c4
          obtain ⟨ji5, hji5⟩ : ∃ j_ : Int, (shr .u64 (IntKind.u64.wrap (a0)) (ji3)) = j_ := ⟨_, rfl⟩
          replace H : (if x3_1.length < 140737488355328 then (weighhouseref01_Number.l0 k1 a0 (x3_1 ++ [(ji5) % 256]) (wrap64 (x4_1 - 8))) else (none)) = some r := by first | (rw [hji5] at H; exact H) | (simp only [hji5] at H ⊢; exact H)
          have hji5_ : ((IntKind.u64.wrap (a0)) / 2 ^ min (ji3).toNat 64) = ji5 := hji5
          have hji5z : (ji3) ≤ 64 → ((IntKind.u64.wrap (a0)) / 2 ^ (ji3).toNat) = ji5 := shr_small hji5
          by_cases c6 : x3_1.length < 140737488355328
          · rw [if_pos c6] at H
            have LMc6 := Aside0.mk c6
            clear c6
            obtain ⟨y126, hy126⟩ : ∃ y_ : List Int, y_ = (x3_1 ++ [(ji5) % 256]) := ⟨_, rfl⟩
            replace H : (weighhouseref01_Number.l0 k1 a0 y126 (wrap64 (x4_1 - 8))) = some r := by first | (rw [hy126]; with_reducible exact H) | (have H2_ := (Option.bind_some _ _).symm.trans H; rw [hy126]; with_reducible exact H2_) | (have H2_ := (Option.bind_some _ _).symm.trans H; with_reducible exact H2_) | with_reducible exact H | (rw [hy126]; exact H) | exact H
            have Ny126 := Aside0.mk hy126
            clear hy126
            have H' := Aside0.mk H
            clear H
            go_wp2_with (first | ((with_reducible refine gate_builtin (b := .append) (xs := #[.tmp 9, .tmp 16]) rfl ?_); at_builtin; refine Kd.R_append (Kd.int .u8) (w0 := w) w.heap.size rfl (.tmp 9) (.tmp 16) 22 5 (.int .u8 0) 1 rfl Try.underlying22 info5 rfl (by decide) (by omega) u3 x3_1 ((ji5) % 256) [.int .u8 ((ji5) % 256)] (fun _ => True) (fun _ => False) rfl rfl ?aP (fun _ hk => hk.elim) ?aF ?aO ?aB ?aS ?aL ?_; (case aP => exact rfl); (case aB => exact (by repeat (first | (with_reducible first | exact HB.out | apply below_alloc | apply pw_below_drewN | apply below_drew1) | exact HB.out))); (case aF => exact (fun _ _ => trivial)); (case aO => exact (by (with_reducible repeat (first | apply Kd.R_alloc | apply Kd.R_drewN | apply Kd.R_drew)); exact HO_3.out)); (case aS => exact (below_size (by repeat (first | (with_reducible first | exact HB.out | apply below_alloc | apply pw_below_drewN | apply below_drew1) | exact HB.out)))); (case aL => have := LMc6.out; omega); intro v127 w7 ho hb hg hat; rw [← Ny126.out] at ho; have n0_ := Aside0.mk (hb); have n1_ := Aside0.mk (ho); clear HB; clear HO_3; have HB := n0_; have HO128 := n1_; clear n0_ n1_; clear ho hb hg hat))
            go_roundg k1
            case measure => have := HK1.out; omega
            case rel => exact ⟨(y126), (wrap64 (x4_1 - 8)), (by first | rfl | (simp; done) | (simp [*]; done)), H', ⟨by have := HK1.out; omega⟩, ⟨by (with_reducible repeat (first | apply Kd.R_alloc | apply Kd.R_drewN | apply Kd.R_drew)); exact HO128.out⟩, ⟨by repeat (first | (with_reducible first | exact HB.out | apply below_alloc | apply pw_below_drewN | apply below_drew1) | exact HB.out)⟩⟩
          · rw [if_neg c6] at H
            exact absurd H (by simp)
        · rw [if_neg c4] at H
          exact absurd H (by simp)
      · rw [if_neg c2] at H
        have c2b0 : decide (0 ≤ x4_1) = false := decide_eq_false c2
        clear c2
        obtain rfl := Option.some.inj H
        go_wp2
        go_ret
        exact ⟨_, by first | rfl | (simp [errW_none, errW_some] <;> rfl) | (simp [*, errW_none, errW_some] <;> rfl), by (with_reducible repeat (first | apply Kd.R_alloc | apply Kd.R_drewN | apply Kd.R_drew)); exact HO_3.out, by repeat (first | (with_reducible first | exact HB.out | apply below_alloc | apply pw_below_drewN | apply below_drew1) | exact HB.out)⟩

end Go.Proofs.Ytjkimfjhfncldaa.Q
end

section
-- written by hprint.py (a program of these sessions) out of the translation; Lean checks it
namespace Go.Proofs.Ytjkimfjhfncldaa.Q
open Go.RowKit Go.Proofs.YtjkimfjhfncldaaW.Hb Go.Proofs.YtjkimfjhfncldaaW.PrintWords Go.Proofs.YtjkimfjhfncldaaW.PrintLast Go.Proofs.YtjkimfjhfncldaaW.PrintMore
attribute [local go_sem] max2_int min2_int max_two min_two max_three min_three max_four min_four   -- for this text's walks alone
set_option linter.unusedVariables false
set_option linter.unusedSimpArgs false

/-! ### weighhouseref01_Writer_Int: function 26, by hand -/
theorem sh64 (n : Int) (k : Nat) (hk : k ≤ 64) : shr .u64 n (k : Int) = n / 2 ^ k := by
  unfold shr
  rw [Int.toNat_natCast, show IntKind.u64.bits = 64 from rfl, Nat.min_eq_left hk]
theorem number_is (x : Int) : weighhouseref01_Number.f 9 x = some (bigL (IntKind.u64.wrap x) 8) := by
  unfold weighhouseref01_Number.f
  have st : ∀ (k i : Nat) (l : List Int), i ≤ 56 → l.length ≤ 8 → weighhouseref01_Number.l0 (k + 1) x l (i : Int) = weighhouseref01_Number.l0 k x (l ++ [(IntKind.u64.wrap x / 2 ^ i) % 256]) ((i : Int) - 8) := by
    intro k i l hi hl
    have h1 : IntKind.u64.wrap (i : Int) = (i : Int) := by simp [IntKind.wrap, IntKind.bits, IntKind.signed]; omega
    have h2 : wrap64 ((i : Int) - 8) = (i : Int) - 8 := by unfold wrap64; omega
    rw [weighhouseref01_Number.l0, h1, h2, if_pos (by omega), if_pos (by omega), if_pos (by omega), sh64 _ _ (by omega)]
  rw [show (56 : Int) = ((56 : Nat) : Int) from rfl, st 8 56 [] (by omega) (by simp), show ((56 : Nat) : Int) - 8 = ((48 : Nat) : Int) from rfl, st 7 48 _ (by omega) (by simp), show ((48 : Nat) : Int) - 8 = ((40 : Nat) : Int) from rfl, st 6 40 _ (by omega) (by simp), show ((40 : Nat) : Int) - 8 = ((32 : Nat) : Int) from rfl, st 5 32 _ (by omega) (by simp), show ((32 : Nat) : Int) - 8 = ((24 : Nat) : Int) from rfl, st 4 24 _ (by omega) (by simp), show ((24 : Nat) : Int) - 8 = ((16 : Nat) : Int) from rfl, st 3 16 _ (by omega) (by simp), show ((16 : Nat) : Int) - 8 = ((8 : Nat) : Int) from rfl, st 2 8 _ (by omega) (by simp), show ((8 : Nat) : Int) - 8 = ((0 : Nat) : Int) from rfl, st 1 0 _ (by omega) (by simp)]
  rw [weighhouseref01_Number.l0, if_neg (by decide)]
  simp [bigL, bigB, List.range_succ]
set_option maxRecDepth 100000 in
set_option maxHeartbeats 2000000 in
theorem weighhouseref01_Writer_Int.calls (S : Nat → Prop) (g : Nat) (l : List Int) (A : Option Addr) (n c : Nat) (xs : List Int) (w : World) (hn : xs.length = n) (hr : (Kd.int .i64).C w A xs.length xs) (hc : n ≤ c) (hsum : xs.length * 8 ≤ 140737488355328) (hW : Rw w S g l) (hl : l.length ≤ 1048576) :
    Calls Try.prog 26 #[.pointer (some ⟨g, 0, none⟩), .slice A n c] w fun e w' => e = .returned (.int .i64 (wmore l (ints8 xs)).2) ∧ Rw w' (SS S w w') g (wmore l (ints8 xs)).1 ∧ Fr w w' S := by
  subst hn
  have hm : xs.length ≤ 9223372036854775807 := hr.2.1
  have HR := Aside0.mk hr
  have HW := Aside0.mk hW
  clear hr hW
  go_enter Try.func26, Try.ntmps26
  go_wp2
  go_loopw [5, 6] (fun v i wr => ∃ j : Nat, j ≤ xs.length ∧ i = .int .i64 j ∧ Aside0 (Kd.R (Kd.int .u8) 5 wr w.heap.size (fun _ => True) v (ints8 (xs.take j))) ∧ Aside0 (Below w.heap.size w wr)) (fun _ i _ => xs.length - (intOf i).toNat)
  case atStart => exact ⟨0, Nat.zero_le _, rfl, ⟨Kd.R_nil _ _ _ _ _⟩, ⟨Below.refl _ _⟩⟩
  case round =>
    obtain ⟨j, hj, rfl, HRj, HB⟩ := hrel
    by_cases hlt : j < xs.length
    · obtain ⟨ad, e, hcell⟩ := at_intN HR.out j hlt
      cases e
      replace hcell := (HB.out.cell (World.block_lt_of_cell? w _ hcell)).trans hcell
      have HT := Aside0.mk (ints8_take xs j hlt)
      obtain ⟨x, hx⟩ : ∃ x, x = xs[j] := ⟨_, rfl⟩
      rw [← hx] at HT hcell
      have HNUM := Aside0.mk (number_is x)
      obtain ⟨q, hq⟩ : ∃ q, q = bigL (IntKind.u64.wrap x) 8 := ⟨_, rfl⟩
      rw [← hq] at HT HNUM
      have hql : q.length = 8 := by rw [hq, bigL_len']
      have HL := Aside0.mk (show ((ints8 (xs.take j)).length + q.length) * 1 ≤ 140737488355328 by rw [ints8_len, List.length_take]; omega)
      clear hx hq hql
      go_wp2_with (first | (go_at_call 46; (with_reducible refine (weighhouseref01_Number.calls 9 x q _ HNUM.out).mono ?_); rintro e w1 ⟨v1, rfl, hR1, hB1⟩; obtain ⟨A1, c1, rfl, hc1, hC1⟩ := Kd.R_reads hR1; have HC1 := Aside0.mk hC1; have HO1 := Aside0.mk (Kd.R_below HRj.out hB1); have HB1 := Aside0.mk (HB.out.trans (hB1.mono HB.out.size)); clear hR1 hC1 hB1) | ((with_reducible refine gate_builtin (b := .append) (xs := #[.tmp 13, .tmp 18]) rfl ?_); at_builtin; refine Kd.R_append_rows (Kd.int .u8) (w0 := w) (Rr := (Kd.int .u8).K w1) w.heap.size rfl (.tmp 13) (.tmp 18) 22 5 (.int .u8 0) 1 rfl Try.underlying22 info5 rfl (by decide) (by omega) u5 (ints8 (xs.take j)) q A1 q.length c1 (fun _ => True) (fun _ => False) rfl rfl HO1.out HC1.out (fun x cs hK => hK) (fun _ hk => hk.elim) (fun _ _ => trivial) HB1.out HB1.out.size HL.out ?_; intro v3 w3 hR3 hB3 _ _; have HR3 := Aside0.mk hR3; have HB3 := Aside0.mk hB3; clear hR3 hB3))
      go_roundw
      case rel => exact ⟨j + 1, by omega, by go_num, ⟨by rw [HT.out]; exact HR3.out⟩, HB3⟩
      case measure => simp [intOf]; omega
    · have hall : ints8 (xs.take j) = ints8 xs := by rw [List.take_of_length_le (by omega)]
      have hR := HRj.out
      rw [hall] at hR
      obtain ⟨p, hp⟩ : ∃ p, p = ints8 xs := ⟨_, rfl⟩
      have hpl : p.length * 1 ≤ 140737488355328 := by rw [hp, ints8_len]; omega
      rw [← hp] at hR
      obtain ⟨A1, c1, rfl, hc1, hC1⟩ := Kd.R_reads hR
      have HP := Aside0.mk hp
      have HM := Aside0.mk (weighhouseref01_Writer_more.calls S g l A1 p.length c1 p wr rfl hC1 hc1 hpl (HW.out.below HB.out) hl)
      clear hR hC1 HRj hall hp
      go_wp2_with (go_at_call 53; (with_reducible refine HM.out.mono ?_); rintro e2 w2 ⟨rfl, hw2, hf2⟩; have HE := Aside0.mk (rmore_end HB.out hw2 hf2); clear hw2 hf2)
      go_ret
      rw [← HP.out]
      exact ⟨rfl, HE.out.1, HE.out.2⟩


end Go.Proofs.Ytjkimfjhfncldaa.Q
end

section
-- written by hprint.py (a program of these sessions) out of the translation; Lean checks it
namespace Go.Proofs.Ytjkimfjhfncldaa.Q
open Go.RowKit Go.Proofs.YtjkimfjhfncldaaW.Hb Go.Proofs.YtjkimfjhfncldaaW.PrintWords Go.Proofs.YtjkimfjhfncldaaW.PrintLast Go.Proofs.YtjkimfjhfncldaaW.PrintMore
attribute [local go_sem] max2_int min2_int max_two min_two max_three min_three max_four min_four   -- for this text's walks alone
set_option linter.unusedVariables false
set_option linter.unusedSimpArgs false

/-! ### weighhouselaw01_WireWrites: function 7, by hand -/
def okPut (x : S49) : Bool := decide (x.f1.length ≤ 1048576) && decide (x.f2.length ≤ 1048576) && decide ((textsB x.f2).length ≤ 4194304)
def weighhouselaw01_WireWrites.f (l0 : List S49) : Option Bool := if l0.all okPut = true then some true else none
/-- Two writers, apart. -/
def TwoW (w0 w : World) (g g2 : Nat) (l l2 : List Int) : Prop := ∃ S S2, Wr w S g l ∧ Rw w S2 g2 l2 ∧ (∀ k, S k → w0.heap.size ≤ k ∧ k < w.heap.size ∧ ¬ S2 k) ∧ (∀ k, S2 k → w0.heap.size ≤ k ∧ k < w.heap.size) ∧ (l.length ≤ 1048576 ∧ l2.length ≤ 1048576) ∧ Below w0.heap.size w0 w
theorem TwoW.bel {w0 w : World} {g g2 : Nat} {l l2 : List Int} (h : TwoW w0 w g g2 l l2) : Below w0.heap.size w0 w := by
  obtain ⟨_, _, _, _, _, _, _, h⟩ := h
  exact h
theorem TwoW.below {w0 w w' : World} {g g2 : Nat} {l l2 : List Int} (h : TwoW w0 w g g2 l l2) (hb : Below w.heap.size w w') : TwoW w0 w' g g2 l l2 := by
  obtain ⟨S, S2, h1, h2, h3, h4, h5, h6⟩ := h
  have hs := hb.size
  exact ⟨S, S2, h1.below hb, h2.below hb, fun k hk => ⟨(h3 k hk).1, by have := (h3 k hk).2.1; omega, (h3 k hk).2.2⟩, fun k hk => ⟨(h4 k hk).1, by have := (h4 k hk).2; omega⟩, h5, h6.trans (hb.mono h6.size)⟩
theorem SS_in {S : Nat → Prop} {w0 w w' : World} (hs : w0.heap.size ≤ w.heap.size) (hw : w.heap.size ≤ w'.heap.size) (h : ∀ k, S k → w0.heap.size ≤ k ∧ k < w.heap.size) : ∀ k, SS S w w' k → w0.heap.size ≤ k ∧ k < w'.heap.size := by
  intro k hk
  rcases hk with hk | hk
  · have := h k hk
    omega
  · omega
theorem TwoW.first {w0 w w' : World} {S S2 : Nat → Prop} {g g2 : Nat} {l l2 : List Int} (h2 : Rw w S2 g2 l2) (h3 : ∀ k, S k → w0.heap.size ≤ k ∧ k < w.heap.size ∧ ¬ S2 k) (h4 : ∀ k, S2 k → w0.heap.size ≤ k ∧ k < w.heap.size) (hl2 : l2.length ≤ 1048576) (h6 : Below w0.heap.size w0 w) (h1 : Wr w' (SS S w w') g l) (hf : Fr w w' S) (hl : l.length ≤ 1048576) : TwoW w0 w' g g2 l l2 := by
  have hs := h6.size
  have hw := hf.1.size
  refine ⟨SS S w w', S2, h1, h2.kept hf.2 (fun k hk hS => (h3 k hS).2.2 hk), fun k hk => ?_, fun k hk => ⟨(h4 k hk).1, by have := (h4 k hk).2; omega⟩, ⟨hl, hl2⟩, h6.trans (hf.below hs (fun k hk => (h3 k hk).1))⟩
  refine ⟨(SS_in hs hw (fun k hk => ⟨(h3 k hk).1, (h3 k hk).2.1⟩) k hk).1, (SS_in hs hw (fun k hk => ⟨(h3 k hk).1, (h3 k hk).2.1⟩) k hk).2, fun h => ?_⟩
  rcases hk with hk | hk
  · exact (h3 k hk).2.2 h
  · have := (h4 k h).2
    omega
theorem TwoW.second {w0 w w' : World} {S S2 : Nat → Prop} {g g2 : Nat} {l l2 : List Int} (h1 : Wr w S g l) (h3 : ∀ k, S k → w0.heap.size ≤ k ∧ k < w.heap.size ∧ ¬ S2 k) (h4 : ∀ k, S2 k → w0.heap.size ≤ k ∧ k < w.heap.size) (hl : l.length ≤ 1048576) (h6 : Below w0.heap.size w0 w) (h2 : Rw w' (SS S2 w w') g2 l2) (hf : Fr w w' S2) (hl2 : l2.length ≤ 1048576) : TwoW w0 w' g g2 l l2 := by
  have hs := h6.size
  have hw := hf.1.size
  refine ⟨S, SS S2 w w', h1.kept hf.2 (fun k hk hS => (h3 k hk).2.2 hS), h2, fun k hk => ⟨(h3 k hk).1, by have := (h3 k hk).2.1; omega, fun h => ?_⟩, SS_in hs hw h4, ⟨hl, hl2⟩, h6.trans (hf.below hs (fun k hk => (h4 k hk).1))⟩
  rcases h with h | h
  · exact (h3 k hk).2.2 h
  · have := (h3 k hk).2.1
    omega
theorem wmore_len {l : List Int} (h : l.length ≤ 1048576) (p : List Int) : (wmore l p).1.length ≤ 1048576 := by
  unfold wmore
  split
  · exact h
  · rw [List.length_append]
    omega
theorem wbytes_len {l : List Int} (h : l.length ≤ 1048576) (p : List Int) : (wbytes l p).1.length ≤ 1048576 := by
  unfold wbytes
  split
  · exact h
  · exact wmore_len h p
theorem wtexts_len {l : List Int} (h : l.length ≤ 1048576) (p : List ByteArray) : (wtexts l p).1.length ≤ 1048576 := by
  unfold wtexts
  split
  · exact h
  · exact wmore_len h _
theorem at_PutN {w : World} {A : Option Addr} {n : Nat} {xs : List S49} (h : Kd.C k49 w A n xs) (i : Nat) (hi : i < xs.length) : ∃ ad A1 c1 A2 c2, A = some ad ∧ w.cell? (ad.add (i * 3)) = some (.int .i64 xs[i].f0) ∧ w.cell? ⟨(ad.add (i * 3)).block, (ad.add (i * 3)).off + 1, none⟩ = some (.slice A1 xs[i].f1.length c1) ∧ w.cell? ⟨(ad.add (i * 3)).block, (ad.add (i * 3)).off + 2, none⟩ = some (.slice A2 xs[i].f2.length c2) ∧ xs[i].f1.length ≤ c1 ∧ (Kd.int .i64).C w A1 xs[i].f1.length xs[i].f1 ∧ xs[i].f2.length ≤ c2 ∧ Kd.string.C w A2 xs[i].f2.length xs[i].f2 := by
  obtain ⟨ad, A1, c1, A2, c2, e, h0, h1, h2, r⟩ := at_T49 h i (by omega) (by have := h.1; omega)
  rw [Int.toNat_natCast] at h0 h1 h2
  have e2 : rd_T49 xs i = xs[i] := by simp [rd_T49, List.getD_eq_getElem?_getD, hi]
  rw [e2] at h0 h1 h2 r
  exact ⟨ad, A1, c1, A2, c2, e, h0, h1, h2, r⟩
theorem byteW {w0 w : World} {g g2 : Nat} {l l2 : List Int} (hT : TwoW w0 w g g2 l l2) (A : Option Addr) (c : Nat) (xs : List Int) (hr : (Kd.int .i64).C w A xs.length xs) (hc : xs.length ≤ c) (hsum : xs.length * 8 ≤ 140737488355328) :
    Calls Try.prog 23 #[.pointer (some ⟨g, 0, none⟩), .slice A xs.length c] w fun e w' => e = .returned (.int .i64 (wbytes l xs).2) ∧ TwoW w0 w' g g2 (wbytes l xs).1 l2 := by
  obtain ⟨S, S2, h1, h2, h3, h4, ⟨hl, hl2⟩, h6⟩ := hT
  exact (wire_Writer_Byte.calls S g l A xs.length c xs w rfl hr hc hsum h1 hl).mono fun e w' ⟨he, hW, hF⟩ => ⟨he, TwoW.first h2 h3 h4 hl2 h6 hW hF (wbytes_len hl xs)⟩
theorem intW {w0 w : World} {g g2 : Nat} {l l2 : List Int} (hT : TwoW w0 w g g2 l l2) (A : Option Addr) (c : Nat) (xs : List Int) (hr : (Kd.int .i64).C w A xs.length xs) (hc : xs.length ≤ c) (hsum : xs.length * 8 ≤ 140737488355328) :
    Calls Try.prog 25 #[.pointer (some ⟨g, 0, none⟩), .slice A xs.length c] w fun e w' => e = .returned (.int .i64 (wmore l (ints8 xs)).2) ∧ TwoW w0 w' g g2 (wmore l (ints8 xs)).1 l2 := by
  obtain ⟨S, S2, h1, h2, h3, h4, ⟨hl, hl2⟩, h6⟩ := hT
  exact (wire_Writer_Int.calls S g l A xs.length c xs w rfl hr hc hsum h1 hl).mono fun e w' ⟨he, hW, hF⟩ => ⟨he, TwoW.first h2 h3 h4 hl2 h6 hW hF (wmore_len hl _)⟩
theorem textW {w0 w : World} {g g2 : Nat} {l l2 : List Int} (hT : TwoW w0 w g g2 l l2) (A : Option Addr) (c : Nat) (xs : List ByteArray) (hr : Kd.string.C w A xs.length xs) (hc : xs.length ≤ c) (hsum : (textsB xs).length * 1 ≤ 140737488355328) (hcnt : xs.length * 48 ≤ 140737488355328) :
    Calls Try.prog 27 #[.pointer (some ⟨g, 0, none⟩), .slice A xs.length c] w fun e w' => e = .returned (.int .i64 (wtexts l xs).2) ∧ TwoW w0 w' g g2 (wtexts l xs).1 l2 := by
  obtain ⟨S, S2, h1, h2, h3, h4, ⟨hl, hl2⟩, h6⟩ := hT
  exact (wire_Writer_Text.calls S g l A xs.length c xs w rfl hr hc hsum hcnt h1 hl).mono fun e w' ⟨he, hW, hF⟩ => ⟨he, TwoW.first h2 h3 h4 hl2 h6 hW hF (wtexts_len hl xs)⟩
theorem byteR {w0 w : World} {g g2 : Nat} {l l2 : List Int} (hT : TwoW w0 w g g2 l l2) (A : Option Addr) (c : Nat) (xs : List Int) (hr : (Kd.int .i64).C w A xs.length xs) (hc : xs.length ≤ c) (hsum : xs.length * 8 ≤ 140737488355328) :
    Calls Try.prog 24 #[.pointer (some ⟨g2, 0, none⟩), .slice A xs.length c] w fun e w' => e = .returned (.int .i64 (wbytes l2 xs).2) ∧ TwoW w0 w' g g2 l (wbytes l2 xs).1 := by
  obtain ⟨S, S2, h1, h2, h3, h4, ⟨hl, hl2⟩, h6⟩ := hT
  exact (weighhouseref01_Writer_Byte.calls S2 g2 l2 A xs.length c xs w rfl hr hc hsum h2 hl2).mono fun e w' ⟨he, hW, hF⟩ => ⟨he, TwoW.second h1 h3 h4 hl h6 hW hF (wbytes_len hl2 xs)⟩
theorem intR {w0 w : World} {g g2 : Nat} {l l2 : List Int} (hT : TwoW w0 w g g2 l l2) (A : Option Addr) (c : Nat) (xs : List Int) (hr : (Kd.int .i64).C w A xs.length xs) (hc : xs.length ≤ c) (hsum : xs.length * 8 ≤ 140737488355328) :
    Calls Try.prog 26 #[.pointer (some ⟨g2, 0, none⟩), .slice A xs.length c] w fun e w' => e = .returned (.int .i64 (wmore l2 (ints8 xs)).2) ∧ TwoW w0 w' g g2 l (wmore l2 (ints8 xs)).1 := by
  obtain ⟨S, S2, h1, h2, h3, h4, ⟨hl, hl2⟩, h6⟩ := hT
  exact (weighhouseref01_Writer_Int.calls S2 g2 l2 A xs.length c xs w rfl hr hc hsum h2 hl2).mono fun e w' ⟨he, hW, hF⟩ => ⟨he, TwoW.second h1 h3 h4 hl h6 hW hF (wmore_len hl2 _)⟩
theorem textR {w0 w : World} {g g2 : Nat} {l l2 : List Int} (hT : TwoW w0 w g g2 l l2) (A : Option Addr) (c : Nat) (xs : List ByteArray) (hr : Kd.string.C w A xs.length xs) (hc : xs.length ≤ c) (hsum : (textsB xs).length * 1 ≤ 140737488355328) :
    Calls Try.prog 28 #[.pointer (some ⟨g2, 0, none⟩), .slice A xs.length c] w fun e w' => e = .returned (.int .i64 (wtexts l2 xs).2) ∧ TwoW w0 w' g g2 l (wtexts l2 xs).1 := by
  obtain ⟨S, S2, h1, h2, h3, h4, ⟨hl, hl2⟩, h6⟩ := hT
  exact (weighhouseref01_Writer_Text.calls S2 g2 l2 A xs.length c xs w rfl hr hc hsum h2 hl2).mono fun e w' ⟨he, hW, hF⟩ => ⟨he, TwoW.second h1 h3 h4 hl h6 hW hF (wtexts_len hl2 xs)⟩
theorem bytesW {w0 w : World} {g g2 : Nat} {l l2 : List Int} (hT : TwoW w0 w g g2 l l2) : Calls Try.prog 29 #[.pointer (some ⟨g, 0, none⟩)] w (OwnRes (Kd.int .u8) 5 w l) := by
  obtain ⟨S, S2, h1, h2, h3, h4, ⟨hl, hl2⟩, h6⟩ := hT
  exact wire_Writer_Bytes.calls S g l w h1 hl
/-- The document's writer's bytes, where they lie. -/
theorem TwoW.refB {w0 w : World} {g g2 : Nat} {l l2 : List Int} (hT : TwoW w0 w g g2 l l2) : ∃ A c, w.cell? ⟨g2, 0, none⟩ = some (.slice A l2.length c) ∧ (Kd.int .u8).C w A l2.length l2 := by
  obtain ⟨S, S2, h1, ⟨v, hb, hS, hR⟩, h3, h4, ⟨hl, hl2⟩, h6⟩ := hT
  obtain ⟨A, c, rfl, hc, hC⟩ := Kd.R_reads hR
  exact ⟨A, c, hb.cell 0, hC⟩
/-- Two writers whose blocks lie below b. -/
def TwoK (w0 w : World) (b g g2 : Nat) (l l2 : List Int) : Prop := ∃ S S2, Wr w S g l ∧ Rw w S2 g2 l2 ∧ (∀ k, S k → w0.heap.size ≤ k ∧ k < b ∧ ¬ S2 k) ∧ (∀ k, S2 k → w0.heap.size ≤ k ∧ k < b) ∧ (l.length ≤ 1048576 ∧ l2.length ≤ 1048576) ∧ Below w0.heap.size w0 w ∧ b ≤ w.heap.size
theorem TwoW.keep {w0 w w' : World} {g g2 : Nat} {l l2 : List Int} (h : TwoW w0 w g g2 l l2) (hb : Below w.heap.size w w') : TwoK w0 w' w.heap.size g g2 l l2 := by
  obtain ⟨S, S2, h1, h2, h3, h4, h5, h6⟩ := h
  exact ⟨S, S2, h1.below hb, h2.below hb, h3, h4, h5, h6.trans (hb.mono h6.size), hb.size⟩
theorem TwoK.two {w0 w : World} {b g g2 : Nat} {l l2 : List Int} (h : TwoK w0 w b g g2 l l2) : TwoW w0 w g g2 l l2 := by
  obtain ⟨S, S2, h1, h2, h3, h4, h5, h6, h7⟩ := h
  exact ⟨S, S2, h1, h2, fun k hk => ⟨(h3 k hk).1, by have := (h3 k hk).2.1; omega, (h3 k hk).2.2⟩, fun k hk => ⟨(h4 k hk).1, by have := (h4 k hk).2; omega⟩, h5, h6⟩
theorem TwoK.below {w0 w w' : World} {b g g2 : Nat} {l l2 : List Int} (h : TwoK w0 w b g g2 l l2) (hb : Below w.heap.size w w') : TwoK w0 w' b g g2 l l2 := by
  obtain ⟨S, S2, h1, h2, h3, h4, h5, h6, h7⟩ := h
  have hs := hb.size
  exact ⟨S, S2, h1.below hb, h2.below hb, h3, h4, h5, h6.trans (hb.mono h6.size), by omega⟩
theorem TwoK.set_ {w0 w : World} {b g g2 : Nat} {l l2 : List Int} (h : TwoK w0 w b g g2 l l2) {p : Addr} (hp : b ≤ p.block) (hp0 : w0.heap.size ≤ p.block) (u : Value) : TwoK w0 (w.setCell p u) b g g2 l l2 := by
  obtain ⟨S, S2, h1, h2, h3, h4, h5, h6, h7⟩ := h
  have hk : Kept w (w.setCell p u) (fun k => k = p.block) := Kept.setCell (S := fun k => k = p.block) (Kept.refl w _) (.inl rfl) u
  refine ⟨S, S2, h1.kept hk (fun k hS he => ?_), h2.kept hk (fun k hS he => ?_), h3, h4, h5, h6.setCell hp0 u, by simpa [World.setCell] using h7⟩
  · have := (h3 k hS).2.1
    omega
  · have := (h4 k hS).2
    omega
set_option maxRecDepth 100000 in
set_option maxHeartbeats 4000000 in
theorem weighhouselaw01_WireWrites.calls (A0 : Option Addr) (c0 : Nat) (l0 : List S49) (r : Bool) (w : World) (hr0 : Kd.C k49 w A0 l0.length l0) (hc0 : l0.length ≤ c0) (h : weighhouselaw01_WireWrites.f l0 = some r) :
    Calls Try.prog 7 #[.slice A0 l0.length c0] w fun e w' => e = .returned (.bool r) ∧ Below w.heap.size w w' := by
  have hm : l0.length ≤ 9223372036854775807 := hr0.2.1
  have HR := Aside0.mk hr0
  clear hr0
  unfold weighhouselaw01_WireWrites.f at h
  split at h
  rotate_left
  · cases h
  rename_i hall
  obtain rfl := Option.some.inj h
  have HALL := Aside0.mk hall
  clear hall h
  go_enter Try.func7, Try.ntmps7
  go_upto_region 2 with (go_at_call 22; (with_reducible refine (wire_NewWriter.calls w).mono ?_); rintro e w1 ⟨g, rfl, hW1, hg1, hB1⟩; have HW1 := Aside0.mk hW1; have HB1 := Aside0.mk hB1; clear hW1 hB1)
  have HB2 := Aside0.mk (HB1.out.alloc HB1.out.size (.cells #[.slice none 0 0] 45))
  have HT2 : TwoW w (w1.alloc (.cells #[.slice none 0 0] 45)) g w1.heap.size [] [] := ⟨fun k => k = g, fun k => k = w1.heap.size, HW1.out.below ((Below.refl _ _).alloc (Nat.le_refl _) _), ⟨.slice none 0 0, Blk.new w1 _ _, rfl, Kd.R_nil _ _ _ _ _⟩, fun k hk => by
    subst hk
    have := HW1.out.lt
    simp
    omega, fun k hk => by
    subst hk
    have := HB1.out.size
    simp
    omega, ⟨by simp, by simp⟩, HB2.out⟩
  have HT2 := Aside0.mk HT2
  go_wp2_with (go_at_call 19; (with_reducible refine (weighhouselaw01_knows.calls true _ rfl).mono ?_); rintro e w3 ⟨rfl, hB3⟩; have HT3 := Aside0.mk (HT2.out.below hB3); clear hB3)
  clear HT2 HB2 HW1 HB1 hg1
  obtain ⟨g2, hg2⟩ : ∃ g2, w1.heap.size = g2 := ⟨_, rfl⟩
  rw [hg2] at HT3 ⊢
  clear hg2
  go_loopw [5] (fun i wr => ∃ (j : Nat) (l : List Int), j ≤ l0.length ∧ i = .int .i64 j ∧ Aside0 (TwoW w wr g g2 l l)) (fun i _ => l0.length - (intOf i).toNat)
  case atStart => exact ⟨0, [], Nat.zero_le _, rfl, HT3⟩
  case round =>
    clear HT3
    obtain ⟨j, l, hj, rfl, HT⟩ := hrel
    by_cases hlt : j < l0.length
    · obtain ⟨ad, A1, c1, A2, c2, e, hk0, hk1, hk2, hl1, hC1, hl2, hC2⟩ := at_PutN HR.out j hlt
      cases e
      have hokp := List.all_eq_true.1 HALL.out _ (List.getElem_mem hlt)
      obtain ⟨x, hx⟩ : ∃ x, x = l0[j] := ⟨_, rfl⟩
      rw [← hx] at hk0 hk1 hk2 hl1 hC1 hl2 hC2 hokp
      clear hx
      obtain ⟨f0, f1, f2⟩ := x
      dsimp only at hk0 hk1 hk2 hl1 hC1 hl2 hC2
      simp only [okPut, Bool.and_eq_true, decide_eq_true_eq] at hokp
      obtain ⟨⟨hs1, hs2⟩, hs3⟩ := hokp
      have HK0 := Aside0.mk hk0
      have HK1 := Aside0.mk hk1
      have HK2 := Aside0.mk hk2
      have HC1 := Aside0.mk hC1
      have HC2 := Aside0.mk hC2
      have HS1 := Aside0.mk (show f1.length * 8 ≤ 140737488355328 by omega)
      have HS2 := Aside0.mk (show f2.length * 48 ≤ 140737488355328 by omega)
      have HS3 := Aside0.mk (show (textsB f2).length * 1 ≤ 140737488355328 by omega)
      replace hk0 := (HT.out.bel.cell (World.block_lt_of_cell? w _ hk0)).trans hk0
      clear hk1 hk2 hC1 hC2
      by_cases h0 : f0 = 0
      · have d1 : (f0 == 0) = true := by simp [h0]
        clear h0
        go_upto_region 12 with (fail)
        have HTd := Aside0.mk (HT.out.below ((Below.refl _ _).drew))
        clear HT hk0
        refine start_ (n := 19) (S := fun w' => w'.cell? ⟨(ad.add (j * 3)).block, (ad.add (j * 3)).off + 1, none⟩ = some (.slice A1 f1.length c1)) (ds := []) #[false, false, false, false, false, false, false, false, false, false, false, false, false, false, false, false, false, false, false] (by kernel_rfl) rfl rfl (((HTd.out.bel.cell (World.block_lt_of_cell? w _ HK1.out)).trans HK1.out)) (fun hHeld => ?_)
        generalize wr.drew = wd at HTd hHeld ⊢
        refine pure_ (i := 0) (N := some 49) (v := ?_) (a' := ?_) #[true, false, false, false, false, false, false, false, false, false, false, false, false, false, false, false, false, false, false] rfl rfl (by kernel_rfl) (fun _ _ _ h => h) (Or.inl ⟨by rfl, ?_⟩) ?_ ?_
        rotate_left
        · intro w'
          go_simp
          with_reducible rfl
        rotate_left
        · simp only [Act.put, List.setIfInBounds_toArray, List.set_cons_zero, List.set_cons_succ, i64_w, i32_w]
          rfl
        refine pure_ (i := 2) (N := some 51) (v := ?_) (a' := ?_) #[true, false, true, false, false, false, false, false, false, false, false, false, false, false, false, false, false, false, false] rfl rfl (by kernel_rfl) (fun _ _ _ h => h) (Or.inl ⟨by rfl, ?_⟩) ?_ ?_
        rotate_left
        · intro w'
          go_simp
          with_reducible rfl
        rotate_left
        · simp only [Act.put, List.setIfInBounds_toArray, List.set_cons_zero, List.set_cons_succ, i64_w, i32_w]
          rfl
        refine pure_ (i := 3) (N := some 52) (v := ?_) (a' := ?_) #[true, false, true, true, false, false, false, false, false, false, false, false, false, false, false, false, false, false, false] rfl rfl (by kernel_rfl) (fun _ _ _ h => h) (Or.inl ⟨by rfl, ?_⟩) ?_ ?_
        rotate_left
        · intro w'
          go_simp
          with_reducible rfl
        rotate_left
        · simp only [Act.put, List.setIfInBounds_toArray, List.set_cons_zero, List.set_cons_succ, i64_w, i32_w]
          rfl
        refine pure_ (i := 4) (N := some 53) (v := ?_) (a' := ?_) #[true, false, true, true, true, false, false, false, false, false, false, false, false, false, false, false, false, false, false] rfl rfl (by kernel_rfl) (fun _ _ _ h => h) (Or.inl ⟨by rfl, ?_⟩) ?_ ?_
        rotate_left
        · intro w'
          go_simp
          with_reducible rfl
        rotate_left
        · simp only [Act.put, List.setIfInBounds_toArray, List.set_cons_zero, List.set_cons_succ, i64_w, i32_w]
          rfl
        refine pure_ (i := 5) (N := some 54) (v := ?_) (a' := ?_) #[true, false, true, true, true, true, false, false, false, false, false, false, false, false, false, false, false, false, false] rfl rfl (by kernel_rfl) (fun _ _ _ h => h) (Or.inl ⟨by rfl, ?_⟩) ?_ ?_
        rotate_left
        · intro w'
          go_simp
          with_reducible rfl
        rotate_left
        · simp only [Act.put, List.setIfInBounds_toArray, List.set_cons_zero, List.set_cons_succ, i64_w, i32_w]
          rfl
        refine pure_ (i := 10) (N := some 59) (v := ?_) (a' := ?_) #[true, false, true, true, true, true, false, false, false, false, true, false, false, false, false, false, false, false, false] rfl rfl (by kernel_rfl) (fun _ _ _ h => h) (Or.inl ⟨by rfl, ?_⟩) ?_ ?_
        rotate_left
        · intro w'
          go_simp
          with_reducible rfl
        rotate_left
        · simp only [Act.put, List.setIfInBounds_toArray, List.set_cons_zero, List.set_cons_succ, i64_w, i32_w]
          rfl
        refine pure_ (i := 11) (N := some 60) (v := ?_) (a' := ?_) #[true, false, true, true, true, true, false, false, false, false, true, true, false, false, false, false, false, false, false] rfl rfl (by kernel_rfl) (fun _ _ _ h => h) (Or.inl ⟨by rfl, ?_⟩) ?_ ?_
        rotate_left
        · intro w'
          go_simp
          with_reducible rfl
        rotate_left
        · simp only [Act.put, List.setIfInBounds_toArray, List.set_cons_zero, List.set_cons_succ, i64_w, i32_w]
          rfl
        refine pure_ (i := 12) (N := some 61) (v := ?_) (a' := ?_) #[true, false, true, true, true, true, false, false, false, false, true, true, true, false, false, false, false, false, false] rfl rfl (by kernel_rfl) (fun _ _ _ h => h) (Or.inl ⟨by rfl, ?_⟩) ?_ ?_
        rotate_left
        · intro w'
          go_simp
          with_reducible rfl
        rotate_left
        · simp only [Act.put, List.setIfInBounds_toArray, List.set_cons_zero, List.set_cons_succ, i64_w, i32_w]
          rfl
        refine pure_ (i := 13) (N := some 62) (v := ?_) (a' := ?_) #[true, false, true, true, true, true, false, false, false, false, true, true, true, true, false, false, false, false, false] rfl rfl (by kernel_rfl) (fun _ _ _ h => h) (Or.inl ⟨by rfl, ?_⟩) ?_ ?_
        rotate_left
        · intro w'
          go_simp
          with_reducible rfl
        rotate_left
        · simp only [Act.put, List.setIfInBounds_toArray, List.set_cons_zero, List.set_cons_succ, i64_w, i32_w]
          rfl
        refine pure_ (i := 14) (N := some 63) (v := ?_) (a' := ?_) #[true, false, true, true, true, true, false, false, false, false, true, true, true, true, true, false, false, false, false] rfl rfl (by kernel_rfl) (fun _ _ _ h => h) (Or.inl ⟨by rfl, ?_⟩) ?_ ?_
        rotate_left
        · intro w'
          go_simp
          with_reducible rfl
        rotate_left
        · simp only [Act.put, List.setIfInBounds_toArray, List.set_cons_zero, List.set_cons_succ, i64_w, i32_w]
          rfl
        refine take_ (i := 6) (N := some 55) (v := ?_) (a' := ?_) #[true, false, true, true, true, true, true, false, false, false, true, true, true, true, true, false, false, false, false] rfl rfl (by kernel_rfl) (fun _ _ _ h => h) (Or.inl ⟨by rfl, ?_⟩) hHeld ?_ ?_
        rotate_left
        · intro w' s0
          go_simp
          with_reducible rfl
        rotate_left
        · simp only [Act.put, List.setIfInBounds_toArray, List.set_cons_zero, List.set_cons_succ, i64_w, i32_w]
          rfl
        refine take_ (i := 15) (N := some 64) (v := ?_) (a' := ?_) #[true, false, true, true, true, true, true, false, false, false, true, true, true, true, true, true, false, false, false] rfl rfl (by kernel_rfl) (fun _ _ _ h => h) (Or.inl ⟨by rfl, ?_⟩) hHeld ?_ ?_
        rotate_left
        · intro w' s0
          go_simp
          with_reducible rfl
        rotate_left
        · simp only [Act.put, List.setIfInBounds_toArray, List.set_cons_zero, List.set_cons_succ, i64_w, i32_w]
          rfl
        refine one_ (i := 1) (N := some 50) #[true, true, true, true, true, true, true, false, false, false, true, true, true, true, true, true, false, false, false] rfl rfl (by kernel_rfl) (by decide) (fun K hK => ?_)
        refine Kd.R_lit_step (Kd.int .i64) _ 3 ?hg (N := 50) ?hd (xs := ([] : List Int)) (inner := []) (ok := fun _ => True) (okp := fun _ => True) ?hr ?hp (fun _ hk => hk) trivial (Below.refl _ _) (Nat.le_refl _) (by simp) ?_; (case hd => rfl); (case hg => rfl); (case hr => first | (go_simp; done) | (go_simp; rfl)); (case hp => exact (Reps.none _ _))
        intro v2 w2 hR2 hB2 _ _
        have HR2 := Aside0.mk hR2
        have HB2 := Aside0.mk hB2
        have HT2 := Aside0.mk (HTd.out.below hB2)
        clear hR2 hB2
        refine hK.out _ _ (((HT2.out.bel.cell (World.block_lt_of_cell? w _ HK1.out)).trans HK1.out)) (fun hHeld => ?_)
        clear hK K
        refine norm_ (a' := ?_) ?_ ?_
        rotate_left
        · show Act.put _ (some 50) _ = _
          simp only [Act.put, List.setIfInBounds_toArray, List.set_cons_zero, List.set_cons_succ, i64_w, i32_w]
          rfl
        refine one_ (i := 7) (N := some 56) #[true, true, true, true, true, true, true, true, false, false, true, true, true, true, true, true, false, false, false] rfl rfl (by kernel_rfl) (by decide) (fun K hK => ?_)
        refine Kd.R_append_rows_step (Kd.int .i64) (w0 := wd) (Rr := (Kd.int .i64).K w2) wd.heap.size (by rfl) (.tmp 50) (.tmp 55) 46 3 (.int .i64 0) 8 rfl Try.underlying46 info3 rfl (by decide) (by omega) v2 [] f1 A1 f1.length c1 (fun _ => True) (fun _ => False) rfl rfl HR2.out (Kd.C_below HC1.out HT2.out.bel) (fun x cs hK => hK) (fun _ hk => hk.elim) (fun _ _ => trivial) HB2.out HB2.out.size (by simp only [List.length_nil, Nat.zero_add]; omega) ?_
        intro v3 w3 hR3 hB3 _ _
        rw [List.nil_append] at hR3
        obtain ⟨A3, c3, rfl, hc3, hC3⟩ := Kd.R_reads hR3
        have HC3 := Aside0.mk hC3
        have HT3 := Aside0.mk (HTd.out.below hB3)
        clear hR3 hC3 hB3
        refine hK.out _ _ (((HT3.out.bel.cell (World.block_lt_of_cell? w _ HK1.out)).trans HK1.out)) (fun hHeld => ?_)
        clear hK K
        refine norm_ (a' := ?_) ?_ ?_
        rotate_left
        · show Act.put _ (some 56) _ = _
          simp only [Act.put, List.setIfInBounds_toArray, List.set_cons_zero, List.set_cons_succ, i64_w, i32_w]
          rfl
        refine one_ (i := 8) (N := some 57) #[true, true, true, true, true, true, true, true, true, false, true, true, true, true, true, true, false, false, false] rfl rfl (by kernel_rfl) (by decide) (fun K hK => ?_)
        refine goes_ Try.func23 (by kernel_rfl) rfl #[.pointer (some ⟨g, 0, none⟩), .slice A3 f1.length c3] (by rfl) rfl rfl (by simp only [List.map_toArray, List.map_cons, List.map_nil]; rfl) ?_
        with_reducible refine (byteW HT3.out A3 c3 f1 HC3.out hc3 HS1.out).mono ?_
        rintro e w4 ⟨rfl, hT4⟩
        refine ⟨_, rfl, ?_⟩
        have HT4 := Aside0.mk hT4
        clear hT4
        refine hK.out _ _ (((HT4.out.bel.cell (World.block_lt_of_cell? w _ HK1.out)).trans HK1.out)) (fun hHeld => ?_)
        clear hK K
        refine norm_ (a' := ?_) ?_ ?_
        rotate_left
        · show Act.put _ (some 57) _ = _
          simp only [Act.put, List.setIfInBounds_toArray, List.set_cons_zero, List.set_cons_succ, i64_w, i32_w]
          rfl
        refine one_ (i := 9) (N := some 58) #[true, true, true, true, true, true, true, true, true, true, true, true, true, true, true, true, false, false, false] rfl rfl (by kernel_rfl) (by decide) (fun K hK => ?_)
        refine goes_ Try.func17 (by kernel_rfl) rfl #[.int .i64 (wbytes l f1).2] (by rfl) rfl rfl (by simp only [List.map_toArray, List.map_cons, List.map_nil]; rfl) ?_
        with_reducible refine (weighhouselaw01_num.calls (wbytes l f1).2 (wbytes l f1).2 _ rfl).mono ?_
        rintro e w5 ⟨rfl, hd5⟩
        refine ⟨_, rfl, ?_⟩
        have HT5 := Aside0.mk (HT4.out.below hd5.below)
        clear hd5
        refine hK.out _ _ (((HT5.out.bel.cell (World.block_lt_of_cell? w _ HK1.out)).trans HK1.out)) (fun hHeld => ?_)
        clear hK K
        refine norm_ (a' := ?_) ?_ ?_
        rotate_left
        · show Act.put _ (some 58) _ = _
          simp only [Act.put, List.setIfInBounds_toArray, List.set_cons_zero, List.set_cons_succ, i64_w, i32_w]
          rfl
        refine one_ (i := 16) (N := some 65) #[true, true, true, true, true, true, true, true, true, true, true, true, true, true, true, true, true, false, false] rfl rfl (by kernel_rfl) (by decide) (fun K hK => ?_)
        refine goes_ Try.func24 (by kernel_rfl) rfl #[.pointer (some ⟨g2, 0, none⟩), .slice A1 f1.length c1] (by rfl) rfl rfl (by simp only [List.map_toArray, List.map_cons, List.map_nil]; rfl) ?_
        with_reducible refine (byteR HT5.out A1 c1 f1 (Kd.C_below HC1.out HT5.out.bel) hl1 HS1.out).mono ?_
        rintro e w6 ⟨rfl, hT6⟩
        refine ⟨_, rfl, ?_⟩
        have HT6 := Aside0.mk hT6
        clear hT6
        refine hK.out _ _ (((HT6.out.bel.cell (World.block_lt_of_cell? w _ HK1.out)).trans HK1.out)) (fun hHeld => ?_)
        clear hK K
        refine norm_ (a' := ?_) ?_ ?_
        rotate_left
        · show Act.put _ (some 65) _ = _
          simp only [Act.put, List.setIfInBounds_toArray, List.set_cons_zero, List.set_cons_succ, i64_w, i32_w]
          rfl
        refine pure_ (i := 17) (N := some 66) (v := ?_) (a' := ?_) #[true, true, true, true, true, true, true, true, true, true, true, true, true, true, true, true, true, true, false] rfl rfl (by kernel_rfl) (fun _ _ _ h => h) (Or.inl ⟨by rfl, ?_⟩) ?_ ?_
        rotate_left
        · intro w'
          go_simp
          with_reducible rfl
        rotate_left
        · simp only [Act.put, List.setIfInBounds_toArray, List.set_cons_zero, List.set_cons_succ, i64_w, i32_w]
          rfl
        refine pure_ (i := 18) (N := some 6) (v := ?_) (a' := ?_) #[true, true, true, true, true, true, true, true, true, true, true, true, true, true, true, true, true, true, true] rfl rfl (by kernel_rfl) (fun _ _ _ h => h) (Or.inl ⟨by rfl, ?_⟩) ?_ ?_
        rotate_left
        · intro w'
          go_simp
          with_reducible rfl
        rotate_left
        · simp only [Act.put, List.setIfInBounds_toArray, List.set_cons_zero, List.set_cons_succ, i64_w, i32_w]
          rfl
        refine done_ (by kernel_rfl) ?_
        obtain ⟨l1, hl1'⟩ : ∃ l1, l1 = (wbytes l f1).1 := ⟨_, rfl⟩
        rw [← hl1'] at HT6
        clear hl1'
        go_upto_region 16 with (go_at_call 29; (with_reducible refine (bytesW HT6.out).mono ?_); rintro e w7 ⟨v7, rfl, hR7, hB7⟩; have HT7 := Aside0.mk (HT6.out.keep hB7); have HR7 := Aside0.mk (Kd.R_bound hR7); have HB6 := Aside0.mk HT6.out.bel.size; clear hR7 hB7)
        have hlb1 : l1.length ≤ 1048576 := by
          obtain ⟨_, _, _, _, _, _, hh, _⟩ := HT6.out
          exact hh.1
        clear HT6
        obtain ⟨A7, c7, rfl, hc7, hC7⟩ := Kd.R_reads HR7.out
        have HTd7 := Aside0.mk (HT7.out.below ((Below.refl _ _).drew))
        have HRd7 := Aside0.mk (Kd.R_below HR7.out ((Below.refl _ _).drew))
        have hCd7 := Kd.C_below hC7 ((Below.refl _ _).drew)
        obtain ⟨Ar, cr, hcr, hCr⟩ := HTd7.out.two.refB
        have hcv1 := Kd.C_string (P := Try.prog) (src := 22) (dst := 9) (e := 5) (c := c7) Try.underlying22 Try.underlying5 Try.underlying9 hCd7
        have hcv2 := Kd.C_string (P := Try.prog) (src := 22) (dst := 9) (e := 5) (c := cr) Try.underlying22 Try.underlying5 Try.underlying9 hCr
        obtain ⟨sB, hsB⟩ : ∃ sB, strOfNums l1 = sB := ⟨_, rfl⟩
        rw [hsB] at hcv1 hcv2
        clear hsB hC7 hCd7 hCr HT7 HR7
        refine start_ (n := 12) (S := fun w' => w' = w7.drew ∧ w'.cell? ⟨g2, 0, none⟩ = some (.slice Ar l1.length cr)) (ds := []) #[false, false, false, false, false, false, false, false, false, false, false, false] (by kernel_rfl) rfl rfl ⟨rfl, hcr⟩ (fun hHeld => ?_)
        generalize w7.drew = wd at HTd7 HRd7 hcr hcv1 hcv2 hHeld ⊢
        refine pure_ (i := 0) (N := some 89) (v := ?_) (a' := ?_) #[true, false, false, false, false, false, false, false, false, false, false, false] rfl rfl (by kernel_rfl) (fun _ _ _ h => h) (Or.inl ⟨by rfl, ?_⟩) ?_ ?_
        rotate_left
        · intro w'
          go_simp
          with_reducible rfl
        rotate_left
        · simp only [Act.put, List.setIfInBounds_toArray, List.set_cons_zero, List.set_cons_succ, i64_w, i32_w]
          rfl
        refine pure_ (i := 1) (N := some 90) (v := ?_) (a' := ?_) #[true, true, false, false, false, false, false, false, false, false, false, false] rfl rfl (by kernel_rfl) (fun _ _ _ h => h) (Or.inl ⟨by rfl, ?_⟩) ?_ ?_
        rotate_left
        · intro w'
          go_simp
          with_reducible rfl
        rotate_left
        · simp only [Act.put, List.setIfInBounds_toArray, List.set_cons_zero, List.set_cons_succ, i64_w, i32_w]
          rfl
        refine pure_ (i := 2) (N := some 91) (v := ?_) (a' := ?_) #[true, true, true, false, false, false, false, false, false, false, false, false] rfl rfl (by kernel_rfl) (fun _ _ _ h => h) (Or.inl ⟨by rfl, ?_⟩) ?_ ?_
        rotate_left
        · intro w'
          go_simp
          with_reducible rfl
        rotate_left
        · simp only [Act.put, List.setIfInBounds_toArray, List.set_cons_zero, List.set_cons_succ, i64_w, i32_w]
          rfl
        refine pure_ (i := 3) (N := some 92) (v := ?_) (a' := ?_) #[true, true, true, true, false, false, false, false, false, false, false, false] rfl rfl (by kernel_rfl) (fun _ _ _ h => h) (Or.inl ⟨by rfl, ?_⟩) ?_ ?_
        rotate_left
        · intro w'
          go_simp
          with_reducible rfl
        rotate_left
        · simp only [Act.put, List.setIfInBounds_toArray, List.set_cons_zero, List.set_cons_succ, i64_w, i32_w]
          rfl
        refine pure_ (i := 5) (N := some 94) (v := ?_) (a' := ?_) #[true, true, true, true, false, true, false, false, false, false, false, false] rfl rfl (by kernel_rfl) (fun _ _ _ h => h) (Or.inl ⟨by rfl, ?_⟩) ?_ ?_
        rotate_left
        · intro w'
          go_simp
          with_reducible rfl
        rotate_left
        · simp only [Act.put, List.setIfInBounds_toArray, List.set_cons_zero, List.set_cons_succ, i64_w, i32_w]
          rfl
        refine pure_ (i := 6) (N := some 95) (v := ?_) (a' := ?_) #[true, true, true, true, false, true, true, false, false, false, false, false] rfl rfl (by kernel_rfl) (fun _ _ _ h => h) (Or.inl ⟨by rfl, ?_⟩) ?_ ?_
        rotate_left
        · intro w'
          go_simp
          with_reducible rfl
        rotate_left
        · simp only [Act.put, List.setIfInBounds_toArray, List.set_cons_zero, List.set_cons_succ, i64_w, i32_w]
          rfl
        refine pure_ (i := 7) (N := some 96) (v := ?_) (a' := ?_) #[true, true, true, true, false, true, true, true, false, false, false, false] rfl rfl (by kernel_rfl) (fun _ _ _ h => h) (Or.inl ⟨by rfl, ?_⟩) ?_ ?_
        rotate_left
        · intro w'
          go_simp
          with_reducible rfl
        rotate_left
        · simp only [Act.put, List.setIfInBounds_toArray, List.set_cons_zero, List.set_cons_succ, i64_w, i32_w]
          rfl
        refine take_ (i := 4) (N := some 93) (v := ?_) (a' := ?_) #[true, true, true, true, true, true, true, true, false, false, false, false] rfl rfl (by kernel_rfl) (fun _ _ _ h => h) (Or.inl ⟨by rfl, ?_⟩) hHeld ?_ ?_
        rotate_left
        · rintro w' ⟨s0, s1⟩
          go_simp
          with_reducible rfl
        rotate_left
        · simp only [Act.put, List.setIfInBounds_toArray, List.set_cons_zero, List.set_cons_succ, i64_w, i32_w]
          rfl
        refine take_ (i := 8) (N := some 97) (v := ?_) (a' := ?_) #[true, true, true, true, true, true, true, true, true, false, false, false] rfl rfl (by kernel_rfl) (fun _ _ _ h => h) (Or.inl ⟨by rfl, ?_⟩) hHeld ?_ ?_
        rotate_left
        · rintro w' ⟨s0, s1⟩
          go_simp
          with_reducible rfl
        rotate_left
        · simp only [Act.put, List.setIfInBounds_toArray, List.set_cons_zero, List.set_cons_succ, i64_w, i32_w]
          rfl
        refine take_ (i := 9) (N := some 98) (v := ?_) (a' := ?_) #[true, true, true, true, true, true, true, true, true, true, false, false] rfl rfl (by kernel_rfl) (fun _ _ _ h => h) (Or.inl ⟨by rfl, ?_⟩) hHeld ?_ ?_
        rotate_left
        · rintro w' ⟨s0, s1⟩
          go_simp
          with_reducible rfl
        rotate_left
        · simp only [Act.put, List.setIfInBounds_toArray, List.set_cons_zero, List.set_cons_succ, i64_w, i32_w]
          rfl
        refine pure_ (i := 10) (N := some 99) (v := ?_) (a' := ?_) #[true, true, true, true, true, true, true, true, true, true, true, false] rfl rfl (by kernel_rfl) (fun _ _ _ h => h) (Or.inl ⟨by rfl, ?_⟩) ?_ ?_
        rotate_left
        · intro w'
          go_simp
          with_reducible rfl
        rotate_left
        · simp only [Act.put, List.setIfInBounds_toArray, List.set_cons_zero, List.set_cons_succ, i64_w, i32_w]
          rfl
        refine pure_ (i := 11) (N := some 100) (v := ?_) (a' := ?_) #[true, true, true, true, true, true, true, true, true, true, true, true] rfl rfl (by kernel_rfl) (fun _ _ _ h => h) (Or.inl ⟨by rfl, ?_⟩) ?_ ?_
        rotate_left
        · intro w'
          go_simp
          with_reducible rfl
        rotate_left
        · simp only [Act.put, List.setIfInBounds_toArray, List.set_cons_zero, List.set_cons_succ, i64_w, i32_w]
          rfl
        refine done_ (by kernel_rfl) ?_
        clear hHeld hcr hcv1 hcv2
        go_wp2
        go_loopw [8] (fun q wq => ∃ (m : Nat) (y : List Int), m ≤ l1.length ∧ q = .int .i64 m ∧ Aside0 (y.length = l1.length) ∧ Aside0 ((Kd.int .u8).R 5 wq w6.heap.size (fun k => w6.heap.size ≤ k) (.slice A7 l1.length c7) y) ∧ Aside0 (TwoK w wq w6.heap.size g g2 l1 l1)) (fun q _ => l1.length - (intOf q).toNat)
        case atStart => exact ⟨0, l1, Nat.zero_le _, rfl, ⟨rfl⟩, ⟨Kd.R_mono HRd7.out (fun k hk => hk.2.1)⟩, HTd7⟩
        case round =>
          clear HTd7 HRd7
          obtain ⟨m, y, hm1, rfl, HY, HRq, HTq⟩ := hrel
          by_cases hlt1 : m < l1.length
          · obtain ⟨inner, hin⟩ := Kd.R_own HRq.out
            obtain ⟨gb, cb, hgb, hgb1, _⟩ := hin.form (by have := HY.out; omega)
            injection hgb with e1 e2 e3
            subst e1
            subst e3
            clear hin e2
            have hcel := Kd.R_celln (0 : Int) HRq.out m (by omega) (by omega)
            rw [Int.toNat_natCast] at hcel
            obtain ⟨hce1, hce2⟩ := hcel
            obtain ⟨z, hz⟩ : ∃ z, rdOf (0 : Int) y (m : Int) = z := ⟨_, rfl⟩
            rw [hz] at hce1
            clear hz
            go_wp2
            go_roundw
            case rel => exact ⟨m + 1, _, by omega, by go_num, ⟨by rw [List.length_set]; exact HY.out⟩, ⟨Kd.R_putn HRq.out (m : Int) _⟩, ⟨HTq.out.set_ hgb1 (Nat.le_trans HB6.out hgb1) _⟩⟩
            case measure => simp [intOf]; omega
          · go_wp2
            go_roundw
            case rel => exact ⟨j + 1, l1, by omega, by go_num, ⟨HTq.out.two⟩⟩
            case measure => simp [intOf]; omega
      have d1 : (f0 == 0) = false := by simp [h0]
      by_cases h1 : f0 = 1
      · have d2 : (f0 == 1) = true := by simp [h1]
        clear h0 h1
        go_upto_region 14 with (fail)
        have HTd := Aside0.mk (HT.out.below ((Below.refl _ _).drew))
        clear HT hk0
        refine start_ (n := 19) (S := fun w' => w'.cell? ⟨(ad.add (j * 3)).block, (ad.add (j * 3)).off + 1, none⟩ = some (.slice A1 f1.length c1)) (ds := []) #[false, false, false, false, false, false, false, false, false, false, false, false, false, false, false, false, false, false, false] (by kernel_rfl) rfl rfl (((HTd.out.bel.cell (World.block_lt_of_cell? w _ HK1.out)).trans HK1.out)) (fun hHeld => ?_)
        generalize wr.drew = wd at HTd hHeld ⊢
        refine pure_ (i := 0) (N := some 69) (v := ?_) (a' := ?_) #[true, false, false, false, false, false, false, false, false, false, false, false, false, false, false, false, false, false, false] rfl rfl (by kernel_rfl) (fun _ _ _ h => h) (Or.inl ⟨by rfl, ?_⟩) ?_ ?_
        rotate_left
        · intro w'
          go_simp
          with_reducible rfl
        rotate_left
        · simp only [Act.put, List.setIfInBounds_toArray, List.set_cons_zero, List.set_cons_succ, i64_w, i32_w]
          rfl
        refine pure_ (i := 2) (N := some 71) (v := ?_) (a' := ?_) #[true, false, true, false, false, false, false, false, false, false, false, false, false, false, false, false, false, false, false] rfl rfl (by kernel_rfl) (fun _ _ _ h => h) (Or.inl ⟨by rfl, ?_⟩) ?_ ?_
        rotate_left
        · intro w'
          go_simp
          with_reducible rfl
        rotate_left
        · simp only [Act.put, List.setIfInBounds_toArray, List.set_cons_zero, List.set_cons_succ, i64_w, i32_w]
          rfl
        refine pure_ (i := 3) (N := some 72) (v := ?_) (a' := ?_) #[true, false, true, true, false, false, false, false, false, false, false, false, false, false, false, false, false, false, false] rfl rfl (by kernel_rfl) (fun _ _ _ h => h) (Or.inl ⟨by rfl, ?_⟩) ?_ ?_
        rotate_left
        · intro w'
          go_simp
          with_reducible rfl
        rotate_left
        · simp only [Act.put, List.setIfInBounds_toArray, List.set_cons_zero, List.set_cons_succ, i64_w, i32_w]
          rfl
        refine pure_ (i := 4) (N := some 73) (v := ?_) (a' := ?_) #[true, false, true, true, true, false, false, false, false, false, false, false, false, false, false, false, false, false, false] rfl rfl (by kernel_rfl) (fun _ _ _ h => h) (Or.inl ⟨by rfl, ?_⟩) ?_ ?_
        rotate_left
        · intro w'
          go_simp
          with_reducible rfl
        rotate_left
        · simp only [Act.put, List.setIfInBounds_toArray, List.set_cons_zero, List.set_cons_succ, i64_w, i32_w]
          rfl
        refine pure_ (i := 5) (N := some 74) (v := ?_) (a' := ?_) #[true, false, true, true, true, true, false, false, false, false, false, false, false, false, false, false, false, false, false] rfl rfl (by kernel_rfl) (fun _ _ _ h => h) (Or.inl ⟨by rfl, ?_⟩) ?_ ?_
        rotate_left
        · intro w'
          go_simp
          with_reducible rfl
        rotate_left
        · simp only [Act.put, List.setIfInBounds_toArray, List.set_cons_zero, List.set_cons_succ, i64_w, i32_w]
          rfl
        refine pure_ (i := 10) (N := some 79) (v := ?_) (a' := ?_) #[true, false, true, true, true, true, false, false, false, false, true, false, false, false, false, false, false, false, false] rfl rfl (by kernel_rfl) (fun _ _ _ h => h) (Or.inl ⟨by rfl, ?_⟩) ?_ ?_
        rotate_left
        · intro w'
          go_simp
          with_reducible rfl
        rotate_left
        · simp only [Act.put, List.setIfInBounds_toArray, List.set_cons_zero, List.set_cons_succ, i64_w, i32_w]
          rfl
        refine pure_ (i := 11) (N := some 80) (v := ?_) (a' := ?_) #[true, false, true, true, true, true, false, false, false, false, true, true, false, false, false, false, false, false, false] rfl rfl (by kernel_rfl) (fun _ _ _ h => h) (Or.inl ⟨by rfl, ?_⟩) ?_ ?_
        rotate_left
        · intro w'
          go_simp
          with_reducible rfl
        rotate_left
        · simp only [Act.put, List.setIfInBounds_toArray, List.set_cons_zero, List.set_cons_succ, i64_w, i32_w]
          rfl
        refine pure_ (i := 12) (N := some 81) (v := ?_) (a' := ?_) #[true, false, true, true, true, true, false, false, false, false, true, true, true, false, false, false, false, false, false] rfl rfl (by kernel_rfl) (fun _ _ _ h => h) (Or.inl ⟨by rfl, ?_⟩) ?_ ?_
        rotate_left
        · intro w'
          go_simp
          with_reducible rfl
        rotate_left
        · simp only [Act.put, List.setIfInBounds_toArray, List.set_cons_zero, List.set_cons_succ, i64_w, i32_w]
          rfl
        refine pure_ (i := 13) (N := some 82) (v := ?_) (a' := ?_) #[true, false, true, true, true, true, false, false, false, false, true, true, true, true, false, false, false, false, false] rfl rfl (by kernel_rfl) (fun _ _ _ h => h) (Or.inl ⟨by rfl, ?_⟩) ?_ ?_
        rotate_left
        · intro w'
          go_simp
          with_reducible rfl
        rotate_left
        · simp only [Act.put, List.setIfInBounds_toArray, List.set_cons_zero, List.set_cons_succ, i64_w, i32_w]
          rfl
        refine pure_ (i := 14) (N := some 83) (v := ?_) (a' := ?_) #[true, false, true, true, true, true, false, false, false, false, true, true, true, true, true, false, false, false, false] rfl rfl (by kernel_rfl) (fun _ _ _ h => h) (Or.inl ⟨by rfl, ?_⟩) ?_ ?_
        rotate_left
        · intro w'
          go_simp
          with_reducible rfl
        rotate_left
        · simp only [Act.put, List.setIfInBounds_toArray, List.set_cons_zero, List.set_cons_succ, i64_w, i32_w]
          rfl
        refine take_ (i := 6) (N := some 75) (v := ?_) (a' := ?_) #[true, false, true, true, true, true, true, false, false, false, true, true, true, true, true, false, false, false, false] rfl rfl (by kernel_rfl) (fun _ _ _ h => h) (Or.inl ⟨by rfl, ?_⟩) hHeld ?_ ?_
        rotate_left
        · intro w' s0
          go_simp
          with_reducible rfl
        rotate_left
        · simp only [Act.put, List.setIfInBounds_toArray, List.set_cons_zero, List.set_cons_succ, i64_w, i32_w]
          rfl
        refine take_ (i := 15) (N := some 84) (v := ?_) (a' := ?_) #[true, false, true, true, true, true, true, false, false, false, true, true, true, true, true, true, false, false, false] rfl rfl (by kernel_rfl) (fun _ _ _ h => h) (Or.inl ⟨by rfl, ?_⟩) hHeld ?_ ?_
        rotate_left
        · intro w' s0
          go_simp
          with_reducible rfl
        rotate_left
        · simp only [Act.put, List.setIfInBounds_toArray, List.set_cons_zero, List.set_cons_succ, i64_w, i32_w]
          rfl
        refine one_ (i := 1) (N := some 70) #[true, true, true, true, true, true, true, false, false, false, true, true, true, true, true, true, false, false, false] rfl rfl (by kernel_rfl) (by decide) (fun K hK => ?_)
        refine Kd.R_lit_step (Kd.int .i64) _ 3 ?hg (N := 70) ?hd (xs := ([] : List Int)) (inner := []) (ok := fun _ => True) (okp := fun _ => True) ?hr ?hp (fun _ hk => hk) trivial (Below.refl _ _) (Nat.le_refl _) (by simp) ?_; (case hd => rfl); (case hg => rfl); (case hr => first | (go_simp; done) | (go_simp; rfl)); (case hp => exact (Reps.none _ _))
        intro v2 w2 hR2 hB2 _ _
        have HR2 := Aside0.mk hR2
        have HB2 := Aside0.mk hB2
        have HT2 := Aside0.mk (HTd.out.below hB2)
        clear hR2 hB2
        refine hK.out _ _ (((HT2.out.bel.cell (World.block_lt_of_cell? w _ HK1.out)).trans HK1.out)) (fun hHeld => ?_)
        clear hK K
        refine norm_ (a' := ?_) ?_ ?_
        rotate_left
        · show Act.put _ (some 70) _ = _
          simp only [Act.put, List.setIfInBounds_toArray, List.set_cons_zero, List.set_cons_succ, i64_w, i32_w]
          rfl
        refine one_ (i := 7) (N := some 76) #[true, true, true, true, true, true, true, true, false, false, true, true, true, true, true, true, false, false, false] rfl rfl (by kernel_rfl) (by decide) (fun K hK => ?_)
        refine Kd.R_append_rows_step (Kd.int .i64) (w0 := wd) (Rr := (Kd.int .i64).K w2) wd.heap.size (by rfl) (.tmp 70) (.tmp 75) 46 3 (.int .i64 0) 8 rfl Try.underlying46 info3 rfl (by decide) (by omega) v2 [] f1 A1 f1.length c1 (fun _ => True) (fun _ => False) rfl rfl HR2.out (Kd.C_below HC1.out HT2.out.bel) (fun x cs hK => hK) (fun _ hk => hk.elim) (fun _ _ => trivial) HB2.out HB2.out.size (by simp only [List.length_nil, Nat.zero_add]; omega) ?_
        intro v3 w3 hR3 hB3 _ _
        rw [List.nil_append] at hR3
        obtain ⟨A3, c3, rfl, hc3, hC3⟩ := Kd.R_reads hR3
        have HC3 := Aside0.mk hC3
        have HT3 := Aside0.mk (HTd.out.below hB3)
        clear hR3 hC3 hB3
        refine hK.out _ _ (((HT3.out.bel.cell (World.block_lt_of_cell? w _ HK1.out)).trans HK1.out)) (fun hHeld => ?_)
        clear hK K
        refine norm_ (a' := ?_) ?_ ?_
        rotate_left
        · show Act.put _ (some 76) _ = _
          simp only [Act.put, List.setIfInBounds_toArray, List.set_cons_zero, List.set_cons_succ, i64_w, i32_w]
          rfl
        refine one_ (i := 8) (N := some 77) #[true, true, true, true, true, true, true, true, true, false, true, true, true, true, true, true, false, false, false] rfl rfl (by kernel_rfl) (by decide) (fun K hK => ?_)
        refine goes_ Try.func25 (by kernel_rfl) rfl #[.pointer (some ⟨g, 0, none⟩), .slice A3 f1.length c3] (by rfl) rfl rfl (by simp only [List.map_toArray, List.map_cons, List.map_nil]; rfl) ?_
        with_reducible refine (intW HT3.out A3 c3 f1 HC3.out hc3 HS1.out).mono ?_
        rintro e w4 ⟨rfl, hT4⟩
        refine ⟨_, rfl, ?_⟩
        have HT4 := Aside0.mk hT4
        clear hT4
        refine hK.out _ _ (((HT4.out.bel.cell (World.block_lt_of_cell? w _ HK1.out)).trans HK1.out)) (fun hHeld => ?_)
        clear hK K
        refine norm_ (a' := ?_) ?_ ?_
        rotate_left
        · show Act.put _ (some 77) _ = _
          simp only [Act.put, List.setIfInBounds_toArray, List.set_cons_zero, List.set_cons_succ, i64_w, i32_w]
          rfl
        refine one_ (i := 9) (N := some 78) #[true, true, true, true, true, true, true, true, true, true, true, true, true, true, true, true, false, false, false] rfl rfl (by kernel_rfl) (by decide) (fun K hK => ?_)
        refine goes_ Try.func17 (by kernel_rfl) rfl #[.int .i64 (wmore l (ints8 f1)).2] (by rfl) rfl rfl (by simp only [List.map_toArray, List.map_cons, List.map_nil]; rfl) ?_
        with_reducible refine (weighhouselaw01_num.calls (wmore l (ints8 f1)).2 (wmore l (ints8 f1)).2 _ rfl).mono ?_
        rintro e w5 ⟨rfl, hd5⟩
        refine ⟨_, rfl, ?_⟩
        have HT5 := Aside0.mk (HT4.out.below hd5.below)
        clear hd5
        refine hK.out _ _ (((HT5.out.bel.cell (World.block_lt_of_cell? w _ HK1.out)).trans HK1.out)) (fun hHeld => ?_)
        clear hK K
        refine norm_ (a' := ?_) ?_ ?_
        rotate_left
        · show Act.put _ (some 78) _ = _
          simp only [Act.put, List.setIfInBounds_toArray, List.set_cons_zero, List.set_cons_succ, i64_w, i32_w]
          rfl
        refine one_ (i := 16) (N := some 85) #[true, true, true, true, true, true, true, true, true, true, true, true, true, true, true, true, true, false, false] rfl rfl (by kernel_rfl) (by decide) (fun K hK => ?_)
        refine goes_ Try.func26 (by kernel_rfl) rfl #[.pointer (some ⟨g2, 0, none⟩), .slice A1 f1.length c1] (by rfl) rfl rfl (by simp only [List.map_toArray, List.map_cons, List.map_nil]; rfl) ?_
        with_reducible refine (intR HT5.out A1 c1 f1 (Kd.C_below HC1.out HT5.out.bel) hl1 HS1.out).mono ?_
        rintro e w6 ⟨rfl, hT6⟩
        refine ⟨_, rfl, ?_⟩
        have HT6 := Aside0.mk hT6
        clear hT6
        refine hK.out _ _ (((HT6.out.bel.cell (World.block_lt_of_cell? w _ HK1.out)).trans HK1.out)) (fun hHeld => ?_)
        clear hK K
        refine norm_ (a' := ?_) ?_ ?_
        rotate_left
        · show Act.put _ (some 85) _ = _
          simp only [Act.put, List.setIfInBounds_toArray, List.set_cons_zero, List.set_cons_succ, i64_w, i32_w]
          rfl
        refine pure_ (i := 17) (N := some 86) (v := ?_) (a' := ?_) #[true, true, true, true, true, true, true, true, true, true, true, true, true, true, true, true, true, true, false] rfl rfl (by kernel_rfl) (fun _ _ _ h => h) (Or.inl ⟨by rfl, ?_⟩) ?_ ?_
        rotate_left
        · intro w'
          go_simp
          with_reducible rfl
        rotate_left
        · simp only [Act.put, List.setIfInBounds_toArray, List.set_cons_zero, List.set_cons_succ, i64_w, i32_w]
          rfl
        refine pure_ (i := 18) (N := some 6) (v := ?_) (a' := ?_) #[true, true, true, true, true, true, true, true, true, true, true, true, true, true, true, true, true, true, true] rfl rfl (by kernel_rfl) (fun _ _ _ h => h) (Or.inl ⟨by rfl, ?_⟩) ?_ ?_
        rotate_left
        · intro w'
          go_simp
          with_reducible rfl
        rotate_left
        · simp only [Act.put, List.setIfInBounds_toArray, List.set_cons_zero, List.set_cons_succ, i64_w, i32_w]
          rfl
        refine done_ (by kernel_rfl) ?_
        obtain ⟨l1, hl1'⟩ : ∃ l1, l1 = (wmore l (ints8 f1)).1 := ⟨_, rfl⟩
        rw [← hl1'] at HT6
        clear hl1'
        go_upto_region 16 with (go_at_call 29; (with_reducible refine (bytesW HT6.out).mono ?_); rintro e w7 ⟨v7, rfl, hR7, hB7⟩; have HT7 := Aside0.mk (HT6.out.keep hB7); have HR7 := Aside0.mk (Kd.R_bound hR7); have HB6 := Aside0.mk HT6.out.bel.size; clear hR7 hB7)
        have hlb1 : l1.length ≤ 1048576 := by
          obtain ⟨_, _, _, _, _, _, hh, _⟩ := HT6.out
          exact hh.1
        clear HT6
        obtain ⟨A7, c7, rfl, hc7, hC7⟩ := Kd.R_reads HR7.out
        have HTd7 := Aside0.mk (HT7.out.below ((Below.refl _ _).drew))
        have HRd7 := Aside0.mk (Kd.R_below HR7.out ((Below.refl _ _).drew))
        have hCd7 := Kd.C_below hC7 ((Below.refl _ _).drew)
        obtain ⟨Ar, cr, hcr, hCr⟩ := HTd7.out.two.refB
        have hcv1 := Kd.C_string (P := Try.prog) (src := 22) (dst := 9) (e := 5) (c := c7) Try.underlying22 Try.underlying5 Try.underlying9 hCd7
        have hcv2 := Kd.C_string (P := Try.prog) (src := 22) (dst := 9) (e := 5) (c := cr) Try.underlying22 Try.underlying5 Try.underlying9 hCr
        obtain ⟨sB, hsB⟩ : ∃ sB, strOfNums l1 = sB := ⟨_, rfl⟩
        rw [hsB] at hcv1 hcv2
        clear hsB hC7 hCd7 hCr HT7 HR7
        refine start_ (n := 12) (S := fun w' => w' = w7.drew ∧ w'.cell? ⟨g2, 0, none⟩ = some (.slice Ar l1.length cr)) (ds := []) #[false, false, false, false, false, false, false, false, false, false, false, false] (by kernel_rfl) rfl rfl ⟨rfl, hcr⟩ (fun hHeld => ?_)
        generalize w7.drew = wd at HTd7 HRd7 hcr hcv1 hcv2 hHeld ⊢
        refine pure_ (i := 0) (N := some 89) (v := ?_) (a' := ?_) #[true, false, false, false, false, false, false, false, false, false, false, false] rfl rfl (by kernel_rfl) (fun _ _ _ h => h) (Or.inl ⟨by rfl, ?_⟩) ?_ ?_
        rotate_left
        · intro w'
          go_simp
          with_reducible rfl
        rotate_left
        · simp only [Act.put, List.setIfInBounds_toArray, List.set_cons_zero, List.set_cons_succ, i64_w, i32_w]
          rfl
        refine pure_ (i := 1) (N := some 90) (v := ?_) (a' := ?_) #[true, true, false, false, false, false, false, false, false, false, false, false] rfl rfl (by kernel_rfl) (fun _ _ _ h => h) (Or.inl ⟨by rfl, ?_⟩) ?_ ?_
        rotate_left
        · intro w'
          go_simp
          with_reducible rfl
        rotate_left
        · simp only [Act.put, List.setIfInBounds_toArray, List.set_cons_zero, List.set_cons_succ, i64_w, i32_w]
          rfl
        refine pure_ (i := 2) (N := some 91) (v := ?_) (a' := ?_) #[true, true, true, false, false, false, false, false, false, false, false, false] rfl rfl (by kernel_rfl) (fun _ _ _ h => h) (Or.inl ⟨by rfl, ?_⟩) ?_ ?_
        rotate_left
        · intro w'
          go_simp
          with_reducible rfl
        rotate_left
        · simp only [Act.put, List.setIfInBounds_toArray, List.set_cons_zero, List.set_cons_succ, i64_w, i32_w]
          rfl
        refine pure_ (i := 3) (N := some 92) (v := ?_) (a' := ?_) #[true, true, true, true, false, false, false, false, false, false, false, false] rfl rfl (by kernel_rfl) (fun _ _ _ h => h) (Or.inl ⟨by rfl, ?_⟩) ?_ ?_
        rotate_left
        · intro w'
          go_simp
          with_reducible rfl
        rotate_left
        · simp only [Act.put, List.setIfInBounds_toArray, List.set_cons_zero, List.set_cons_succ, i64_w, i32_w]
          rfl
        refine pure_ (i := 5) (N := some 94) (v := ?_) (a' := ?_) #[true, true, true, true, false, true, false, false, false, false, false, false] rfl rfl (by kernel_rfl) (fun _ _ _ h => h) (Or.inl ⟨by rfl, ?_⟩) ?_ ?_
        rotate_left
        · intro w'
          go_simp
          with_reducible rfl
        rotate_left
        · simp only [Act.put, List.setIfInBounds_toArray, List.set_cons_zero, List.set_cons_succ, i64_w, i32_w]
          rfl
        refine pure_ (i := 6) (N := some 95) (v := ?_) (a' := ?_) #[true, true, true, true, false, true, true, false, false, false, false, false] rfl rfl (by kernel_rfl) (fun _ _ _ h => h) (Or.inl ⟨by rfl, ?_⟩) ?_ ?_
        rotate_left
        · intro w'
          go_simp
          with_reducible rfl
        rotate_left
        · simp only [Act.put, List.setIfInBounds_toArray, List.set_cons_zero, List.set_cons_succ, i64_w, i32_w]
          rfl
        refine pure_ (i := 7) (N := some 96) (v := ?_) (a' := ?_) #[true, true, true, true, false, true, true, true, false, false, false, false] rfl rfl (by kernel_rfl) (fun _ _ _ h => h) (Or.inl ⟨by rfl, ?_⟩) ?_ ?_
        rotate_left
        · intro w'
          go_simp
          with_reducible rfl
        rotate_left
        · simp only [Act.put, List.setIfInBounds_toArray, List.set_cons_zero, List.set_cons_succ, i64_w, i32_w]
          rfl
        refine take_ (i := 4) (N := some 93) (v := ?_) (a' := ?_) #[true, true, true, true, true, true, true, true, false, false, false, false] rfl rfl (by kernel_rfl) (fun _ _ _ h => h) (Or.inl ⟨by rfl, ?_⟩) hHeld ?_ ?_
        rotate_left
        · rintro w' ⟨s0, s1⟩
          go_simp
          with_reducible rfl
        rotate_left
        · simp only [Act.put, List.setIfInBounds_toArray, List.set_cons_zero, List.set_cons_succ, i64_w, i32_w]
          rfl
        refine take_ (i := 8) (N := some 97) (v := ?_) (a' := ?_) #[true, true, true, true, true, true, true, true, true, false, false, false] rfl rfl (by kernel_rfl) (fun _ _ _ h => h) (Or.inl ⟨by rfl, ?_⟩) hHeld ?_ ?_
        rotate_left
        · rintro w' ⟨s0, s1⟩
          go_simp
          with_reducible rfl
        rotate_left
        · simp only [Act.put, List.setIfInBounds_toArray, List.set_cons_zero, List.set_cons_succ, i64_w, i32_w]
          rfl
        refine take_ (i := 9) (N := some 98) (v := ?_) (a' := ?_) #[true, true, true, true, true, true, true, true, true, true, false, false] rfl rfl (by kernel_rfl) (fun _ _ _ h => h) (Or.inl ⟨by rfl, ?_⟩) hHeld ?_ ?_
        rotate_left
        · rintro w' ⟨s0, s1⟩
          go_simp
          with_reducible rfl
        rotate_left
        · simp only [Act.put, List.setIfInBounds_toArray, List.set_cons_zero, List.set_cons_succ, i64_w, i32_w]
          rfl
        refine pure_ (i := 10) (N := some 99) (v := ?_) (a' := ?_) #[true, true, true, true, true, true, true, true, true, true, true, false] rfl rfl (by kernel_rfl) (fun _ _ _ h => h) (Or.inl ⟨by rfl, ?_⟩) ?_ ?_
        rotate_left
        · intro w'
          go_simp
          with_reducible rfl
        rotate_left
        · simp only [Act.put, List.setIfInBounds_toArray, List.set_cons_zero, List.set_cons_succ, i64_w, i32_w]
          rfl
        refine pure_ (i := 11) (N := some 100) (v := ?_) (a' := ?_) #[true, true, true, true, true, true, true, true, true, true, true, true] rfl rfl (by kernel_rfl) (fun _ _ _ h => h) (Or.inl ⟨by rfl, ?_⟩) ?_ ?_
        rotate_left
        · intro w'
          go_simp
          with_reducible rfl
        rotate_left
        · simp only [Act.put, List.setIfInBounds_toArray, List.set_cons_zero, List.set_cons_succ, i64_w, i32_w]
          rfl
        refine done_ (by kernel_rfl) ?_
        clear hHeld hcr hcv1 hcv2
        go_wp2
        go_loopw [8] (fun q wq => ∃ (m : Nat) (y : List Int), m ≤ l1.length ∧ q = .int .i64 m ∧ Aside0 (y.length = l1.length) ∧ Aside0 ((Kd.int .u8).R 5 wq w6.heap.size (fun k => w6.heap.size ≤ k) (.slice A7 l1.length c7) y) ∧ Aside0 (TwoK w wq w6.heap.size g g2 l1 l1)) (fun q _ => l1.length - (intOf q).toNat)
        case atStart => exact ⟨0, l1, Nat.zero_le _, rfl, ⟨rfl⟩, ⟨Kd.R_mono HRd7.out (fun k hk => hk.2.1)⟩, HTd7⟩
        case round =>
          clear HTd7 HRd7
          obtain ⟨m, y, hm1, rfl, HY, HRq, HTq⟩ := hrel
          by_cases hlt1 : m < l1.length
          · obtain ⟨inner, hin⟩ := Kd.R_own HRq.out
            obtain ⟨gb, cb, hgb, hgb1, _⟩ := hin.form (by have := HY.out; omega)
            injection hgb with e1 e2 e3
            subst e1
            subst e3
            clear hin e2
            have hcel := Kd.R_celln (0 : Int) HRq.out m (by omega) (by omega)
            rw [Int.toNat_natCast] at hcel
            obtain ⟨hce1, hce2⟩ := hcel
            obtain ⟨z, hz⟩ : ∃ z, rdOf (0 : Int) y (m : Int) = z := ⟨_, rfl⟩
            rw [hz] at hce1
            clear hz
            go_wp2
            go_roundw
            case rel => exact ⟨m + 1, _, by omega, by go_num, ⟨by rw [List.length_set]; exact HY.out⟩, ⟨Kd.R_putn HRq.out (m : Int) _⟩, ⟨HTq.out.set_ hgb1 (Nat.le_trans HB6.out hgb1) _⟩⟩
            case measure => simp [intOf]; omega
          · go_wp2
            go_roundw
            case rel => exact ⟨j + 1, l1, by omega, by go_num, ⟨HTq.out.two⟩⟩
            case measure => simp [intOf]; omega
      · have d2 : (f0 == 1) = false := by simp [h1]
        clear h0 h1
        go_upto_region 10 with (fail)
        have HTd := Aside0.mk (HT.out.below ((Below.refl _ _).drew))
        clear HT hk0
        refine start_ (n := 19) (S := fun w' => w'.cell? ⟨(ad.add (j * 3)).block, (ad.add (j * 3)).off + 2, none⟩ = some (.slice A2 f2.length c2)) (ds := []) #[false, false, false, false, false, false, false, false, false, false, false, false, false, false, false, false, false, false, false] (by kernel_rfl) rfl rfl (((HTd.out.bel.cell (World.block_lt_of_cell? w _ HK2.out)).trans HK2.out)) (fun hHeld => ?_)
        generalize wr.drew = wd at HTd hHeld ⊢
        refine pure_ (i := 0) (N := some 29) (v := ?_) (a' := ?_) #[true, false, false, false, false, false, false, false, false, false, false, false, false, false, false, false, false, false, false] rfl rfl (by kernel_rfl) (fun _ _ _ h => h) (Or.inl ⟨by rfl, ?_⟩) ?_ ?_
        rotate_left
        · intro w'
          go_simp
          with_reducible rfl
        rotate_left
        · simp only [Act.put, List.setIfInBounds_toArray, List.set_cons_zero, List.set_cons_succ, i64_w, i32_w]
          rfl
        refine pure_ (i := 2) (N := some 31) (v := ?_) (a' := ?_) #[true, false, true, false, false, false, false, false, false, false, false, false, false, false, false, false, false, false, false] rfl rfl (by kernel_rfl) (fun _ _ _ h => h) (Or.inl ⟨by rfl, ?_⟩) ?_ ?_
        rotate_left
        · intro w'
          go_simp
          with_reducible rfl
        rotate_left
        · simp only [Act.put, List.setIfInBounds_toArray, List.set_cons_zero, List.set_cons_succ, i64_w, i32_w]
          rfl
        refine pure_ (i := 3) (N := some 32) (v := ?_) (a' := ?_) #[true, false, true, true, false, false, false, false, false, false, false, false, false, false, false, false, false, false, false] rfl rfl (by kernel_rfl) (fun _ _ _ h => h) (Or.inl ⟨by rfl, ?_⟩) ?_ ?_
        rotate_left
        · intro w'
          go_simp
          with_reducible rfl
        rotate_left
        · simp only [Act.put, List.setIfInBounds_toArray, List.set_cons_zero, List.set_cons_succ, i64_w, i32_w]
          rfl
        refine pure_ (i := 4) (N := some 33) (v := ?_) (a' := ?_) #[true, false, true, true, true, false, false, false, false, false, false, false, false, false, false, false, false, false, false] rfl rfl (by kernel_rfl) (fun _ _ _ h => h) (Or.inl ⟨by rfl, ?_⟩) ?_ ?_
        rotate_left
        · intro w'
          go_simp
          with_reducible rfl
        rotate_left
        · simp only [Act.put, List.setIfInBounds_toArray, List.set_cons_zero, List.set_cons_succ, i64_w, i32_w]
          rfl
        refine pure_ (i := 5) (N := some 34) (v := ?_) (a' := ?_) #[true, false, true, true, true, true, false, false, false, false, false, false, false, false, false, false, false, false, false] rfl rfl (by kernel_rfl) (fun _ _ _ h => h) (Or.inl ⟨by rfl, ?_⟩) ?_ ?_
        rotate_left
        · intro w'
          go_simp
          with_reducible rfl
        rotate_left
        · simp only [Act.put, List.setIfInBounds_toArray, List.set_cons_zero, List.set_cons_succ, i64_w, i32_w]
          rfl
        refine pure_ (i := 10) (N := some 39) (v := ?_) (a' := ?_) #[true, false, true, true, true, true, false, false, false, false, true, false, false, false, false, false, false, false, false] rfl rfl (by kernel_rfl) (fun _ _ _ h => h) (Or.inl ⟨by rfl, ?_⟩) ?_ ?_
        rotate_left
        · intro w'
          go_simp
          with_reducible rfl
        rotate_left
        · simp only [Act.put, List.setIfInBounds_toArray, List.set_cons_zero, List.set_cons_succ, i64_w, i32_w]
          rfl
        refine pure_ (i := 11) (N := some 40) (v := ?_) (a' := ?_) #[true, false, true, true, true, true, false, false, false, false, true, true, false, false, false, false, false, false, false] rfl rfl (by kernel_rfl) (fun _ _ _ h => h) (Or.inl ⟨by rfl, ?_⟩) ?_ ?_
        rotate_left
        · intro w'
          go_simp
          with_reducible rfl
        rotate_left
        · simp only [Act.put, List.setIfInBounds_toArray, List.set_cons_zero, List.set_cons_succ, i64_w, i32_w]
          rfl
        refine pure_ (i := 12) (N := some 41) (v := ?_) (a' := ?_) #[true, false, true, true, true, true, false, false, false, false, true, true, true, false, false, false, false, false, false] rfl rfl (by kernel_rfl) (fun _ _ _ h => h) (Or.inl ⟨by rfl, ?_⟩) ?_ ?_
        rotate_left
        · intro w'
          go_simp
          with_reducible rfl
        rotate_left
        · simp only [Act.put, List.setIfInBounds_toArray, List.set_cons_zero, List.set_cons_succ, i64_w, i32_w]
          rfl
        refine pure_ (i := 13) (N := some 42) (v := ?_) (a' := ?_) #[true, false, true, true, true, true, false, false, false, false, true, true, true, true, false, false, false, false, false] rfl rfl (by kernel_rfl) (fun _ _ _ h => h) (Or.inl ⟨by rfl, ?_⟩) ?_ ?_
        rotate_left
        · intro w'
          go_simp
          with_reducible rfl
        rotate_left
        · simp only [Act.put, List.setIfInBounds_toArray, List.set_cons_zero, List.set_cons_succ, i64_w, i32_w]
          rfl
        refine pure_ (i := 14) (N := some 43) (v := ?_) (a' := ?_) #[true, false, true, true, true, true, false, false, false, false, true, true, true, true, true, false, false, false, false] rfl rfl (by kernel_rfl) (fun _ _ _ h => h) (Or.inl ⟨by rfl, ?_⟩) ?_ ?_
        rotate_left
        · intro w'
          go_simp
          with_reducible rfl
        rotate_left
        · simp only [Act.put, List.setIfInBounds_toArray, List.set_cons_zero, List.set_cons_succ, i64_w, i32_w]
          rfl
        refine take_ (i := 6) (N := some 35) (v := ?_) (a' := ?_) #[true, false, true, true, true, true, true, false, false, false, true, true, true, true, true, false, false, false, false] rfl rfl (by kernel_rfl) (fun _ _ _ h => h) (Or.inl ⟨by rfl, ?_⟩) hHeld ?_ ?_
        rotate_left
        · intro w' s0
          go_simp
          with_reducible rfl
        rotate_left
        · simp only [Act.put, List.setIfInBounds_toArray, List.set_cons_zero, List.set_cons_succ, i64_w, i32_w]
          rfl
        refine take_ (i := 15) (N := some 44) (v := ?_) (a' := ?_) #[true, false, true, true, true, true, true, false, false, false, true, true, true, true, true, true, false, false, false] rfl rfl (by kernel_rfl) (fun _ _ _ h => h) (Or.inl ⟨by rfl, ?_⟩) hHeld ?_ ?_
        rotate_left
        · intro w' s0
          go_simp
          with_reducible rfl
        rotate_left
        · simp only [Act.put, List.setIfInBounds_toArray, List.set_cons_zero, List.set_cons_succ, i64_w, i32_w]
          rfl
        refine one_ (i := 1) (N := some 30) #[true, true, true, true, true, true, true, false, false, false, true, true, true, true, true, true, false, false, false] rfl rfl (by kernel_rfl) (by decide) (fun K hK => ?_)
        refine Kd.R_lit_step (Kd.string) _ 9 ?hg (N := 30) ?hd (xs := ([] : List ByteArray)) (inner := []) (ok := fun _ => True) (okp := fun _ => True) ?hr ?hp (fun _ hk => hk) trivial (Below.refl _ _) (Nat.le_refl _) (by simp) ?_; (case hd => rfl); (case hg => rfl); (case hr => first | (go_simp; done) | (go_simp; rfl)); (case hp => exact (Reps.none _ _))
        intro v2 w2 hR2 hB2 _ _
        have HR2 := Aside0.mk hR2
        have HB2 := Aside0.mk hB2
        have HT2 := Aside0.mk (HTd.out.below hB2)
        clear hR2 hB2
        refine hK.out _ _ (((HT2.out.bel.cell (World.block_lt_of_cell? w _ HK2.out)).trans HK2.out)) (fun hHeld => ?_)
        clear hK K
        refine norm_ (a' := ?_) ?_ ?_
        rotate_left
        · show Act.put _ (some 30) _ = _
          simp only [Act.put, List.setIfInBounds_toArray, List.set_cons_zero, List.set_cons_succ, i64_w, i32_w]
          rfl
        refine one_ (i := 7) (N := some 36) #[true, true, true, true, true, true, true, true, false, false, true, true, true, true, true, true, false, false, false] rfl rfl (by kernel_rfl) (by decide) (fun K hK => ?_)
        refine Kd.R_append_rows_step (Kd.string) (w0 := wd) (Rr := (Kd.string).K w2) wd.heap.size (by rfl) (.tmp 30) (.tmp 35) 47 9 (.string ByteArray.empty) 16 rfl Try.underlying47 info9 rfl (by decide) (by omega) v2 [] f2 A2 f2.length c2 (fun _ => True) (fun _ => False) rfl rfl HR2.out (Kd.C_below HC2.out HT2.out.bel) (fun x cs hK => hK) (fun _ hk => hk.elim) (fun _ _ => trivial) HB2.out HB2.out.size (by simp only [List.length_nil, Nat.zero_add]; omega) ?_
        intro v3 w3 hR3 hB3 _ _
        rw [List.nil_append] at hR3
        obtain ⟨A3, c3, rfl, hc3, hC3⟩ := Kd.R_reads hR3
        have HC3 := Aside0.mk hC3
        have HT3 := Aside0.mk (HTd.out.below hB3)
        clear hR3 hC3 hB3
        refine hK.out _ _ (((HT3.out.bel.cell (World.block_lt_of_cell? w _ HK2.out)).trans HK2.out)) (fun hHeld => ?_)
        clear hK K
        refine norm_ (a' := ?_) ?_ ?_
        rotate_left
        · show Act.put _ (some 36) _ = _
          simp only [Act.put, List.setIfInBounds_toArray, List.set_cons_zero, List.set_cons_succ, i64_w, i32_w]
          rfl
        refine one_ (i := 8) (N := some 37) #[true, true, true, true, true, true, true, true, true, false, true, true, true, true, true, true, false, false, false] rfl rfl (by kernel_rfl) (by decide) (fun K hK => ?_)
        refine goes_ Try.func27 (by kernel_rfl) rfl #[.pointer (some ⟨g, 0, none⟩), .slice A3 f2.length c3] (by rfl) rfl rfl (by simp only [List.map_toArray, List.map_cons, List.map_nil]; rfl) ?_
        with_reducible refine (textW HT3.out A3 c3 f2 HC3.out hc3 HS3.out HS2.out).mono ?_
        rintro e w4 ⟨rfl, hT4⟩
        refine ⟨_, rfl, ?_⟩
        have HT4 := Aside0.mk hT4
        clear hT4
        refine hK.out _ _ (((HT4.out.bel.cell (World.block_lt_of_cell? w _ HK2.out)).trans HK2.out)) (fun hHeld => ?_)
        clear hK K
        refine norm_ (a' := ?_) ?_ ?_
        rotate_left
        · show Act.put _ (some 37) _ = _
          simp only [Act.put, List.setIfInBounds_toArray, List.set_cons_zero, List.set_cons_succ, i64_w, i32_w]
          rfl
        refine one_ (i := 9) (N := some 38) #[true, true, true, true, true, true, true, true, true, true, true, true, true, true, true, true, false, false, false] rfl rfl (by kernel_rfl) (by decide) (fun K hK => ?_)
        refine goes_ Try.func17 (by kernel_rfl) rfl #[.int .i64 (wtexts l f2).2] (by rfl) rfl rfl (by simp only [List.map_toArray, List.map_cons, List.map_nil]; rfl) ?_
        with_reducible refine (weighhouselaw01_num.calls (wtexts l f2).2 (wtexts l f2).2 _ rfl).mono ?_
        rintro e w5 ⟨rfl, hd5⟩
        refine ⟨_, rfl, ?_⟩
        have HT5 := Aside0.mk (HT4.out.below hd5.below)
        clear hd5
        refine hK.out _ _ (((HT5.out.bel.cell (World.block_lt_of_cell? w _ HK2.out)).trans HK2.out)) (fun hHeld => ?_)
        clear hK K
        refine norm_ (a' := ?_) ?_ ?_
        rotate_left
        · show Act.put _ (some 38) _ = _
          simp only [Act.put, List.setIfInBounds_toArray, List.set_cons_zero, List.set_cons_succ, i64_w, i32_w]
          rfl
        refine one_ (i := 16) (N := some 45) #[true, true, true, true, true, true, true, true, true, true, true, true, true, true, true, true, true, false, false] rfl rfl (by kernel_rfl) (by decide) (fun K hK => ?_)
        refine goes_ Try.func28 (by kernel_rfl) rfl #[.pointer (some ⟨g2, 0, none⟩), .slice A2 f2.length c2] (by rfl) rfl rfl (by simp only [List.map_toArray, List.map_cons, List.map_nil]; rfl) ?_
        with_reducible refine (textR HT5.out A2 c2 f2 (Kd.C_below HC2.out HT5.out.bel) hl2 HS3.out).mono ?_
        rintro e w6 ⟨rfl, hT6⟩
        refine ⟨_, rfl, ?_⟩
        have HT6 := Aside0.mk hT6
        clear hT6
        refine hK.out _ _ (((HT6.out.bel.cell (World.block_lt_of_cell? w _ HK2.out)).trans HK2.out)) (fun hHeld => ?_)
        clear hK K
        refine norm_ (a' := ?_) ?_ ?_
        rotate_left
        · show Act.put _ (some 45) _ = _
          simp only [Act.put, List.setIfInBounds_toArray, List.set_cons_zero, List.set_cons_succ, i64_w, i32_w]
          rfl
        refine pure_ (i := 17) (N := some 46) (v := ?_) (a' := ?_) #[true, true, true, true, true, true, true, true, true, true, true, true, true, true, true, true, true, true, false] rfl rfl (by kernel_rfl) (fun _ _ _ h => h) (Or.inl ⟨by rfl, ?_⟩) ?_ ?_
        rotate_left
        · intro w'
          go_simp
          with_reducible rfl
        rotate_left
        · simp only [Act.put, List.setIfInBounds_toArray, List.set_cons_zero, List.set_cons_succ, i64_w, i32_w]
          rfl
        refine pure_ (i := 18) (N := some 6) (v := ?_) (a' := ?_) #[true, true, true, true, true, true, true, true, true, true, true, true, true, true, true, true, true, true, true] rfl rfl (by kernel_rfl) (fun _ _ _ h => h) (Or.inl ⟨by rfl, ?_⟩) ?_ ?_
        rotate_left
        · intro w'
          go_simp
          with_reducible rfl
        rotate_left
        · simp only [Act.put, List.setIfInBounds_toArray, List.set_cons_zero, List.set_cons_succ, i64_w, i32_w]
          rfl
        refine done_ (by kernel_rfl) ?_
        obtain ⟨l1, hl1'⟩ : ∃ l1, l1 = (wtexts l f2).1 := ⟨_, rfl⟩
        rw [← hl1'] at HT6
        clear hl1'
        go_upto_region 16 with (go_at_call 29; (with_reducible refine (bytesW HT6.out).mono ?_); rintro e w7 ⟨v7, rfl, hR7, hB7⟩; have HT7 := Aside0.mk (HT6.out.keep hB7); have HR7 := Aside0.mk (Kd.R_bound hR7); have HB6 := Aside0.mk HT6.out.bel.size; clear hR7 hB7)
        have hlb1 : l1.length ≤ 1048576 := by
          obtain ⟨_, _, _, _, _, _, hh, _⟩ := HT6.out
          exact hh.1
        clear HT6
        obtain ⟨A7, c7, rfl, hc7, hC7⟩ := Kd.R_reads HR7.out
        have HTd7 := Aside0.mk (HT7.out.below ((Below.refl _ _).drew))
        have HRd7 := Aside0.mk (Kd.R_below HR7.out ((Below.refl _ _).drew))
        have hCd7 := Kd.C_below hC7 ((Below.refl _ _).drew)
        obtain ⟨Ar, cr, hcr, hCr⟩ := HTd7.out.two.refB
        have hcv1 := Kd.C_string (P := Try.prog) (src := 22) (dst := 9) (e := 5) (c := c7) Try.underlying22 Try.underlying5 Try.underlying9 hCd7
        have hcv2 := Kd.C_string (P := Try.prog) (src := 22) (dst := 9) (e := 5) (c := cr) Try.underlying22 Try.underlying5 Try.underlying9 hCr
        obtain ⟨sB, hsB⟩ : ∃ sB, strOfNums l1 = sB := ⟨_, rfl⟩
        rw [hsB] at hcv1 hcv2
        clear hsB hC7 hCd7 hCr HT7 HR7
        refine start_ (n := 12) (S := fun w' => w' = w7.drew ∧ w'.cell? ⟨g2, 0, none⟩ = some (.slice Ar l1.length cr)) (ds := []) #[false, false, false, false, false, false, false, false, false, false, false, false] (by kernel_rfl) rfl rfl ⟨rfl, hcr⟩ (fun hHeld => ?_)
        generalize w7.drew = wd at HTd7 HRd7 hcr hcv1 hcv2 hHeld ⊢
        refine pure_ (i := 0) (N := some 89) (v := ?_) (a' := ?_) #[true, false, false, false, false, false, false, false, false, false, false, false] rfl rfl (by kernel_rfl) (fun _ _ _ h => h) (Or.inl ⟨by rfl, ?_⟩) ?_ ?_
        rotate_left
        · intro w'
          go_simp
          with_reducible rfl
        rotate_left
        · simp only [Act.put, List.setIfInBounds_toArray, List.set_cons_zero, List.set_cons_succ, i64_w, i32_w]
          rfl
        refine pure_ (i := 1) (N := some 90) (v := ?_) (a' := ?_) #[true, true, false, false, false, false, false, false, false, false, false, false] rfl rfl (by kernel_rfl) (fun _ _ _ h => h) (Or.inl ⟨by rfl, ?_⟩) ?_ ?_
        rotate_left
        · intro w'
          go_simp
          with_reducible rfl
        rotate_left
        · simp only [Act.put, List.setIfInBounds_toArray, List.set_cons_zero, List.set_cons_succ, i64_w, i32_w]
          rfl
        refine pure_ (i := 2) (N := some 91) (v := ?_) (a' := ?_) #[true, true, true, false, false, false, false, false, false, false, false, false] rfl rfl (by kernel_rfl) (fun _ _ _ h => h) (Or.inl ⟨by rfl, ?_⟩) ?_ ?_
        rotate_left
        · intro w'
          go_simp
          with_reducible rfl
        rotate_left
        · simp only [Act.put, List.setIfInBounds_toArray, List.set_cons_zero, List.set_cons_succ, i64_w, i32_w]
          rfl
        refine pure_ (i := 3) (N := some 92) (v := ?_) (a' := ?_) #[true, true, true, true, false, false, false, false, false, false, false, false] rfl rfl (by kernel_rfl) (fun _ _ _ h => h) (Or.inl ⟨by rfl, ?_⟩) ?_ ?_
        rotate_left
        · intro w'
          go_simp
          with_reducible rfl
        rotate_left
        · simp only [Act.put, List.setIfInBounds_toArray, List.set_cons_zero, List.set_cons_succ, i64_w, i32_w]
          rfl
        refine pure_ (i := 5) (N := some 94) (v := ?_) (a' := ?_) #[true, true, true, true, false, true, false, false, false, false, false, false] rfl rfl (by kernel_rfl) (fun _ _ _ h => h) (Or.inl ⟨by rfl, ?_⟩) ?_ ?_
        rotate_left
        · intro w'
          go_simp
          with_reducible rfl
        rotate_left
        · simp only [Act.put, List.setIfInBounds_toArray, List.set_cons_zero, List.set_cons_succ, i64_w, i32_w]
          rfl
        refine pure_ (i := 6) (N := some 95) (v := ?_) (a' := ?_) #[true, true, true, true, false, true, true, false, false, false, false, false] rfl rfl (by kernel_rfl) (fun _ _ _ h => h) (Or.inl ⟨by rfl, ?_⟩) ?_ ?_
        rotate_left
        · intro w'
          go_simp
          with_reducible rfl
        rotate_left
        · simp only [Act.put, List.setIfInBounds_toArray, List.set_cons_zero, List.set_cons_succ, i64_w, i32_w]
          rfl
        refine pure_ (i := 7) (N := some 96) (v := ?_) (a' := ?_) #[true, true, true, true, false, true, true, true, false, false, false, false] rfl rfl (by kernel_rfl) (fun _ _ _ h => h) (Or.inl ⟨by rfl, ?_⟩) ?_ ?_
        rotate_left
        · intro w'
          go_simp
          with_reducible rfl
        rotate_left
        · simp only [Act.put, List.setIfInBounds_toArray, List.set_cons_zero, List.set_cons_succ, i64_w, i32_w]
          rfl
        refine take_ (i := 4) (N := some 93) (v := ?_) (a' := ?_) #[true, true, true, true, true, true, true, true, false, false, false, false] rfl rfl (by kernel_rfl) (fun _ _ _ h => h) (Or.inl ⟨by rfl, ?_⟩) hHeld ?_ ?_
        rotate_left
        · rintro w' ⟨s0, s1⟩
          go_simp
          with_reducible rfl
        rotate_left
        · simp only [Act.put, List.setIfInBounds_toArray, List.set_cons_zero, List.set_cons_succ, i64_w, i32_w]
          rfl
        refine take_ (i := 8) (N := some 97) (v := ?_) (a' := ?_) #[true, true, true, true, true, true, true, true, true, false, false, false] rfl rfl (by kernel_rfl) (fun _ _ _ h => h) (Or.inl ⟨by rfl, ?_⟩) hHeld ?_ ?_
        rotate_left
        · rintro w' ⟨s0, s1⟩
          go_simp
          with_reducible rfl
        rotate_left
        · simp only [Act.put, List.setIfInBounds_toArray, List.set_cons_zero, List.set_cons_succ, i64_w, i32_w]
          rfl
        refine take_ (i := 9) (N := some 98) (v := ?_) (a' := ?_) #[true, true, true, true, true, true, true, true, true, true, false, false] rfl rfl (by kernel_rfl) (fun _ _ _ h => h) (Or.inl ⟨by rfl, ?_⟩) hHeld ?_ ?_
        rotate_left
        · rintro w' ⟨s0, s1⟩
          go_simp
          with_reducible rfl
        rotate_left
        · simp only [Act.put, List.setIfInBounds_toArray, List.set_cons_zero, List.set_cons_succ, i64_w, i32_w]
          rfl
        refine pure_ (i := 10) (N := some 99) (v := ?_) (a' := ?_) #[true, true, true, true, true, true, true, true, true, true, true, false] rfl rfl (by kernel_rfl) (fun _ _ _ h => h) (Or.inl ⟨by rfl, ?_⟩) ?_ ?_
        rotate_left
        · intro w'
          go_simp
          with_reducible rfl
        rotate_left
        · simp only [Act.put, List.setIfInBounds_toArray, List.set_cons_zero, List.set_cons_succ, i64_w, i32_w]
          rfl
        refine pure_ (i := 11) (N := some 100) (v := ?_) (a' := ?_) #[true, true, true, true, true, true, true, true, true, true, true, true] rfl rfl (by kernel_rfl) (fun _ _ _ h => h) (Or.inl ⟨by rfl, ?_⟩) ?_ ?_
        rotate_left
        · intro w'
          go_simp
          with_reducible rfl
        rotate_left
        · simp only [Act.put, List.setIfInBounds_toArray, List.set_cons_zero, List.set_cons_succ, i64_w, i32_w]
          rfl
        refine done_ (by kernel_rfl) ?_
        clear hHeld hcr hcv1 hcv2
        go_wp2
        go_loopw [8] (fun q wq => ∃ (m : Nat) (y : List Int), m ≤ l1.length ∧ q = .int .i64 m ∧ Aside0 (y.length = l1.length) ∧ Aside0 ((Kd.int .u8).R 5 wq w6.heap.size (fun k => w6.heap.size ≤ k) (.slice A7 l1.length c7) y) ∧ Aside0 (TwoK w wq w6.heap.size g g2 l1 l1)) (fun q _ => l1.length - (intOf q).toNat)
        case atStart => exact ⟨0, l1, Nat.zero_le _, rfl, ⟨rfl⟩, ⟨Kd.R_mono HRd7.out (fun k hk => hk.2.1)⟩, HTd7⟩
        case round =>
          clear HTd7 HRd7
          obtain ⟨m, y, hm1, rfl, HY, HRq, HTq⟩ := hrel
          by_cases hlt1 : m < l1.length
          · obtain ⟨inner, hin⟩ := Kd.R_own HRq.out
            obtain ⟨gb, cb, hgb, hgb1, _⟩ := hin.form (by have := HY.out; omega)
            injection hgb with e1 e2 e3
            subst e1
            subst e3
            clear hin e2
            have hcel := Kd.R_celln (0 : Int) HRq.out m (by omega) (by omega)
            rw [Int.toNat_natCast] at hcel
            obtain ⟨hce1, hce2⟩ := hcel
            obtain ⟨z, hz⟩ : ∃ z, rdOf (0 : Int) y (m : Int) = z := ⟨_, rfl⟩
            rw [hz] at hce1
            clear hz
            go_wp2
            go_roundw
            case rel => exact ⟨m + 1, _, by omega, by go_num, ⟨by rw [List.length_set]; exact HY.out⟩, ⟨Kd.R_putn HRq.out (m : Int) _⟩, ⟨HTq.out.set_ hgb1 (Nat.le_trans HB6.out hgb1) _⟩⟩
            case measure => simp [intOf]; omega
          · go_wp2
            go_roundw
            case rel => exact ⟨j + 1, l1, by omega, by go_num, ⟨HTq.out.two⟩⟩
            case measure => simp [intOf]; omega
    · go_wp2
      go_ret
      exact ⟨rfl, HT.out.bel⟩


end Go.Proofs.Ytjkimfjhfncldaa.Q
end

section
-- written by hprint.py (a program of these sessions) out of the translation; Lean checks it
namespace Go.Proofs.Ytjkimfjhfncldaa.Q
open Go.RowKit Go.Proofs.YtjkimfjhfncldaaW.Hb Go.Proofs.YtjkimfjhfncldaaW.PrintWords Go.Proofs.YtjkimfjhfncldaaW.PrintLast Go.Proofs.YtjkimfjhfncldaaW.PrintMore
attribute [local go_sem] max2_int min2_int max_two min_two max_three min_three max_four min_four   -- for this text's walks alone
set_option linter.unusedVariables false
set_option linter.unusedSimpArgs false

/-! ### weighhouseref01_Reader_Done: function 42, by hand -/
set_option maxRecDepth 100000 in
theorem weighhouseref01_Reader_Done.calls (S : Nat → Prop) (g : Nat) (B : List Int) (a : Nat) (ev : Int) (w : World) (hR : Rq w S g B a ev) :
    Calls Try.prog 42 #[.pointer (some ⟨g, 0, none⟩)] w fun e w' => e = .returned (.int .i64 (rDone (B.drop a) ev)) ∧ Below w.heap.size w w' := by
  have HR := Aside0.mk hR
  obtain ⟨A, c, hb, _⟩ := hR
  have HB := Aside0.mk hb
  have k2 : w.cell? ⟨g, 2, none⟩ = some (.int .i64 ev) := hb.cell 2
  clear hb
  by_cases he : ev ≠ 0
  · have HS := Aside0.mk (show rDone (B.drop a) ev = ev from if_pos he)
    have d1 : (ev == 0) = false := by simp [he]
    clear he
    go_enter Try.func42, Try.ntmps42
    go_wp2
    go_ret
    rw [HS.out]
    exact ⟨rfl, Below.refl _ _⟩
  · obtain rfl : ev = 0 := by omega
    obtain ⟨ln, hln⟩ : ∃ ln : Int, ((B.drop a).length : Int) = ln := ⟨_, rfl⟩
    have HLN := Aside0.mk hln
    by_cases h1 : 0 < (B.drop a).length
    · have HS := Aside0.mk (show rDone (B.drop a) 0 = 21 by unfold rDone; rw [if_neg (by decide), if_pos h1])
      have d1 : decide (0 < ln) = true := decide_eq_true (by omega)
      clear he h1 hln
      go_enter Try.func42, Try.ntmps42
      go_wp2_with (go_at_call 40; (with_reducible refine (weighhouseref01_Reader_Left.calls S g B a 0 _ HR.out).mono ?_); rintro e2 w2 ⟨rfl, hB2⟩; rw [HLN.out]; have k3 : w2.cell? ⟨g, 2, none⟩ = some (.int .i64 0) := (HB.out.after hB2).cell 2; have HB2 := Aside0.mk hB2; clear hB2)
      go_ret
      rw [HS.out]
      exact ⟨rfl, HB2.out⟩
    · have HS := Aside0.mk (show rDone (B.drop a) 0 = 0 by unfold rDone; rw [if_neg (by decide), if_neg h1])
      have d1 : decide (0 < ln) = false := decide_eq_false (by omega)
      clear he h1 hln
      go_enter Try.func42, Try.ntmps42
      go_wp2_with (go_at_call 40; (with_reducible refine (weighhouseref01_Reader_Left.calls S g B a 0 _ HR.out).mono ?_); rintro e2 w2 ⟨rfl, hB2⟩; rw [HLN.out]; have k3 : w2.cell? ⟨g, 2, none⟩ = some (.int .i64 0) := (HB.out.after hB2).cell 2; have HB2 := Aside0.mk hB2; clear hB2)
      go_ret
      rw [HS.out]
      exact ⟨rfl, HB2.out⟩


end Go.Proofs.Ytjkimfjhfncldaa.Q
end

section
-- written by hprint.py (a program of these sessions) out of the translation; Lean checks it
namespace Go.Proofs.Ytjkimfjhfncldaa.Q
open Go.RowKit Go.Proofs.YtjkimfjhfncldaaW.Hb Go.Proofs.YtjkimfjhfncldaaW.PrintWords Go.Proofs.YtjkimfjhfncldaaW.PrintLast Go.Proofs.YtjkimfjhfncldaaW.PrintMore
attribute [local go_sem] max2_int min2_int max_two min_two max_three min_three max_four min_four   -- for this text's walks alone
set_option linter.unusedVariables false
set_option linter.unusedSimpArgs false

/-! ### weighhouseref01_NewReader: function 33, by hand -/
set_option maxRecDepth 100000 in
theorem weighhouseref01_NewReader.calls (A : Option Addr) (c : Nat) (l : List Int) (w : World) (hr : (Kd.int .u8).C w A l.length l) (hc : l.length ≤ c) (hl : l.length * 1 ≤ 140737488355328) (hx : ∀ x ∈ l, 0 ≤ x ∧ x ≤ 255) :
    Calls Try.prog 33 #[.slice A l.length c] w fun e w' => ∃ g, e = .returned (.pointer (some ⟨g, 0, none⟩)) ∧ Rq w' (fun k => w.heap.size ≤ k ∧ k < w'.heap.size) g l 0 0 ∧ w.heap.size ≤ g ∧ Below w.heap.size w w' := by
  have HC := Aside0.mk (Kd.C_alloc hr (.cells #[] 5))
  have HX := Aside0.mk hx
  have HO := Aside0.mk (show (Kd.int .u8).R 5 (w.alloc (.cells #[] 5)) w.heap.size (fun _ => True) (.slice (some ⟨w.heap.size, 0, none⟩) 0 0) [] from Kd.R_of_own (own_lit w w.heap.size 5 .u8 [] (Nat.le_refl _) (by simp)) (fun _ _ => trivial))
  have HB := Aside0.mk ((Below.refl w.heap.size w).alloc (Nat.le_refl _) (.cells #[] 5))
  clear hr hx
  go_enter Try.func33, Try.ntmps33
  go_wp2_with ((with_reducible refine gate_builtin (b := .append) (xs := #[.tmp 3, .tmp 4]) rfl ?_); at_builtin; refine Kd.R_append_rows (Kd.int .u8) (w0 := w) (Rr := (Kd.int .u8).K (w.alloc (.cells #[] 5))) w.heap.size rfl (.tmp 3) (.tmp 4) 22 5 (.int .u8 0) 1 rfl Try.underlying22 info5 rfl (by decide) (by omega) (.slice (some ⟨w.heap.size, 0, none⟩) 0 0) [] l A l.length c (fun _ => True) (fun _ => False) rfl rfl HO.out HC.out (fun x cs hK => hK) (fun _ hk => hk.elim) (fun _ _ => trivial) HB.out HB.out.size (by simpa using hl) ?_; intro v2 w2 hR2 hB2 _ _; rw [List.nil_append] at hR2; obtain ⟨A2, c2, rfl, hc2, hC2⟩ := Kd.R_reads hR2; have HR2 := Aside0.mk (Kd.R_bound hR2); have HB2 := Aside0.mk hB2; have HC2 := Aside0.mk hC2; clear hR2 hB2 hC2)
  go_ret
  have hs := HB2.out.size
  refine ⟨w2.heap.size, rfl, ⟨A2, c2, Blk.new w2 _ _, hc2, ⟨hs, by simp⟩, fun ad e => ?_, Kd.C_alloc HC2.out _, HX.out, Nat.zero_le _, by omega⟩, hs, HB2.out.alloc hs _⟩
  subst e
  have hb := HR2.out.1 ad.block rfl
  have h1 := hb.2.1
  have h2 := hb.2.2.1
  refine ⟨⟨h1, ?_⟩, by omega, ?_⟩ <;> (simp; omega)


end Go.Proofs.Ytjkimfjhfncldaa.Q
end

section
-- written by hprint.py (a program of these sessions) out of the translation; Lean checks it
namespace Go.Proofs.Ytjkimfjhfncldaa.Q
open Go.RowKit Go.Proofs.YtjkimfjhfncldaaW.Hb Go.Proofs.YtjkimfjhfncldaaW.PrintWords Go.Proofs.YtjkimfjhfncldaaW.PrintLast Go.Proofs.YtjkimfjhfncldaaW.PrintMore
attribute [local go_sem] max2_int min2_int max_two min_two max_three min_three max_four min_four   -- for this text's walks alone
set_option linter.unusedVariables false
set_option linter.unusedSimpArgs false

/-! ### weighhouselaw01_Lent: function 12 -/
def weighhouselaw01_Lent.f (l0 : List Int) : Option (List Int) := (some (([] : List Int) : List Int)).bind fun y101 => (if y101.length + l0.length < 140737488355328 then ((some (y101 ++ l0 : List Int)).bind fun y104 => ((some (([77, 78] : List Int) : List Int)).bind fun y107 => (if y104.length + y107.length < 140737488355328 then ((some (y104 ++ y107 : List Int)).bind fun y110 => (if 0 ≤ (l0.length : Int) then (if (l0.length : Int) ≤ (y110.length : Int) then (some (y110.take ((l0.length : Int) : Int).toNat)) else (none)) else (none))) else (none)))) else (none))
set_option maxHeartbeats 8000000 in
set_option maxRecDepth 100000 in
theorem weighhouselaw01_Lent.calls (A0 : Option Addr) (c0 : Nat) (l0 : List Int) (r : List Int) (w : World) (hr0 : Kd.C (Kd.int .u8) w A0 l0.length l0) (hc0 : l0.length ≤ c0) (h : weighhouselaw01_Lent.f l0 = some r) :
    Calls Try.prog 12 #[.slice A0 l0.length c0] w fun e w' => ∃ v0_ : Value, e = .returned (v0_) ∧ Kd.R (Kd.int .u8) 5 w' w.heap.size (fun _ => True) v0_ r ∧ Below w.heap.size w w' := by
  have HR0 := Aside0.mk hr0
  have HC0 := Aside0.mk hc0
  clear hr0 hc0
  have HB := Aside0.mk (Below.refl w.heap.size w)
  have H : ((some (([] : List Int) : List Int)).bind fun y101 => (if y101.length + l0.length < 140737488355328 then ((some (y101 ++ l0 : List Int)).bind fun y104 => ((some (([77, 78] : List Int) : List Int)).bind fun y107 => (if y104.length + y107.length < 140737488355328 then ((some (y104 ++ y107 : List Int)).bind fun y110 => (if 0 ≤ (l0.length : Int) then (if (l0.length : Int) ≤ (y110.length : Int) then (some (y110.take ((l0.length : Int) : Int).toNat)) else (none)) else (none))) else (none)))) else (none))) = some r := h
  clear h
  obtain ⟨y101, hy101⟩ : ∃ y_ : List Int, y_ = (([] : List Int)) := ⟨_, rfl⟩
  replace H : (if y101.length + l0.length < 140737488355328 then ((some (y101 ++ l0 : List Int)).bind fun y104 => ((some (([77, 78] : List Int) : List Int)).bind fun y107 => (if y104.length + y107.length < 140737488355328 then ((some (y104 ++ y107 : List Int)).bind fun y110 => (if 0 ≤ (l0.length : Int) then (if (l0.length : Int) ≤ (y110.length : Int) then (some (y110.take ((l0.length : Int) : Int).toNat)) else (none)) else (none))) else (none)))) else (none)) = some r := by first | (rw [hy101]; with_reducible exact H) | (have H2_ := (Option.bind_some _ _).symm.trans H; rw [hy101]; with_reducible exact H2_) | (have H2_ := (Option.bind_some _ _).symm.trans H; with_reducible exact H2_) | with_reducible exact H | (rw [hy101]; exact H) | exact H
  have Ny101 := Aside0.mk hy101
  clear hy101
  by_cases c2 : y101.length + l0.length < 140737488355328
  · rw [if_pos c2] at H
    have LMc2 := Aside0.mk c2
    clear c2
    obtain ⟨y104, hy104⟩ : ∃ y_ : List Int, y_ = (y101 ++ l0) := ⟨_, rfl⟩
    replace H : ((some (([77, 78] : List Int) : List Int)).bind fun y107 => (if y104.length + y107.length < 140737488355328 then ((some (y104 ++ y107 : List Int)).bind fun y110 => (if 0 ≤ (l0.length : Int) then (if (l0.length : Int) ≤ (y110.length : Int) then (some (y110.take ((l0.length : Int) : Int).toNat)) else (none)) else (none))) else (none))) = some r := by first | (rw [hy104]; with_reducible exact H) | (have H2_ := (Option.bind_some _ _).symm.trans H; rw [hy104]; with_reducible exact H2_) | (have H2_ := (Option.bind_some _ _).symm.trans H; with_reducible exact H2_) | with_reducible exact H | (rw [hy104]; exact H) | exact H
    have Ny104 := Aside0.mk hy104
    clear hy104
    obtain ⟨y107, hy107⟩ : ∃ y_ : List Int, y_ = (([77, 78] : List Int)) := ⟨_, rfl⟩
    replace H : (if y104.length + y107.length < 140737488355328 then ((some (y104 ++ y107 : List Int)).bind fun y110 => (if 0 ≤ (l0.length : Int) then (if (l0.length : Int) ≤ (y110.length : Int) then (some (y110.take ((l0.length : Int) : Int).toNat)) else (none)) else (none))) else (none)) = some r := by first | (rw [hy107]; with_reducible exact H) | (have H2_ := (Option.bind_some _ _).symm.trans H; rw [hy107]; with_reducible exact H2_) | (have H2_ := (Option.bind_some _ _).symm.trans H; with_reducible exact H2_) | with_reducible exact H | (rw [hy107]; exact H) | exact H
    have Ny107 := Aside0.mk hy107
    clear hy107
    by_cases c3 : y104.length + y107.length < 140737488355328
    · rw [if_pos c3] at H
      have LMc3 := Aside0.mk c3
      clear c3
      obtain ⟨y110, hy110⟩ : ∃ y_ : List Int, y_ = (y104 ++ y107) := ⟨_, rfl⟩
      replace H : (if 0 ≤ (l0.length : Int) then (if (l0.length : Int) ≤ (y110.length : Int) then (some (y110.take ((l0.length : Int) : Int).toNat)) else (none)) else (none)) = some r := by first | (rw [hy110]; with_reducible exact H) | (have H2_ := (Option.bind_some _ _).symm.trans H; rw [hy110]; with_reducible exact H2_) | (have H2_ := (Option.bind_some _ _).symm.trans H; with_reducible exact H2_) | with_reducible exact H | (rw [hy110]; exact H) | exact H
      have Ny110 := Aside0.mk hy110
      clear hy110
      by_cases c4 : 0 ≤ (l0.length : Int)
      · rw [if_pos c4] at H
        have c4b0 := eq_true c4
        have c4b1 : decide (0 ≤ (l0.length : Int)) = true := decide_eq_true c4
        clear c4
        by_cases c5 : (l0.length : Int) ≤ (y110.length : Int)
        · rw [if_pos c5] at H
          have c5b0 := eq_true c5
          have c5b1 : decide ((l0.length : Int) ≤ (y110.length : Int)) = true := decide_eq_true c5
          clear c5
          obtain ⟨y113, hy113⟩ : ∃ y_ : List Int, y_ = (y110.take ((l0.length : Int) : Int).toNat) := ⟨_, rfl⟩
          replace H : (some y113) = some r := by first | (rw [hy113]; with_reducible exact H) | (have H2_ := (Option.bind_some _ _).symm.trans H; rw [hy113]; with_reducible exact H2_) | (have H2_ := (Option.bind_some _ _).symm.trans H; with_reducible exact H2_) | with_reducible exact H | (rw [hy113]; exact H) | exact H
          have Ny113 := Aside0.mk hy113
          clear hy113
          obtain rfl := Option.some.inj H
          go_enter Try.func12, Try.ntmps12
          go_wp2_with (first | ((with_reducible refine gate_dst (N := 4) rfl ?_); refine Kd.R_lit (Kd.int .u8) _ 5 ?hg (N := 4) ?hd (xs := ([] : List Int)) (inner := []) (ok := fun _ => True) (okp := fun _ => True) ?hr ?hp (fun _ hk => hk) trivial (Below.refl _ _) (Nat.le_refl _) (by simp) ?_; (case hd => rfl); (case hg => rfl); (case hr => first | (go_simp; done) | (go_simp; rfl)); (case hp => exact (Reps.none _ _)); intro v102 w6 ho7 hb hg_ hnew_; clear hg_ hnew_; (first | rw [← Ny101.out] at ho7 | (simp only [Int.reduceToNat] at ho7; rw [← Ny101.out] at ho7)); have n0_ := Aside0.mk (Kd.R_lower ho7 (below_size (by repeat (first | (with_reducible first | exact HB.out | apply below_alloc | apply pw_below_drewN | apply below_drew1) | exact HB.out)))); have n1_ := Aside0.mk (below_step (by repeat (first | (with_reducible first | exact HB.out | apply below_alloc | apply pw_below_drewN | apply below_drew1) | exact HB.out)) hb); clear HB; have HO103 := n0_; have HB := n1_; clear n0_ n1_; clear hb ho7) | ((with_reducible refine gate_builtin (b := .append) (xs := #[.tmp 4, .tmp 5]) rfl ?_); at_builtin; refine Kd.R_append_rows (Kd.int .u8) (w0 := w) w.heap.size rfl (.tmp 4) (.tmp 5) 22 5 (.int .u8 0) 1 rfl Try.underlying22 info5 rfl (by decide) (by omega) v102 y101 l0 _ _ _ (fun _ => True) (fun _ => False) rfl rfl ?aO ?aR (fun _ _ h => h) (fun _ h => h.elim) ?aF ?aB ?aS ?aL ?_; (case aR => repeat (first | exact (Kd.C_below HR0.out HB.out) | (with_reducible refine Kd.C_alloc ?_ _) | (with_reducible refine Kd.C_drewN ?_ _) | (with_reducible refine Kd.C_drew ?_))); (case aB => exact (by repeat (first | (with_reducible first | exact HB.out | apply below_alloc | apply pw_below_drewN | apply below_drew1) | exact HB.out))); (case aF => exact (fun _ _ => trivial)); (case aO => exact (by (with_reducible repeat (first | apply Kd.R_alloc | apply Kd.R_drewN | apply Kd.R_drew)); exact HO103.out)); (case aS => exact (below_size (by repeat (first | (with_reducible first | exact HB.out | apply below_alloc | apply pw_below_drewN | apply below_drew1) | exact HB.out)))); (case aL => have := LMc2.out; omega); intro v105 w8 ho hb hg hat; rw [← Ny104.out] at ho; have n0_ := Aside0.mk (hb); have n1_ := Aside0.mk (ho); clear HB; clear HO103; have HB := n0_; have HO106 := n1_; clear n0_ n1_; clear ho hb hg hat) | ((with_reducible refine gate_dst (N := 8) rfl ?_); refine Kd.R_lit (Kd.int .u8) _ 5 ?hg (N := 8) ?hd (xs := ([77, 78] : List Int)) (inner := [.int .u8 77, .int .u8 78]) (ok := fun _ => True) (okp := fun _ => True) ?hr ?hp (fun _ hk => hk) trivial (Below.refl _ _) (Nat.le_refl _) (by simp) ?_; (case hd => rfl); (case hg => rfl); (case hr => first | (go_simp; done) | (go_simp; rfl)); (case hp => exact (Reps.one (show Kd.M (Kd.int .u8) _ _ _ 77 [.int .u8 77] from rfl) (Reps.one (show Kd.M (Kd.int .u8) _ _ _ 78 [.int .u8 78] from rfl) (Reps.none _ _)))); intro v108 w9 ho10 hb hg_ hnew_; clear hg_ hnew_; (first | rw [← Ny107.out] at ho10 | (simp only [Int.reduceToNat] at ho10; rw [← Ny107.out] at ho10)); have n0_ := Aside0.mk (Kd.R_elder' (by (with_reducible repeat (first | apply Kd.R_alloc | apply Kd.R_drewN | apply Kd.R_drew)); exact HO106.out) (Kd.R_base ho10) hb); have n1_ := Aside0.mk (Kd.R_lower (Kd.R_new' ho10 (Kd.R_lt (by (with_reducible repeat (first | apply Kd.R_alloc | apply Kd.R_drewN | apply Kd.R_drew)); exact HO106.out))) (below_size (by repeat (first | (with_reducible first | exact HB.out | apply below_alloc | apply pw_below_drewN | apply below_drew1) | exact HB.out)))); have n2_ := Aside0.mk (below_step (by repeat (first | (with_reducible first | exact HB.out | apply below_alloc | apply pw_below_drewN | apply below_drew1) | exact HB.out)) hb); clear HO106; clear HB; have HO106 := n0_; have HO109 := n1_; have HB := n2_; clear n0_ n1_ n2_; clear hb ho10; obtain ⟨Ao12, co12, eo12⟩ := Kd.R_slice HO109.out; subst eo12) | ((with_reducible refine gate_builtin (b := .append) (xs := #[.tmp 7, .tmp 8]) rfl ?_); at_builtin; refine Kd.R_append_rows (Kd.int .u8) (w0 := w) w.heap.size rfl (.tmp 7) (.tmp 8) 22 5 (.int .u8 0) 1 rfl Try.underlying22 info5 rfl (by decide) (by omega) v105 y104 y107 _ _ _ (fun k_ => some k_ ≠ (.slice Ao12 y107.length co12 : Value).ownBlock) (fun _ => False) rfl rfl ?aO ?aR (fun _ _ h => h) (fun _ h => h.elim) ?aF ?aB ?aS ?aL ?_; (case aR => repeat (first | exact (Kd.R_reads' HO109.out).2.2 | (with_reducible refine Kd.C_alloc ?_ _) | (with_reducible refine Kd.C_drewN ?_ _) | (with_reducible refine Kd.C_drew ?_))); (case aB => exact (by repeat (first | (with_reducible first | exact HB.out | apply below_alloc | apply pw_below_drewN | apply below_drew1) | exact HB.out))); (case aF => exact (fun k_ hk => Kd.fresh' (Kd.R_lt (by (with_reducible repeat (first | apply Kd.R_alloc | apply Kd.R_drewN | apply Kd.R_drew)); exact HO109.out)) k_ hk)); (case aO => exact (by (with_reducible repeat (first | apply Kd.R_alloc | apply Kd.R_drewN | apply Kd.R_drew)); exact Kd.R_mono HO106.out (fun _ hk => hk.2))); (case aS => exact (below_size (by repeat (first | (with_reducible first | exact HB.out | apply below_alloc | apply pw_below_drewN | apply below_drew1) | exact HB.out)))); (case aL => have := LMc3.out; omega); intro v111 w11 ho hb hg hat; rw [← Ny110.out] at ho; have n0_ := Aside0.mk (Kd.R_after (ok := (fun _ => True)) (by (with_reducible repeat (first | apply Kd.R_alloc | apply Kd.R_drewN | apply Kd.R_drew)); exact HO109.out) hg hat); have n1_ := Aside0.mk (hb); have n2_ := Aside0.mk (ho); clear HO109; clear HB; clear HO106; have HO109 := n0_; have HB := n1_; have HO112 := n2_; clear n0_ n1_ n2_; clear ho hb hg hat; obtain ⟨Ao13, co13, eo13⟩ := Kd.R_slice HO112.out; subst eo13; have q14 : ((l0.length : Int) : Int) ≤ ((y110.length : Int) : Int) := of_decide_eq_true (by first | (with_reducible assumption) | assumption); obtain ⟨i014, hi014, _, hsz14, _⟩ := info_parts info5; have hcut14 := cut_to (P := Try.prog) 22 5 .i64 Try.underlying22 hi014 Ao13 y110.length co13 (l0.length : Int) (of_decide_eq_true (by first | (with_reducible assumption) | assumption)) q14 (Kd.R_reads' HO112.out).2.1; have hr14 := Kd.R_take (m := ((l0.length : Int) : Int).toNat) HO112.out (by omega); have hy14 : y113.length = ((l0.length : Int) : Int).toNat := (by rw [Ny113.out, List.length_take]; omega); rw [← Ny113.out] at hr14; rw [← hy14] at hr14 hcut14; clear hy14 hi014 hsz14 HO112; have HO115 := Aside0.mk hr14; clear hr14; replace q14 := eq_true q14))
          go_ret
          exact ⟨_, by first | rfl | (simp [errW_none, errW_some] <;> rfl) | (simp [*, errW_none, errW_some] <;> rfl), by (with_reducible repeat (first | apply Kd.R_alloc | apply Kd.R_drewN | apply Kd.R_drew)); exact Kd.R_mono HO115.out (fun _ hk => trivial), by repeat (first | (with_reducible first | exact HB.out | apply below_alloc | apply pw_below_drewN | apply below_drew1) | exact HB.out)⟩
        · rw [if_neg c5] at H
          exact absurd H (by simp)
      · rw [if_neg c4] at H
        exact absurd H (by simp)
    · rw [if_neg c3] at H
      exact absurd H (by simp)
  · rw [if_neg c2] at H
    exact absurd H (by simp)

end Go.Proofs.Ytjkimfjhfncldaa.Q
end

section
-- written by hprint.py (a program of these sessions) out of the translation; Lean checks it
namespace Go.Proofs.Ytjkimfjhfncldaa.Q
open Go.RowKit Go.Proofs.YtjkimfjhfncldaaW.Hb Go.Proofs.YtjkimfjhfncldaaW.PrintWords Go.Proofs.YtjkimfjhfncldaaW.PrintLast Go.Proofs.YtjkimfjhfncldaaW.PrintMore
attribute [local go_sem] max2_int min2_int max_two min_two max_three min_three max_four min_four   -- for this text's walks alone
set_option linter.unusedVariables false
set_option linter.unusedSimpArgs false

/-! ### weighhouselaw01_WireReads: function 9, by hand -/
/-- Two readers, apart. -/
def Ap (w0 : World) (S S2 : Nat → Prop) (g g2 : Nat) : Prop := (∀ k, S k → ¬ S2 k) ∧ (∀ k, S k → w0.heap.size ≤ k) ∧ (∀ k, S2 k → w0.heap.size ≤ k) ∧ S g ∧ S2 g2
def TwoR (w0 w : World) (S S2 : Nat → Prop) (g g2 : Nat) (B xs : List Int) (e : Int) (ys : List Int) (e2 : Int) : Prop := Ap w0 S S2 g g2 ∧ Rd w S g xs e ∧ (∃ a, Rq w S2 g2 B a e2 ∧ B.drop a = ys) ∧ Below w0.heap.size w0 w
section
variable {w0 w w' : World} {S S2 : Nat → Prop} {g g2 : Nat} {B xs ys : List Int} {e e2 : Int}
theorem TwoR.bel (h : TwoR w0 w S S2 g g2 B xs e ys e2) : Below w0.heap.size w0 w := h.2.2.2
theorem TwoR.below (h : TwoR w0 w S S2 g g2 B xs e ys e2) (hb : Below w.heap.size w w') : TwoR w0 w' S S2 g g2 B xs e ys e2 := by
  obtain ⟨h1, h2, ⟨a, h3, h4⟩, h5⟩ := h
  exact ⟨h1, h2.below hb, ⟨a, h3.below hb, h4⟩, h5.trans (hb.mono h5.size)⟩
theorem TwoR.cell2 (h : TwoR w0 w S S2 g g2 B xs e ys e2) : w.cell? ⟨g2, 2, none⟩ = some (.int .i64 e2) := by
  obtain ⟨h1, h2, ⟨a, ⟨A, c, hb, _⟩, h4⟩, h5⟩ := h
  exact hb.cell 2
theorem TwoR.kept {S3 : Nat → Prop} (h : TwoR w0 w S S2 g g2 B xs e ys e2) (hk : Kept w w' S3) (hd : ∀ k, S k → ¬ S3 k) (hd2 : ∀ k, S2 k → ¬ S3 k) (hb : Below w0.heap.size w0 w') : TwoR w0 w' S S2 g g2 B xs e ys e2 := by
  obtain ⟨h1, h2, ⟨a, h3, h4⟩, h5⟩ := h
  exact ⟨h1, h2.kept hk hd, ⟨a, h3.kept hk hd2, h4⟩, hb⟩
theorem TwoR.first {xs' : List Int} {e' : Int} (h : TwoR w0 w S S2 g g2 B xs e ys e2) (hr : Rd w' S g xs' e') (hf : Fr w w' (fun k => k = g)) : TwoR w0 w' S S2 g g2 B xs' e' ys e2 := by
  obtain ⟨⟨a1, a2, a3, a4, a5⟩, h2, ⟨a, h3, h4⟩, h5⟩ := h
  exact ⟨⟨a1, a2, a3, a4, a5⟩, hr, ⟨a, h3.kept hf.2 (fun k hk he => by subst he; exact a1 _ a4 hk), h4⟩, h5.trans (hf.below h5.size (fun k hk => by subst hk; exact a2 _ a4))⟩
theorem TwoR.second {ys' : List Int} {e' : Int} (h : TwoR w0 w S S2 g g2 B xs e ys e2) (hr : ∃ a, Rq w' S2 g2 B a e' ∧ B.drop a = ys') (hf : Fr w w' (fun k => k = g2)) : TwoR w0 w' S S2 g g2 B xs e ys' e' := by
  obtain ⟨⟨a1, a2, a3, a4, a5⟩, h2, _, h5⟩ := h
  exact ⟨⟨a1, a2, a3, a4, a5⟩, h2.kept hf.2 (fun k hk he => by subst he; exact a1 _ hk a5), hr, h5.trans (hf.below h5.size (fun k hk => by subst hk; exact a3 _ a5))⟩
theorem byteA (h : TwoR w0 w S S2 g g2 B xs e ys e2) : Calls Try.prog 34 #[.pointer (some ⟨g, 0, none⟩)] w fun en w' => en = .returned (.int .i64 (rByte xs e).1) ∧ TwoR w0 w' S S2 g g2 B (rByte xs e).2.1 (rByte xs e).2.2 ys e2 :=
  (wire_Reader_Byte.calls S g xs e w h.2.1).mono fun en w' ⟨he, hr, hf⟩ => ⟨he, h.first hr hf⟩
theorem intA (h : TwoR w0 w S S2 g g2 B xs e ys e2) : Calls Try.prog 36 #[.pointer (some ⟨g, 0, none⟩)] w fun en w' => en = .returned (.int .i64 (rInt xs e).1) ∧ TwoR w0 w' S S2 g g2 B (rInt xs e).2.1 (rInt xs e).2.2 ys e2 :=
  (wire_Reader_Int.calls S g xs e w h.2.1).mono fun en w' ⟨he, hr, hf⟩ => ⟨he, h.first hr hf⟩
theorem textA (h : TwoR w0 w S S2 g g2 B xs e ys e2) : Calls Try.prog 31 #[.pointer (some ⟨g, 0, none⟩)] w fun en w' => en = .returned (.string (rText xs e).1) ∧ TwoR w0 w' S S2 g g2 B (rText xs e).2.1 (rText xs e).2.2 ys e2 :=
  (wire_Reader_Text.calls S g xs e w h.2.1).mono fun en w' ⟨he, hr, hf⟩ => ⟨he, h.first hr hf⟩
theorem byteB (h : TwoR w0 w S S2 g g2 B xs e ys e2) : Calls Try.prog 35 #[.pointer (some ⟨g2, 0, none⟩)] w fun en w' => en = .returned (.int .i64 (rByte ys e2).1) ∧ TwoR w0 w' S S2 g g2 B xs e (rByte ys e2).2.1 (rByte ys e2).2.2 := by
  obtain ⟨a, hq, rfl⟩ := h.2.2.1
  exact (weighhouseref01_Reader_Byte.calls S2 g2 B a e2 w hq).mono fun en w' ⟨he, hr, hf⟩ => ⟨he, h.second hr hf⟩
theorem intB (h : TwoR w0 w S S2 g g2 B xs e ys e2) : Calls Try.prog 37 #[.pointer (some ⟨g2, 0, none⟩)] w fun en w' => en = .returned (.int .i64 (rInt ys e2).1) ∧ TwoR w0 w' S S2 g g2 B xs e (rInt ys e2).2.1 (rInt ys e2).2.2 := by
  obtain ⟨a, hq, rfl⟩ := h.2.2.1
  exact (weighhouseref01_Reader_Int.calls S2 g2 B a e2 w hq).mono fun en w' ⟨he, hr, hf⟩ => ⟨he, h.second hr hf⟩
theorem textB_ (h : TwoR w0 w S S2 g g2 B xs e ys e2) : Calls Try.prog 38 #[.pointer (some ⟨g2, 0, none⟩)] w fun en w' => en = .returned (.string (rText ys e2).1) ∧ TwoR w0 w' S S2 g g2 B xs e (rText ys e2).2.1 (rText ys e2).2.2 := by
  obtain ⟨a, hq, rfl⟩ := h.2.2.1
  exact (weighhouseref01_Reader_Text.calls S2 g2 B a e2 w hq).mono fun en w' ⟨he, hr, hf⟩ => ⟨he, h.second hr hf⟩
theorem leftB (h : TwoR w0 w S S2 g g2 B xs e ys e2) : Calls Try.prog 40 #[.pointer (some ⟨g2, 0, none⟩)] w fun en w' => en = .returned (.int .i64 (ys.length : Int)) ∧ TwoR w0 w' S S2 g g2 B xs e ys e2 := by
  obtain ⟨a, hq, rfl⟩ := h.2.2.1
  exact (weighhouseref01_Reader_Left.calls S2 g2 B a e2 w hq).mono fun en w' ⟨he, hb⟩ => ⟨he, h.below hb⟩
theorem doneB (h : TwoR w0 w S S2 g g2 B xs e ys e2) : Calls Try.prog 42 #[.pointer (some ⟨g2, 0, none⟩)] w fun en w' => en = .returned (.int .i64 (rDone ys e2)) ∧ TwoR w0 w' S S2 g g2 B xs e ys e2 := by
  obtain ⟨a, hq, rfl⟩ := h.2.2.1
  exact (weighhouseref01_Reader_Done.calls S2 g2 B a e2 w hq).mono fun en w' ⟨he, hb⟩ => ⟨he, h.below hb⟩
theorem leftA (h : TwoR w0 w S S2 g g2 B xs e ys e2) : Calls Try.prog 39 #[.pointer (some ⟨g, 0, none⟩)] w fun en w' => en = .returned (.int .i64 (xs.length : Int)) ∧ TwoR w0 w' S S2 g g2 B xs e ys e2 :=
  (wire_Reader_Left.calls S g xs e w h.2.1).mono fun en w' ⟨he, hb⟩ => ⟨he, hb ▸ h⟩
theorem errA (h : TwoR w0 w S S2 g g2 B xs e ys e2) : Calls Try.prog 41 #[.pointer (some ⟨g, 0, none⟩)] w fun en w' => en = .returned (.int .i64 e) ∧ TwoR w0 w' S S2 g g2 B xs e ys e2 :=
  (wire_Reader_Err.calls S g xs e w h.2.1).mono fun en w' ⟨he, hb⟩ => ⟨he, hb ▸ h⟩
theorem doneA (h : TwoR w0 w S S2 g g2 B xs e ys e2) : Calls Try.prog 32 #[.pointer (some ⟨g, 0, none⟩)] w fun en w' => en = .returned (.int .i64 (rDone xs e)) ∧ TwoR w0 w' S S2 g g2 B xs e ys e2 :=
  (wire_Reader_Done.calls S g xs e w h.2.1).mono fun en w' ⟨he, hb⟩ => ⟨he, hb ▸ h⟩
end
def isBb (x : Int) : Bool := decide (0 ≤ x) && decide (x ≤ 255)
theorem isBb_all {l : List Int} (h : l.all isBb = true) : ∀ x ∈ l, 0 ≤ x ∧ x ≤ 255 := fun x hx => by
  have := List.all_eq_true.1 h x hx
  simpa [isBb] using this
theorem lent_is (l : List Int) (h : l.length ≤ 140737488351232) : weighhouselaw01_Lent.f l = some l := by
  unfold weighhouselaw01_Lent.f
  rw [Option.bind_some, if_pos (by simp; omega), Option.bind_some, Option.bind_some, if_pos (by simp; omega), Option.bind_some, if_pos (by omega), if_pos (by simp; omega)]
  simp
def weighhouselaw01_WireReads.f (l0 l1 : List Int) : Option Bool := if (l0.all isBb && decide (l0.length ≤ 140737488351232)) = true then some true else none
set_option maxRecDepth 100000 in
set_option maxHeartbeats 4000000 in
theorem weighhouselaw01_WireReads.calls (A0 : Option Addr) (c0 : Nat) (l0 : List Int) (A1 : Option Addr) (c1 : Nat) (l1 : List Int) (r : Bool) (w : World) (hr0 : Kd.C (Kd.int .u8) w A0 l0.length l0) (hc0 : l0.length ≤ c0) (hr1 : Kd.C (Kd.int .i64) w A1 l1.length l1) (hc1 : l1.length ≤ c1) (h : weighhouselaw01_WireReads.f l0 l1 = some r) :
    Calls Try.prog 9 #[.slice A0 l0.length c0, .slice A1 l1.length c1] w fun e w' => e = .returned (.bool r) ∧ Below w.heap.size w w' := by
  unfold weighhouselaw01_WireReads.f at h
  split at h
  rotate_left
  · cases h
  rename_i hall
  obtain rfl := Option.some.inj h
  simp only [Bool.and_eq_true, decide_eq_true_eq] at hall
  obtain ⟨hall, hlen⟩ := hall
  have HX := Aside0.mk (isBb_all hall)
  have HLN := Aside0.mk (lent_is l0 hlen)
  have HR := Aside0.mk hr0
  have HR1 := Aside0.mk hr1
  have hm1 : l1.length ≤ 9223372036854775807 := hr1.2.1
  clear hall h hr0 hr1
  go_enter Try.func9, Try.ntmps9
  go_upto_region 2 with (go_at_call 12; (with_reducible refine (weighhouselaw01_Lent.calls A0 c0 l0 l0 _ HR.out hc0 HLN.out).mono ?_); rintro e w1 ⟨v5, rfl, hR5, hB1⟩; obtain ⟨A5, c5, rfl, hc5, hC5⟩ := Kd.R_reads hR5; have HR5 := Aside0.mk (Kd.R_bound hR5); have HC5 := Aside0.mk hC5; have HB1 := Aside0.mk hB1; clear hR5 hC5 hB1)
  go_upto_region 3 with (go_at_call 30; (with_reducible refine (wire_NewReader.calls A5 c5 l0 _ HC5.out hc5 (by omega) HX.out).mono ?_); rintro e w2 ⟨g, rfl, hd2, hg2, hB2⟩; have HD2 := Aside0.mk hd2; have HG2 := Aside0.mk hg2; have HB2 := Aside0.mk hB2; clear hd2 hg2 hB2)
  go_upto_region 4 with (go_at_call 33; (with_reducible refine (weighhouseref01_NewReader.calls A0 c0 l0 _ (Kd.C_below HR.out (HB1.out.trans (HB2.out.mono HB1.out.size))) hc0 (by omega) HX.out).mono ?_); rintro e w3 ⟨g2, rfl, hd3, hg3, hB3⟩; have HD3 := Aside0.mk hd3; have HG3 := Aside0.mk hg3; have HB3 := Aside0.mk hB3; clear hd3 hg3 hB3)
  obtain ⟨S, hSd⟩ : ∃ S, S = (fun k => w1.heap.size ≤ k ∧ k < w2.heap.size) := ⟨_, rfl⟩
  obtain ⟨S2, hS2d⟩ : ∃ S2, S2 = (fun k => w2.heap.size ≤ k ∧ k < w3.heap.size) := ⟨_, rfl⟩
  have HS1 := Aside0.mk (show (∀ k, S k → w1.heap.size ≤ k) ∧ (∀ k, S2 k → w1.heap.size ≤ k) from ⟨fun k hk => by rw [hSd] at hk; exact hk.1, fun k hk => by rw [hS2d] at hk; exact Nat.le_trans HB2.out.size hk.1⟩)
  have HT3 : TwoR w w3 S S2 g g2 l0 l0 0 l0 0 := by
    have s1 := HB1.out.size
    have s2 := HB2.out.size
    have hD2 := HD2.out
    have hD3 := HD3.out
    rw [← hSd] at hD2
    rw [← hS2d] at hD3
    have hsg : S g := by
      obtain ⟨_, _, _, _, h, _⟩ := hD2
      exact h
    have hsg2 : S2 g2 := by
      obtain ⟨_, _, _, _, h, _⟩ := hD3
      exact h
    refine ⟨⟨fun k hk hk2 => ?_, fun k hk => ?_, fun k hk => ?_, hsg, hsg2⟩, hD2.below HB3.out, ⟨0, hD3, rfl⟩, (HB1.out.trans (HB2.out.mono s1)).trans (HB3.out.mono (Nat.le_trans s1 s2))⟩
    · rw [hSd] at hk
      rw [hS2d] at hk2
      omega
    · rw [hSd] at hk
      omega
    · rw [hS2d] at hk
      omega
  have HT3 := Aside0.mk HT3
  have HR53 := Aside0.mk (Kd.R_mono (ok' := fun k => w.heap.size ≤ k ∧ k < w1.heap.size) (Kd.R_below (Kd.R_below HR5.out HB2.out) HB3.out) (fun k hk => ⟨hk.2.1, hk.2.2.1⟩))
  clear hSd hS2d HD2 HD3 HG2 HG3 HC5 HR5
  go_wp2_with (go_at_call 19; (with_reducible refine (weighhouselaw01_knows.calls true _ rfl).mono ?_); rintro e w4 ⟨rfl, hB4⟩; have HT4 := Aside0.mk (HT3.out.below hB4); have HR54 := Aside0.mk (Kd.R_below HR53.out hB4); clear hB4)
  clear HT3 HR53
  go_loopw [8] (fun q wq => ∃ (m : Nat) (y : List Int), m ≤ l0.length ∧ q = .int .i64 m ∧ Aside0 (y.length = l0.length) ∧ Aside0 ((Kd.int .u8).R 5 wq w.heap.size (fun k => w.heap.size ≤ k ∧ k < w1.heap.size) (.slice A5 l0.length c5) y) ∧ Aside0 (TwoR w wq S S2 g g2 l0 l0 0 l0 0)) (fun q _ => l0.length - (intOf q).toNat)
  case atStart => exact ⟨0, l0, Nat.zero_le _, rfl, ⟨rfl⟩, HR54, HT4⟩
  case round =>
    clear HT4 HR54
    obtain ⟨m, y, hm2, rfl, HY, HRq, HTq⟩ := hrel
    by_cases hlt1 : m < l0.length
    · obtain ⟨inner, hin⟩ := Kd.R_own HRq.out
      obtain ⟨gb, cb, hgb, hgb1, _⟩ := hin.form (by have := HY.out; omega)
      injection hgb with e1 e2 e3
      subst e1
      subst e3
      have HOK := Aside0.mk (HRq.out.1 gb rfl)
      clear hin e2
      have hcel := Kd.R_celln (0 : Int) HRq.out m (by omega) (by omega)
      rw [Int.toNat_natCast] at hcel
      obtain ⟨hce1, hce2⟩ := hcel
      obtain ⟨z, hz⟩ : ∃ z, rdOf (0 : Int) y (m : Int) = z := ⟨_, rfl⟩
      rw [hz] at hce1
      clear hz
      go_wp2
      go_roundw
      case rel => exact ⟨m + 1, _, by omega, by go_num, ⟨by rw [List.length_set]; exact HY.out⟩, ⟨Kd.R_putn HRq.out (m : Int) _⟩, ⟨HTq.out.kept (Kept.setCell (S := fun k => k = gb) (Kept.refl _ _) (.inl rfl) _) (fun k hk he => by
        have := HS1.out.1 k hk
        have := HOK.out.2
        omega) (fun k hk he => by
        have := HS1.out.2 k hk
        have := HOK.out.2
        omega) (HTq.out.bel.setCell HOK.out.1 _)⟩⟩
      case measure => simp [intOf]; omega
    · go_wp2
      go_loopw [9] (fun q wq => ∃ (j : Nat) (xs : List Int) (ev : Int), j ≤ l1.length ∧ q = .int .i64 j ∧ Aside0 (TwoR w wq S S2 g g2 l0 xs ev xs ev)) (fun q _ => l1.length - (intOf q).toNat)
      case atStart => exact ⟨0, l0, 0, Nat.zero_le _, rfl, HTq⟩
      case round =>
        clear HTq HRq HY
        obtain ⟨j, xs, ev, hj, rfl, HT⟩ := hrel
        by_cases hlt : j < l1.length
        · obtain ⟨ad, e, hcell⟩ := at_intN HR1.out j hlt
          cases e
          replace hcell := (HT.out.bel.cell (World.block_lt_of_cell? w _ hcell)).trans hcell
          obtain ⟨x, hx⟩ : ∃ x, x = l1[j] := ⟨_, rfl⟩
          rw [← hx] at hcell
          clear hx
          by_cases h0 : x = 0
          · have d1 : (x == 0) = true := by simp [h0]
            clear h0
            go_upto_region 20 with (first | (go_at_call 34; (with_reducible refine (byteA HT.out).mono ?_); rintro e w5 ⟨rfl, hT5⟩; have HT5 := Aside0.mk hT5; clear hT5) | (go_at_call 35; (with_reducible refine (byteB HT5.out).mono ?_); rintro e w6 ⟨rfl, hT6⟩; have HT6 := Aside0.mk hT6; clear hT6))
            obtain ⟨xs', hxs'⟩ : ∃ xs', (rByte xs ev).2.1 = xs' := ⟨_, rfl⟩
            obtain ⟨ev', hev'⟩ : ∃ ev', (rByte xs ev).2.2 = ev' := ⟨_, rfl⟩
            rw [hxs', hev'] at HT6
            have HTd := Aside0.mk (HT6.out.below ((Below.refl _ _).drew))
            have k2 := HTd.out.cell2
            clear hxs' hev' HT5 HT6
            refine start_ (n := 27) (S := fun w' => w'.cell? ⟨g2, 2, none⟩ = some (.int .i64 ev')) (ds := []) #[false, false, false, false, false, false, false, false, false, false, false, false, false, false, false, false, false, false, false, false, false, false, false, false, false, false, false] (by kernel_rfl) rfl rfl (k2) (fun hHeld => ?_)
            generalize w6.drew = wd at HTd k2 hHeld ⊢
            refine pure_ (i := 0) (N := some 66) (v := ?_) (a' := ?_) #[true, false, false, false, false, false, false, false, false, false, false, false, false, false, false, false, false, false, false, false, false, false, false, false, false, false, false] rfl rfl (by kernel_rfl) (fun _ _ _ h => h) (Or.inl ⟨by rfl, ?_⟩) ?_ ?_
            rotate_left
            · intro w'
              go_simp
              with_reducible rfl
            rotate_left
            · simp only [Act.put, List.setIfInBounds_toArray, List.set_cons_zero, List.set_cons_succ, i64_w, i32_w]
              rfl
            refine pure_ (i := 1) (N := some 67) (v := ?_) (a' := ?_) #[true, true, false, false, false, false, false, false, false, false, false, false, false, false, false, false, false, false, false, false, false, false, false, false, false, false, false] rfl rfl (by kernel_rfl) (fun _ _ _ h => h) (Or.inl ⟨by rfl, ?_⟩) ?_ ?_
            rotate_left
            · intro w'
              go_simp
              with_reducible rfl
            rotate_left
            · simp only [Act.put, List.setIfInBounds_toArray, List.set_cons_zero, List.set_cons_succ, i64_w, i32_w]
              rfl
            refine pure_ (i := 2) (N := some 68) (v := ?_) (a' := ?_) #[true, true, true, false, false, false, false, false, false, false, false, false, false, false, false, false, false, false, false, false, false, false, false, false, false, false, false] rfl rfl (by kernel_rfl) (fun _ _ _ h => h) (Or.inl ⟨by rfl, ?_⟩) ?_ ?_
            rotate_left
            · intro w'
              go_simp
              with_reducible rfl
            rotate_left
            · simp only [Act.put, List.setIfInBounds_toArray, List.set_cons_zero, List.set_cons_succ, i64_w, i32_w]
              rfl
            refine pure_ (i := 3) (N := some 69) (v := ?_) (a' := ?_) #[true, true, true, true, false, false, false, false, false, false, false, false, false, false, false, false, false, false, false, false, false, false, false, false, false, false, false] rfl rfl (by kernel_rfl) (fun _ _ _ h => h) (Or.inl ⟨by rfl, ?_⟩) ?_ ?_
            rotate_left
            · intro w'
              go_simp
              with_reducible rfl
            rotate_left
            · simp only [Act.put, List.setIfInBounds_toArray, List.set_cons_zero, List.set_cons_succ, i64_w, i32_w]
              rfl
            refine pure_ (i := 5) (N := some 71) (v := ?_) (a' := ?_) #[true, true, true, true, false, true, false, false, false, false, false, false, false, false, false, false, false, false, false, false, false, false, false, false, false, false, false] rfl rfl (by kernel_rfl) (fun _ _ _ h => h) (Or.inl ⟨by rfl, ?_⟩) ?_ ?_
            rotate_left
            · intro w'
              go_simp
              with_reducible rfl
            rotate_left
            · simp only [Act.put, List.setIfInBounds_toArray, List.set_cons_zero, List.set_cons_succ, i64_w, i32_w]
              rfl
            refine one_ (i := 4) (N := some 70) #[true, true, true, true, true, true, false, false, false, false, false, false, false, false, false, false, false, false, false, false, false, false, false, false, false, false, false] rfl rfl (by kernel_rfl) (by decide) (fun K hK => ?_)
            refine goes_ Try.func39 (by kernel_rfl) rfl #[.pointer (some ⟨g, 0, none⟩)] (by rfl) rfl rfl (by simp only [List.map_toArray, List.map_cons, List.map_nil]; rfl) ?_
            with_reducible refine (leftA HTd.out).mono ?_
            rintro e q1 ⟨rfl, hq⟩
            refine ⟨_, rfl, ?_⟩
            have HQ1 := Aside0.mk hq
            clear hq
            refine hK.out _ _ (HQ1.out.cell2) (fun hHeld => ?_)
            clear hK K
            refine norm_ (a' := ?_) ?_ ?_
            rotate_left
            · show Act.put _ (some 70) _ = _
              simp only [Act.put, List.setIfInBounds_toArray, List.set_cons_zero, List.set_cons_succ, i64_w, i32_w]
              rfl
            refine one_ (i := 6) (N := some 72) #[true, true, true, true, true, true, true, false, false, false, false, false, false, false, false, false, false, false, false, false, false, false, false, false, false, false, false] rfl rfl (by kernel_rfl) (by decide) (fun K hK => ?_)
            refine goes_ Try.func40 (by kernel_rfl) rfl #[.pointer (some ⟨g2, 0, none⟩)] (by rfl) rfl rfl (by simp only [List.map_toArray, List.map_cons, List.map_nil]; rfl) ?_
            with_reducible refine (leftB HQ1.out).mono ?_
            rintro e q2 ⟨rfl, hq⟩
            refine ⟨_, rfl, ?_⟩
            have HQ2 := Aside0.mk hq
            clear hq
            refine hK.out _ _ (HQ2.out.cell2) (fun hHeld => ?_)
            clear hK K
            refine norm_ (a' := ?_) ?_ ?_
            rotate_left
            · show Act.put _ (some 72) _ = _
              simp only [Act.put, List.setIfInBounds_toArray, List.set_cons_zero, List.set_cons_succ, i64_w, i32_w]
              rfl
            refine pure_ (i := 7) (N := some 73) (v := ?_) (a' := ?_) #[true, true, true, true, true, true, true, true, false, false, false, false, false, false, false, false, false, false, false, false, false, false, false, false, false, false, false] rfl rfl (by kernel_rfl) (fun _ _ _ h => h) (Or.inl ⟨by rfl, ?_⟩) ?_ ?_
            rotate_left
            · intro w'
              go_simp
              with_reducible rfl
            rotate_left
            · simp only [Act.put, List.setIfInBounds_toArray, List.set_cons_zero, List.set_cons_succ, i64_w, i32_w]
              rfl
            refine pure_ (i := 8) (N := some 74) (v := ?_) (a' := ?_) #[true, true, true, true, true, true, true, true, true, false, false, false, false, false, false, false, false, false, false, false, false, false, false, false, false, false, false] rfl rfl (by kernel_rfl) (fun _ _ _ h => h) (Or.inl ⟨by rfl, ?_⟩) ?_ ?_
            rotate_left
            · intro w'
              go_simp
              with_reducible rfl
            rotate_left
            · simp only [Act.put, List.setIfInBounds_toArray, List.set_cons_zero, List.set_cons_succ, i64_w, i32_w]
              rfl
            refine pure_ (i := 9) (N := some 75) (v := ?_) (a' := ?_) #[true, true, true, true, true, true, true, true, true, true, false, false, false, false, false, false, false, false, false, false, false, false, false, false, false, false, false] rfl rfl (by kernel_rfl) (fun _ _ _ h => h) (Or.inl ⟨by rfl, ?_⟩) ?_ ?_
            rotate_left
            · intro w'
              go_simp
              with_reducible rfl
            rotate_left
            · simp only [Act.put, List.setIfInBounds_toArray, List.set_cons_zero, List.set_cons_succ, i64_w, i32_w]
              rfl
            refine pure_ (i := 10) (N := some 76) (v := ?_) (a' := ?_) #[true, true, true, true, true, true, true, true, true, true, true, false, false, false, false, false, false, false, false, false, false, false, false, false, false, false, false] rfl rfl (by kernel_rfl) (fun _ _ _ h => h) (Or.inl ⟨by rfl, ?_⟩) ?_ ?_
            rotate_left
            · intro w'
              go_simp
              with_reducible rfl
            rotate_left
            · simp only [Act.put, List.setIfInBounds_toArray, List.set_cons_zero, List.set_cons_succ, i64_w, i32_w]
              rfl
            refine pure_ (i := 13) (N := some 79) (v := ?_) (a' := ?_) #[true, true, true, true, true, true, true, true, true, true, true, false, false, true, false, false, false, false, false, false, false, false, false, false, false, false, false] rfl rfl (by kernel_rfl) (fun _ _ _ h => h) (Or.inl ⟨by rfl, ?_⟩) ?_ ?_
            rotate_left
            · intro w'
              go_simp
              with_reducible rfl
            rotate_left
            · simp only [Act.put, List.setIfInBounds_toArray, List.set_cons_zero, List.set_cons_succ, i64_w, i32_w]
              rfl
            refine pure_ (i := 14) (N := some 80) (v := ?_) (a' := ?_) #[true, true, true, true, true, true, true, true, true, true, true, false, false, true, true, false, false, false, false, false, false, false, false, false, false, false, false] rfl rfl (by kernel_rfl) (fun _ _ _ h => h) (Or.inl ⟨by rfl, ?_⟩) ?_ ?_
            rotate_left
            · intro w'
              go_simp
              with_reducible rfl
            rotate_left
            · simp only [Act.put, List.setIfInBounds_toArray, List.set_cons_zero, List.set_cons_succ, i64_w, i32_w]
              rfl
            refine pure_ (i := 15) (N := some 81) (v := ?_) (a' := ?_) #[true, true, true, true, true, true, true, true, true, true, true, false, false, true, true, true, false, false, false, false, false, false, false, false, false, false, false] rfl rfl (by kernel_rfl) (fun _ _ _ h => h) (Or.inl ⟨by rfl, ?_⟩) ?_ ?_
            rotate_left
            · intro w'
              go_simp
              with_reducible rfl
            rotate_left
            · simp only [Act.put, List.setIfInBounds_toArray, List.set_cons_zero, List.set_cons_succ, i64_w, i32_w]
              rfl
            refine take_ (i := 16) (N := some 82) (v := ?_) (a' := ?_) #[true, true, true, true, true, true, true, true, true, true, true, false, false, true, true, true, true, false, false, false, false, false, false, false, false, false, false] rfl rfl (by kernel_rfl) (fun _ _ _ h => h) (Or.inl ⟨by rfl, ?_⟩) hHeld ?_ ?_
            rotate_left
            · intro w' s0
              go_simp
              with_reducible rfl
            rotate_left
            · simp only [Act.put, List.setIfInBounds_toArray, List.set_cons_zero, List.set_cons_succ, i64_w, i32_w]
              rfl
            refine one_ (i := 11) (N := some 77) #[true, true, true, true, true, true, true, true, true, true, true, true, false, true, true, true, true, false, false, false, false, false, false, false, false, false, false] rfl rfl (by kernel_rfl) (by decide) (fun K hK => ?_)
            refine goes_ Try.func41 (by kernel_rfl) rfl #[.pointer (some ⟨g, 0, none⟩)] (by rfl) rfl rfl (by simp only [List.map_toArray, List.map_cons, List.map_nil]; rfl) ?_
            with_reducible refine (errA HQ2.out).mono ?_
            rintro e q3 ⟨rfl, hq⟩
            refine ⟨_, rfl, ?_⟩
            have HQ3 := Aside0.mk hq
            clear hq
            refine hK.out _ _ (HQ3.out.cell2) (fun hHeld => ?_)
            clear hK K
            refine norm_ (a' := ?_) ?_ ?_
            rotate_left
            · show Act.put _ (some 77) _ = _
              simp only [Act.put, List.setIfInBounds_toArray, List.set_cons_zero, List.set_cons_succ, i64_w, i32_w]
              rfl
            refine one_ (i := 12) (N := some 78) #[true, true, true, true, true, true, true, true, true, true, true, true, true, true, true, true, true, false, false, false, false, false, false, false, false, false, false] rfl rfl (by kernel_rfl) (by decide) (fun K hK => ?_)
            refine goes_ Try.func17 (by kernel_rfl) rfl #[.int .i64 ev'] (by rfl) rfl rfl (by simp only [List.map_toArray, List.map_cons, List.map_nil]; rfl) ?_
            with_reducible refine (weighhouselaw01_num.calls ev' ev' _ rfl).mono ?_
            rintro e q4 ⟨rfl, hq⟩
            refine ⟨_, rfl, ?_⟩
            have HQ4 := Aside0.mk (HQ3.out.below hq.below)
            clear hq
            refine hK.out _ _ (HQ4.out.cell2) (fun hHeld => ?_)
            clear hK K
            refine norm_ (a' := ?_) ?_ ?_
            rotate_left
            · show Act.put _ (some 78) _ = _
              simp only [Act.put, List.setIfInBounds_toArray, List.set_cons_zero, List.set_cons_succ, i64_w, i32_w]
              rfl
            refine pure_ (i := 17) (N := some 83) (v := ?_) (a' := ?_) #[true, true, true, true, true, true, true, true, true, true, true, true, true, true, true, true, true, true, false, false, false, false, false, false, false, false, false] rfl rfl (by kernel_rfl) (fun _ _ _ h => h) (Or.inl ⟨by rfl, ?_⟩) ?_ ?_
            rotate_left
            · intro w'
              go_simp
              with_reducible rfl
            rotate_left
            · simp only [Act.put, List.setIfInBounds_toArray, List.set_cons_zero, List.set_cons_succ, i64_w, i32_w]
              rfl
            refine pure_ (i := 18) (N := some 84) (v := ?_) (a' := ?_) #[true, true, true, true, true, true, true, true, true, true, true, true, true, true, true, true, true, true, true, false, false, false, false, false, false, false, false] rfl rfl (by kernel_rfl) (fun _ _ _ h => h) (Or.inl ⟨by rfl, ?_⟩) ?_ ?_
            rotate_left
            · intro w'
              go_simp
              with_reducible rfl
            rotate_left
            · simp only [Act.put, List.setIfInBounds_toArray, List.set_cons_zero, List.set_cons_succ, i64_w, i32_w]
              rfl
            refine pure_ (i := 19) (N := some 85) (v := ?_) (a' := ?_) #[true, true, true, true, true, true, true, true, true, true, true, true, true, true, true, true, true, true, true, true, false, false, false, false, false, false, false] rfl rfl (by kernel_rfl) (fun _ _ _ h => h) (Or.inl ⟨by rfl, ?_⟩) ?_ ?_
            rotate_left
            · intro w'
              go_simp
              with_reducible rfl
            rotate_left
            · simp only [Act.put, List.setIfInBounds_toArray, List.set_cons_zero, List.set_cons_succ, i64_w, i32_w]
              rfl
            refine pure_ (i := 20) (N := some 86) (v := ?_) (a' := ?_) #[true, true, true, true, true, true, true, true, true, true, true, true, true, true, true, true, true, true, true, true, true, false, false, false, false, false, false] rfl rfl (by kernel_rfl) (fun _ _ _ h => h) (Or.inl ⟨by rfl, ?_⟩) ?_ ?_
            rotate_left
            · intro w'
              go_simp
              with_reducible rfl
            rotate_left
            · simp only [Act.put, List.setIfInBounds_toArray, List.set_cons_zero, List.set_cons_succ, i64_w, i32_w]
              rfl
            refine pure_ (i := 23) (N := some 89) (v := ?_) (a' := ?_) #[true, true, true, true, true, true, true, true, true, true, true, true, true, true, true, true, true, true, true, true, true, false, false, true, false, false, false] rfl rfl (by kernel_rfl) (fun _ _ _ h => h) (Or.inl ⟨by rfl, ?_⟩) ?_ ?_
            rotate_left
            · intro w'
              go_simp
              with_reducible rfl
            rotate_left
            · simp only [Act.put, List.setIfInBounds_toArray, List.set_cons_zero, List.set_cons_succ, i64_w, i32_w]
              rfl
            refine one_ (i := 21) (N := some 87) #[true, true, true, true, true, true, true, true, true, true, true, true, true, true, true, true, true, true, true, true, true, true, false, true, false, false, false] rfl rfl (by kernel_rfl) (by decide) (fun K hK => ?_)
            refine goes_ Try.func32 (by kernel_rfl) rfl #[.pointer (some ⟨g, 0, none⟩)] (by rfl) rfl rfl (by simp only [List.map_toArray, List.map_cons, List.map_nil]; rfl) ?_
            with_reducible refine (doneA HQ4.out).mono ?_
            rintro e q5 ⟨rfl, hq⟩
            refine ⟨_, rfl, ?_⟩
            have HQ5 := Aside0.mk hq
            clear hq
            refine hK.out _ _ (HQ5.out.cell2) (fun hHeld => ?_)
            clear hK K
            refine norm_ (a' := ?_) ?_ ?_
            rotate_left
            · show Act.put _ (some 87) _ = _
              simp only [Act.put, List.setIfInBounds_toArray, List.set_cons_zero, List.set_cons_succ, i64_w, i32_w]
              rfl
            refine one_ (i := 22) (N := some 88) #[true, true, true, true, true, true, true, true, true, true, true, true, true, true, true, true, true, true, true, true, true, true, true, true, false, false, false] rfl rfl (by kernel_rfl) (by decide) (fun K hK => ?_)
            refine goes_ Try.func17 (by kernel_rfl) rfl #[.int .i64 (rDone xs' ev')] (by rfl) rfl rfl (by simp only [List.map_toArray, List.map_cons, List.map_nil]; rfl) ?_
            with_reducible refine (weighhouselaw01_num.calls (rDone xs' ev') (rDone xs' ev') _ rfl).mono ?_
            rintro e q6 ⟨rfl, hq⟩
            refine ⟨_, rfl, ?_⟩
            have HQ6 := Aside0.mk (HQ5.out.below hq.below)
            clear hq
            refine hK.out _ _ (HQ6.out.cell2) (fun hHeld => ?_)
            clear hK K
            refine norm_ (a' := ?_) ?_ ?_
            rotate_left
            · show Act.put _ (some 88) _ = _
              simp only [Act.put, List.setIfInBounds_toArray, List.set_cons_zero, List.set_cons_succ, i64_w, i32_w]
              rfl
            refine one_ (i := 24) (N := some 90) #[true, true, true, true, true, true, true, true, true, true, true, true, true, true, true, true, true, true, true, true, true, true, true, true, true, false, false] rfl rfl (by kernel_rfl) (by decide) (fun K hK => ?_)
            refine goes_ Try.func42 (by kernel_rfl) rfl #[.pointer (some ⟨g2, 0, none⟩)] (by rfl) rfl rfl (by simp only [List.map_toArray, List.map_cons, List.map_nil]; rfl) ?_
            with_reducible refine (doneB HQ6.out).mono ?_
            rintro e q7 ⟨rfl, hq⟩
            refine ⟨_, rfl, ?_⟩
            have HQ7 := Aside0.mk hq
            clear hq
            refine hK.out _ _ (HQ7.out.cell2) (fun hHeld => ?_)
            clear hK K
            refine norm_ (a' := ?_) ?_ ?_
            rotate_left
            · show Act.put _ (some 90) _ = _
              simp only [Act.put, List.setIfInBounds_toArray, List.set_cons_zero, List.set_cons_succ, i64_w, i32_w]
              rfl
            refine pure_ (i := 25) (N := some 91) (v := ?_) (a' := ?_) #[true, true, true, true, true, true, true, true, true, true, true, true, true, true, true, true, true, true, true, true, true, true, true, true, true, true, false] rfl rfl (by kernel_rfl) (fun _ _ _ h => h) (Or.inl ⟨by rfl, ?_⟩) ?_ ?_
            rotate_left
            · intro w'
              go_simp
              with_reducible rfl
            rotate_left
            · simp only [Act.put, List.setIfInBounds_toArray, List.set_cons_zero, List.set_cons_succ, i64_w, i32_w]
              rfl
            refine pure_ (i := 26) (N := some 92) (v := ?_) (a' := ?_) #[true, true, true, true, true, true, true, true, true, true, true, true, true, true, true, true, true, true, true, true, true, true, true, true, true, true, true] rfl rfl (by kernel_rfl) (fun _ _ _ h => h) (Or.inl ⟨by rfl, ?_⟩) ?_ ?_
            rotate_left
            · intro w'
              go_simp
              with_reducible rfl
            rotate_left
            · simp only [Act.put, List.setIfInBounds_toArray, List.set_cons_zero, List.set_cons_succ, i64_w, i32_w]
              rfl
            refine done_ (by kernel_rfl) ?_
            clear hHeld k2
            go_wp2
            go_roundw
            case rel => exact ⟨j + 1, xs', ev', by omega, by go_num, HQ7⟩
            case measure => simp [intOf]; omega
          have d1 : (x == 0) = false := by simp [h0]
          by_cases h1 : x = 1
          · have d2 : (x == 1) = true := by simp [h1]
            clear h0 h1
            go_upto_region 20 with (first | (go_at_call 36; (with_reducible refine (intA HT.out).mono ?_); rintro e w5 ⟨rfl, hT5⟩; have HT5 := Aside0.mk hT5; clear hT5) | (go_at_call 37; (with_reducible refine (intB HT5.out).mono ?_); rintro e w6 ⟨rfl, hT6⟩; have HT6 := Aside0.mk hT6; clear hT6))
            obtain ⟨xs', hxs'⟩ : ∃ xs', (rInt xs ev).2.1 = xs' := ⟨_, rfl⟩
            obtain ⟨ev', hev'⟩ : ∃ ev', (rInt xs ev).2.2 = ev' := ⟨_, rfl⟩
            rw [hxs', hev'] at HT6
            have HTd := Aside0.mk (HT6.out.below ((Below.refl _ _).drew))
            have k2 := HTd.out.cell2
            clear hxs' hev' HT5 HT6
            refine start_ (n := 27) (S := fun w' => w'.cell? ⟨g2, 2, none⟩ = some (.int .i64 ev')) (ds := []) #[false, false, false, false, false, false, false, false, false, false, false, false, false, false, false, false, false, false, false, false, false, false, false, false, false, false, false] (by kernel_rfl) rfl rfl (k2) (fun hHeld => ?_)
            generalize w6.drew = wd at HTd k2 hHeld ⊢
            refine pure_ (i := 0) (N := some 66) (v := ?_) (a' := ?_) #[true, false, false, false, false, false, false, false, false, false, false, false, false, false, false, false, false, false, false, false, false, false, false, false, false, false, false] rfl rfl (by kernel_rfl) (fun _ _ _ h => h) (Or.inl ⟨by rfl, ?_⟩) ?_ ?_
            rotate_left
            · intro w'
              go_simp
              with_reducible rfl
            rotate_left
            · simp only [Act.put, List.setIfInBounds_toArray, List.set_cons_zero, List.set_cons_succ, i64_w, i32_w]
              rfl
            refine pure_ (i := 1) (N := some 67) (v := ?_) (a' := ?_) #[true, true, false, false, false, false, false, false, false, false, false, false, false, false, false, false, false, false, false, false, false, false, false, false, false, false, false] rfl rfl (by kernel_rfl) (fun _ _ _ h => h) (Or.inl ⟨by rfl, ?_⟩) ?_ ?_
            rotate_left
            · intro w'
              go_simp
              with_reducible rfl
            rotate_left
            · simp only [Act.put, List.setIfInBounds_toArray, List.set_cons_zero, List.set_cons_succ, i64_w, i32_w]
              rfl
            refine pure_ (i := 2) (N := some 68) (v := ?_) (a' := ?_) #[true, true, true, false, false, false, false, false, false, false, false, false, false, false, false, false, false, false, false, false, false, false, false, false, false, false, false] rfl rfl (by kernel_rfl) (fun _ _ _ h => h) (Or.inl ⟨by rfl, ?_⟩) ?_ ?_
            rotate_left
            · intro w'
              go_simp
              with_reducible rfl
            rotate_left
            · simp only [Act.put, List.setIfInBounds_toArray, List.set_cons_zero, List.set_cons_succ, i64_w, i32_w]
              rfl
            refine pure_ (i := 3) (N := some 69) (v := ?_) (a' := ?_) #[true, true, true, true, false, false, false, false, false, false, false, false, false, false, false, false, false, false, false, false, false, false, false, false, false, false, false] rfl rfl (by kernel_rfl) (fun _ _ _ h => h) (Or.inl ⟨by rfl, ?_⟩) ?_ ?_
            rotate_left
            · intro w'
              go_simp
              with_reducible rfl
            rotate_left
            · simp only [Act.put, List.setIfInBounds_toArray, List.set_cons_zero, List.set_cons_succ, i64_w, i32_w]
              rfl
            refine pure_ (i := 5) (N := some 71) (v := ?_) (a' := ?_) #[true, true, true, true, false, true, false, false, false, false, false, false, false, false, false, false, false, false, false, false, false, false, false, false, false, false, false] rfl rfl (by kernel_rfl) (fun _ _ _ h => h) (Or.inl ⟨by rfl, ?_⟩) ?_ ?_
            rotate_left
            · intro w'
              go_simp
              with_reducible rfl
            rotate_left
            · simp only [Act.put, List.setIfInBounds_toArray, List.set_cons_zero, List.set_cons_succ, i64_w, i32_w]
              rfl
            refine one_ (i := 4) (N := some 70) #[true, true, true, true, true, true, false, false, false, false, false, false, false, false, false, false, false, false, false, false, false, false, false, false, false, false, false] rfl rfl (by kernel_rfl) (by decide) (fun K hK => ?_)
            refine goes_ Try.func39 (by kernel_rfl) rfl #[.pointer (some ⟨g, 0, none⟩)] (by rfl) rfl rfl (by simp only [List.map_toArray, List.map_cons, List.map_nil]; rfl) ?_
            with_reducible refine (leftA HTd.out).mono ?_
            rintro e q1 ⟨rfl, hq⟩
            refine ⟨_, rfl, ?_⟩
            have HQ1 := Aside0.mk hq
            clear hq
            refine hK.out _ _ (HQ1.out.cell2) (fun hHeld => ?_)
            clear hK K
            refine norm_ (a' := ?_) ?_ ?_
            rotate_left
            · show Act.put _ (some 70) _ = _
              simp only [Act.put, List.setIfInBounds_toArray, List.set_cons_zero, List.set_cons_succ, i64_w, i32_w]
              rfl
            refine one_ (i := 6) (N := some 72) #[true, true, true, true, true, true, true, false, false, false, false, false, false, false, false, false, false, false, false, false, false, false, false, false, false, false, false] rfl rfl (by kernel_rfl) (by decide) (fun K hK => ?_)
            refine goes_ Try.func40 (by kernel_rfl) rfl #[.pointer (some ⟨g2, 0, none⟩)] (by rfl) rfl rfl (by simp only [List.map_toArray, List.map_cons, List.map_nil]; rfl) ?_
            with_reducible refine (leftB HQ1.out).mono ?_
            rintro e q2 ⟨rfl, hq⟩
            refine ⟨_, rfl, ?_⟩
            have HQ2 := Aside0.mk hq
            clear hq
            refine hK.out _ _ (HQ2.out.cell2) (fun hHeld => ?_)
            clear hK K
            refine norm_ (a' := ?_) ?_ ?_
            rotate_left
            · show Act.put _ (some 72) _ = _
              simp only [Act.put, List.setIfInBounds_toArray, List.set_cons_zero, List.set_cons_succ, i64_w, i32_w]
              rfl
            refine pure_ (i := 7) (N := some 73) (v := ?_) (a' := ?_) #[true, true, true, true, true, true, true, true, false, false, false, false, false, false, false, false, false, false, false, false, false, false, false, false, false, false, false] rfl rfl (by kernel_rfl) (fun _ _ _ h => h) (Or.inl ⟨by rfl, ?_⟩) ?_ ?_
            rotate_left
            · intro w'
              go_simp
              with_reducible rfl
            rotate_left
            · simp only [Act.put, List.setIfInBounds_toArray, List.set_cons_zero, List.set_cons_succ, i64_w, i32_w]
              rfl
            refine pure_ (i := 8) (N := some 74) (v := ?_) (a' := ?_) #[true, true, true, true, true, true, true, true, true, false, false, false, false, false, false, false, false, false, false, false, false, false, false, false, false, false, false] rfl rfl (by kernel_rfl) (fun _ _ _ h => h) (Or.inl ⟨by rfl, ?_⟩) ?_ ?_
            rotate_left
            · intro w'
              go_simp
              with_reducible rfl
            rotate_left
            · simp only [Act.put, List.setIfInBounds_toArray, List.set_cons_zero, List.set_cons_succ, i64_w, i32_w]
              rfl
            refine pure_ (i := 9) (N := some 75) (v := ?_) (a' := ?_) #[true, true, true, true, true, true, true, true, true, true, false, false, false, false, false, false, false, false, false, false, false, false, false, false, false, false, false] rfl rfl (by kernel_rfl) (fun _ _ _ h => h) (Or.inl ⟨by rfl, ?_⟩) ?_ ?_
            rotate_left
            · intro w'
              go_simp
              with_reducible rfl
            rotate_left
            · simp only [Act.put, List.setIfInBounds_toArray, List.set_cons_zero, List.set_cons_succ, i64_w, i32_w]
              rfl
            refine pure_ (i := 10) (N := some 76) (v := ?_) (a' := ?_) #[true, true, true, true, true, true, true, true, true, true, true, false, false, false, false, false, false, false, false, false, false, false, false, false, false, false, false] rfl rfl (by kernel_rfl) (fun _ _ _ h => h) (Or.inl ⟨by rfl, ?_⟩) ?_ ?_
            rotate_left
            · intro w'
              go_simp
              with_reducible rfl
            rotate_left
            · simp only [Act.put, List.setIfInBounds_toArray, List.set_cons_zero, List.set_cons_succ, i64_w, i32_w]
              rfl
            refine pure_ (i := 13) (N := some 79) (v := ?_) (a' := ?_) #[true, true, true, true, true, true, true, true, true, true, true, false, false, true, false, false, false, false, false, false, false, false, false, false, false, false, false] rfl rfl (by kernel_rfl) (fun _ _ _ h => h) (Or.inl ⟨by rfl, ?_⟩) ?_ ?_
            rotate_left
            · intro w'
              go_simp
              with_reducible rfl
            rotate_left
            · simp only [Act.put, List.setIfInBounds_toArray, List.set_cons_zero, List.set_cons_succ, i64_w, i32_w]
              rfl
            refine pure_ (i := 14) (N := some 80) (v := ?_) (a' := ?_) #[true, true, true, true, true, true, true, true, true, true, true, false, false, true, true, false, false, false, false, false, false, false, false, false, false, false, false] rfl rfl (by kernel_rfl) (fun _ _ _ h => h) (Or.inl ⟨by rfl, ?_⟩) ?_ ?_
            rotate_left
            · intro w'
              go_simp
              with_reducible rfl
            rotate_left
            · simp only [Act.put, List.setIfInBounds_toArray, List.set_cons_zero, List.set_cons_succ, i64_w, i32_w]
              rfl
            refine pure_ (i := 15) (N := some 81) (v := ?_) (a' := ?_) #[true, true, true, true, true, true, true, true, true, true, true, false, false, true, true, true, false, false, false, false, false, false, false, false, false, false, false] rfl rfl (by kernel_rfl) (fun _ _ _ h => h) (Or.inl ⟨by rfl, ?_⟩) ?_ ?_
            rotate_left
            · intro w'
              go_simp
              with_reducible rfl
            rotate_left
            · simp only [Act.put, List.setIfInBounds_toArray, List.set_cons_zero, List.set_cons_succ, i64_w, i32_w]
              rfl
            refine take_ (i := 16) (N := some 82) (v := ?_) (a' := ?_) #[true, true, true, true, true, true, true, true, true, true, true, false, false, true, true, true, true, false, false, false, false, false, false, false, false, false, false] rfl rfl (by kernel_rfl) (fun _ _ _ h => h) (Or.inl ⟨by rfl, ?_⟩) hHeld ?_ ?_
            rotate_left
            · intro w' s0
              go_simp
              with_reducible rfl
            rotate_left
            · simp only [Act.put, List.setIfInBounds_toArray, List.set_cons_zero, List.set_cons_succ, i64_w, i32_w]
              rfl
            refine one_ (i := 11) (N := some 77) #[true, true, true, true, true, true, true, true, true, true, true, true, false, true, true, true, true, false, false, false, false, false, false, false, false, false, false] rfl rfl (by kernel_rfl) (by decide) (fun K hK => ?_)
            refine goes_ Try.func41 (by kernel_rfl) rfl #[.pointer (some ⟨g, 0, none⟩)] (by rfl) rfl rfl (by simp only [List.map_toArray, List.map_cons, List.map_nil]; rfl) ?_
            with_reducible refine (errA HQ2.out).mono ?_
            rintro e q3 ⟨rfl, hq⟩
            refine ⟨_, rfl, ?_⟩
            have HQ3 := Aside0.mk hq
            clear hq
            refine hK.out _ _ (HQ3.out.cell2) (fun hHeld => ?_)
            clear hK K
            refine norm_ (a' := ?_) ?_ ?_
            rotate_left
            · show Act.put _ (some 77) _ = _
              simp only [Act.put, List.setIfInBounds_toArray, List.set_cons_zero, List.set_cons_succ, i64_w, i32_w]
              rfl
            refine one_ (i := 12) (N := some 78) #[true, true, true, true, true, true, true, true, true, true, true, true, true, true, true, true, true, false, false, false, false, false, false, false, false, false, false] rfl rfl (by kernel_rfl) (by decide) (fun K hK => ?_)
            refine goes_ Try.func17 (by kernel_rfl) rfl #[.int .i64 ev'] (by rfl) rfl rfl (by simp only [List.map_toArray, List.map_cons, List.map_nil]; rfl) ?_
            with_reducible refine (weighhouselaw01_num.calls ev' ev' _ rfl).mono ?_
            rintro e q4 ⟨rfl, hq⟩
            refine ⟨_, rfl, ?_⟩
            have HQ4 := Aside0.mk (HQ3.out.below hq.below)
            clear hq
            refine hK.out _ _ (HQ4.out.cell2) (fun hHeld => ?_)
            clear hK K
            refine norm_ (a' := ?_) ?_ ?_
            rotate_left
            · show Act.put _ (some 78) _ = _
              simp only [Act.put, List.setIfInBounds_toArray, List.set_cons_zero, List.set_cons_succ, i64_w, i32_w]
              rfl
            refine pure_ (i := 17) (N := some 83) (v := ?_) (a' := ?_) #[true, true, true, true, true, true, true, true, true, true, true, true, true, true, true, true, true, true, false, false, false, false, false, false, false, false, false] rfl rfl (by kernel_rfl) (fun _ _ _ h => h) (Or.inl ⟨by rfl, ?_⟩) ?_ ?_
            rotate_left
            · intro w'
              go_simp
              with_reducible rfl
            rotate_left
            · simp only [Act.put, List.setIfInBounds_toArray, List.set_cons_zero, List.set_cons_succ, i64_w, i32_w]
              rfl
            refine pure_ (i := 18) (N := some 84) (v := ?_) (a' := ?_) #[true, true, true, true, true, true, true, true, true, true, true, true, true, true, true, true, true, true, true, false, false, false, false, false, false, false, false] rfl rfl (by kernel_rfl) (fun _ _ _ h => h) (Or.inl ⟨by rfl, ?_⟩) ?_ ?_
            rotate_left
            · intro w'
              go_simp
              with_reducible rfl
            rotate_left
            · simp only [Act.put, List.setIfInBounds_toArray, List.set_cons_zero, List.set_cons_succ, i64_w, i32_w]
              rfl
            refine pure_ (i := 19) (N := some 85) (v := ?_) (a' := ?_) #[true, true, true, true, true, true, true, true, true, true, true, true, true, true, true, true, true, true, true, true, false, false, false, false, false, false, false] rfl rfl (by kernel_rfl) (fun _ _ _ h => h) (Or.inl ⟨by rfl, ?_⟩) ?_ ?_
            rotate_left
            · intro w'
              go_simp
              with_reducible rfl
            rotate_left
            · simp only [Act.put, List.setIfInBounds_toArray, List.set_cons_zero, List.set_cons_succ, i64_w, i32_w]
              rfl
            refine pure_ (i := 20) (N := some 86) (v := ?_) (a' := ?_) #[true, true, true, true, true, true, true, true, true, true, true, true, true, true, true, true, true, true, true, true, true, false, false, false, false, false, false] rfl rfl (by kernel_rfl) (fun _ _ _ h => h) (Or.inl ⟨by rfl, ?_⟩) ?_ ?_
            rotate_left
            · intro w'
              go_simp
              with_reducible rfl
            rotate_left
            · simp only [Act.put, List.setIfInBounds_toArray, List.set_cons_zero, List.set_cons_succ, i64_w, i32_w]
              rfl
            refine pure_ (i := 23) (N := some 89) (v := ?_) (a' := ?_) #[true, true, true, true, true, true, true, true, true, true, true, true, true, true, true, true, true, true, true, true, true, false, false, true, false, false, false] rfl rfl (by kernel_rfl) (fun _ _ _ h => h) (Or.inl ⟨by rfl, ?_⟩) ?_ ?_
            rotate_left
            · intro w'
              go_simp
              with_reducible rfl
            rotate_left
            · simp only [Act.put, List.setIfInBounds_toArray, List.set_cons_zero, List.set_cons_succ, i64_w, i32_w]
              rfl
            refine one_ (i := 21) (N := some 87) #[true, true, true, true, true, true, true, true, true, true, true, true, true, true, true, true, true, true, true, true, true, true, false, true, false, false, false] rfl rfl (by kernel_rfl) (by decide) (fun K hK => ?_)
            refine goes_ Try.func32 (by kernel_rfl) rfl #[.pointer (some ⟨g, 0, none⟩)] (by rfl) rfl rfl (by simp only [List.map_toArray, List.map_cons, List.map_nil]; rfl) ?_
            with_reducible refine (doneA HQ4.out).mono ?_
            rintro e q5 ⟨rfl, hq⟩
            refine ⟨_, rfl, ?_⟩
            have HQ5 := Aside0.mk hq
            clear hq
            refine hK.out _ _ (HQ5.out.cell2) (fun hHeld => ?_)
            clear hK K
            refine norm_ (a' := ?_) ?_ ?_
            rotate_left
            · show Act.put _ (some 87) _ = _
              simp only [Act.put, List.setIfInBounds_toArray, List.set_cons_zero, List.set_cons_succ, i64_w, i32_w]
              rfl
            refine one_ (i := 22) (N := some 88) #[true, true, true, true, true, true, true, true, true, true, true, true, true, true, true, true, true, true, true, true, true, true, true, true, false, false, false] rfl rfl (by kernel_rfl) (by decide) (fun K hK => ?_)
            refine goes_ Try.func17 (by kernel_rfl) rfl #[.int .i64 (rDone xs' ev')] (by rfl) rfl rfl (by simp only [List.map_toArray, List.map_cons, List.map_nil]; rfl) ?_
            with_reducible refine (weighhouselaw01_num.calls (rDone xs' ev') (rDone xs' ev') _ rfl).mono ?_
            rintro e q6 ⟨rfl, hq⟩
            refine ⟨_, rfl, ?_⟩
            have HQ6 := Aside0.mk (HQ5.out.below hq.below)
            clear hq
            refine hK.out _ _ (HQ6.out.cell2) (fun hHeld => ?_)
            clear hK K
            refine norm_ (a' := ?_) ?_ ?_
            rotate_left
            · show Act.put _ (some 88) _ = _
              simp only [Act.put, List.setIfInBounds_toArray, List.set_cons_zero, List.set_cons_succ, i64_w, i32_w]
              rfl
            refine one_ (i := 24) (N := some 90) #[true, true, true, true, true, true, true, true, true, true, true, true, true, true, true, true, true, true, true, true, true, true, true, true, true, false, false] rfl rfl (by kernel_rfl) (by decide) (fun K hK => ?_)
            refine goes_ Try.func42 (by kernel_rfl) rfl #[.pointer (some ⟨g2, 0, none⟩)] (by rfl) rfl rfl (by simp only [List.map_toArray, List.map_cons, List.map_nil]; rfl) ?_
            with_reducible refine (doneB HQ6.out).mono ?_
            rintro e q7 ⟨rfl, hq⟩
            refine ⟨_, rfl, ?_⟩
            have HQ7 := Aside0.mk hq
            clear hq
            refine hK.out _ _ (HQ7.out.cell2) (fun hHeld => ?_)
            clear hK K
            refine norm_ (a' := ?_) ?_ ?_
            rotate_left
            · show Act.put _ (some 90) _ = _
              simp only [Act.put, List.setIfInBounds_toArray, List.set_cons_zero, List.set_cons_succ, i64_w, i32_w]
              rfl
            refine pure_ (i := 25) (N := some 91) (v := ?_) (a' := ?_) #[true, true, true, true, true, true, true, true, true, true, true, true, true, true, true, true, true, true, true, true, true, true, true, true, true, true, false] rfl rfl (by kernel_rfl) (fun _ _ _ h => h) (Or.inl ⟨by rfl, ?_⟩) ?_ ?_
            rotate_left
            · intro w'
              go_simp
              with_reducible rfl
            rotate_left
            · simp only [Act.put, List.setIfInBounds_toArray, List.set_cons_zero, List.set_cons_succ, i64_w, i32_w]
              rfl
            refine pure_ (i := 26) (N := some 92) (v := ?_) (a' := ?_) #[true, true, true, true, true, true, true, true, true, true, true, true, true, true, true, true, true, true, true, true, true, true, true, true, true, true, true] rfl rfl (by kernel_rfl) (fun _ _ _ h => h) (Or.inl ⟨by rfl, ?_⟩) ?_ ?_
            rotate_left
            · intro w'
              go_simp
              with_reducible rfl
            rotate_left
            · simp only [Act.put, List.setIfInBounds_toArray, List.set_cons_zero, List.set_cons_succ, i64_w, i32_w]
              rfl
            refine done_ (by kernel_rfl) ?_
            clear hHeld k2
            go_wp2
            go_roundw
            case rel => exact ⟨j + 1, xs', ev', by omega, by go_num, HQ7⟩
            case measure => simp [intOf]; omega
          · have d2 : (x == 1) = false := by simp [h1]
            clear h0 h1
            go_upto_region 20 with (first | (go_at_call 31; (with_reducible refine (textA HT.out).mono ?_); rintro e w5 ⟨rfl, hT5⟩; have HT5 := Aside0.mk hT5; clear hT5) | (go_at_call 38; (with_reducible refine (textB_ HT5.out).mono ?_); rintro e w6 ⟨rfl, hT6⟩; have HT6 := Aside0.mk hT6; clear hT6))
            obtain ⟨xs', hxs'⟩ : ∃ xs', (rText xs ev).2.1 = xs' := ⟨_, rfl⟩
            obtain ⟨ev', hev'⟩ : ∃ ev', (rText xs ev).2.2 = ev' := ⟨_, rfl⟩
            rw [hxs', hev'] at HT6
            have HTd := Aside0.mk (HT6.out.below ((Below.refl _ _).drew))
            have k2 := HTd.out.cell2
            clear hxs' hev' HT5 HT6
            refine start_ (n := 27) (S := fun w' => w'.cell? ⟨g2, 2, none⟩ = some (.int .i64 ev')) (ds := []) #[false, false, false, false, false, false, false, false, false, false, false, false, false, false, false, false, false, false, false, false, false, false, false, false, false, false, false] (by kernel_rfl) rfl rfl (k2) (fun hHeld => ?_)
            generalize w6.drew = wd at HTd k2 hHeld ⊢
            refine pure_ (i := 0) (N := some 66) (v := ?_) (a' := ?_) #[true, false, false, false, false, false, false, false, false, false, false, false, false, false, false, false, false, false, false, false, false, false, false, false, false, false, false] rfl rfl (by kernel_rfl) (fun _ _ _ h => h) (Or.inl ⟨by rfl, ?_⟩) ?_ ?_
            rotate_left
            · intro w'
              go_simp
              with_reducible rfl
            rotate_left
            · simp only [Act.put, List.setIfInBounds_toArray, List.set_cons_zero, List.set_cons_succ, i64_w, i32_w]
              rfl
            refine pure_ (i := 1) (N := some 67) (v := ?_) (a' := ?_) #[true, true, false, false, false, false, false, false, false, false, false, false, false, false, false, false, false, false, false, false, false, false, false, false, false, false, false] rfl rfl (by kernel_rfl) (fun _ _ _ h => h) (Or.inl ⟨by rfl, ?_⟩) ?_ ?_
            rotate_left
            · intro w'
              go_simp
              with_reducible rfl
            rotate_left
            · simp only [Act.put, List.setIfInBounds_toArray, List.set_cons_zero, List.set_cons_succ, i64_w, i32_w]
              rfl
            refine pure_ (i := 2) (N := some 68) (v := ?_) (a' := ?_) #[true, true, true, false, false, false, false, false, false, false, false, false, false, false, false, false, false, false, false, false, false, false, false, false, false, false, false] rfl rfl (by kernel_rfl) (fun _ _ _ h => h) (Or.inl ⟨by rfl, ?_⟩) ?_ ?_
            rotate_left
            · intro w'
              go_simp
              with_reducible rfl
            rotate_left
            · simp only [Act.put, List.setIfInBounds_toArray, List.set_cons_zero, List.set_cons_succ, i64_w, i32_w]
              rfl
            refine pure_ (i := 3) (N := some 69) (v := ?_) (a' := ?_) #[true, true, true, true, false, false, false, false, false, false, false, false, false, false, false, false, false, false, false, false, false, false, false, false, false, false, false] rfl rfl (by kernel_rfl) (fun _ _ _ h => h) (Or.inl ⟨by rfl, ?_⟩) ?_ ?_
            rotate_left
            · intro w'
              go_simp
              with_reducible rfl
            rotate_left
            · simp only [Act.put, List.setIfInBounds_toArray, List.set_cons_zero, List.set_cons_succ, i64_w, i32_w]
              rfl
            refine pure_ (i := 5) (N := some 71) (v := ?_) (a' := ?_) #[true, true, true, true, false, true, false, false, false, false, false, false, false, false, false, false, false, false, false, false, false, false, false, false, false, false, false] rfl rfl (by kernel_rfl) (fun _ _ _ h => h) (Or.inl ⟨by rfl, ?_⟩) ?_ ?_
            rotate_left
            · intro w'
              go_simp
              with_reducible rfl
            rotate_left
            · simp only [Act.put, List.setIfInBounds_toArray, List.set_cons_zero, List.set_cons_succ, i64_w, i32_w]
              rfl
            refine one_ (i := 4) (N := some 70) #[true, true, true, true, true, true, false, false, false, false, false, false, false, false, false, false, false, false, false, false, false, false, false, false, false, false, false] rfl rfl (by kernel_rfl) (by decide) (fun K hK => ?_)
            refine goes_ Try.func39 (by kernel_rfl) rfl #[.pointer (some ⟨g, 0, none⟩)] (by rfl) rfl rfl (by simp only [List.map_toArray, List.map_cons, List.map_nil]; rfl) ?_
            with_reducible refine (leftA HTd.out).mono ?_
            rintro e q1 ⟨rfl, hq⟩
            refine ⟨_, rfl, ?_⟩
            have HQ1 := Aside0.mk hq
            clear hq
            refine hK.out _ _ (HQ1.out.cell2) (fun hHeld => ?_)
            clear hK K
            refine norm_ (a' := ?_) ?_ ?_
            rotate_left
            · show Act.put _ (some 70) _ = _
              simp only [Act.put, List.setIfInBounds_toArray, List.set_cons_zero, List.set_cons_succ, i64_w, i32_w]
              rfl
            refine one_ (i := 6) (N := some 72) #[true, true, true, true, true, true, true, false, false, false, false, false, false, false, false, false, false, false, false, false, false, false, false, false, false, false, false] rfl rfl (by kernel_rfl) (by decide) (fun K hK => ?_)
            refine goes_ Try.func40 (by kernel_rfl) rfl #[.pointer (some ⟨g2, 0, none⟩)] (by rfl) rfl rfl (by simp only [List.map_toArray, List.map_cons, List.map_nil]; rfl) ?_
            with_reducible refine (leftB HQ1.out).mono ?_
            rintro e q2 ⟨rfl, hq⟩
            refine ⟨_, rfl, ?_⟩
            have HQ2 := Aside0.mk hq
            clear hq
            refine hK.out _ _ (HQ2.out.cell2) (fun hHeld => ?_)
            clear hK K
            refine norm_ (a' := ?_) ?_ ?_
            rotate_left
            · show Act.put _ (some 72) _ = _
              simp only [Act.put, List.setIfInBounds_toArray, List.set_cons_zero, List.set_cons_succ, i64_w, i32_w]
              rfl
            refine pure_ (i := 7) (N := some 73) (v := ?_) (a' := ?_) #[true, true, true, true, true, true, true, true, false, false, false, false, false, false, false, false, false, false, false, false, false, false, false, false, false, false, false] rfl rfl (by kernel_rfl) (fun _ _ _ h => h) (Or.inl ⟨by rfl, ?_⟩) ?_ ?_
            rotate_left
            · intro w'
              go_simp
              with_reducible rfl
            rotate_left
            · simp only [Act.put, List.setIfInBounds_toArray, List.set_cons_zero, List.set_cons_succ, i64_w, i32_w]
              rfl
            refine pure_ (i := 8) (N := some 74) (v := ?_) (a' := ?_) #[true, true, true, true, true, true, true, true, true, false, false, false, false, false, false, false, false, false, false, false, false, false, false, false, false, false, false] rfl rfl (by kernel_rfl) (fun _ _ _ h => h) (Or.inl ⟨by rfl, ?_⟩) ?_ ?_
            rotate_left
            · intro w'
              go_simp
              with_reducible rfl
            rotate_left
            · simp only [Act.put, List.setIfInBounds_toArray, List.set_cons_zero, List.set_cons_succ, i64_w, i32_w]
              rfl
            refine pure_ (i := 9) (N := some 75) (v := ?_) (a' := ?_) #[true, true, true, true, true, true, true, true, true, true, false, false, false, false, false, false, false, false, false, false, false, false, false, false, false, false, false] rfl rfl (by kernel_rfl) (fun _ _ _ h => h) (Or.inl ⟨by rfl, ?_⟩) ?_ ?_
            rotate_left
            · intro w'
              go_simp
              with_reducible rfl
            rotate_left
            · simp only [Act.put, List.setIfInBounds_toArray, List.set_cons_zero, List.set_cons_succ, i64_w, i32_w]
              rfl
            refine pure_ (i := 10) (N := some 76) (v := ?_) (a' := ?_) #[true, true, true, true, true, true, true, true, true, true, true, false, false, false, false, false, false, false, false, false, false, false, false, false, false, false, false] rfl rfl (by kernel_rfl) (fun _ _ _ h => h) (Or.inl ⟨by rfl, ?_⟩) ?_ ?_
            rotate_left
            · intro w'
              go_simp
              with_reducible rfl
            rotate_left
            · simp only [Act.put, List.setIfInBounds_toArray, List.set_cons_zero, List.set_cons_succ, i64_w, i32_w]
              rfl
            refine pure_ (i := 13) (N := some 79) (v := ?_) (a' := ?_) #[true, true, true, true, true, true, true, true, true, true, true, false, false, true, false, false, false, false, false, false, false, false, false, false, false, false, false] rfl rfl (by kernel_rfl) (fun _ _ _ h => h) (Or.inl ⟨by rfl, ?_⟩) ?_ ?_
            rotate_left
            · intro w'
              go_simp
              with_reducible rfl
            rotate_left
            · simp only [Act.put, List.setIfInBounds_toArray, List.set_cons_zero, List.set_cons_succ, i64_w, i32_w]
              rfl
            refine pure_ (i := 14) (N := some 80) (v := ?_) (a' := ?_) #[true, true, true, true, true, true, true, true, true, true, true, false, false, true, true, false, false, false, false, false, false, false, false, false, false, false, false] rfl rfl (by kernel_rfl) (fun _ _ _ h => h) (Or.inl ⟨by rfl, ?_⟩) ?_ ?_
            rotate_left
            · intro w'
              go_simp
              with_reducible rfl
            rotate_left
            · simp only [Act.put, List.setIfInBounds_toArray, List.set_cons_zero, List.set_cons_succ, i64_w, i32_w]
              rfl
            refine pure_ (i := 15) (N := some 81) (v := ?_) (a' := ?_) #[true, true, true, true, true, true, true, true, true, true, true, false, false, true, true, true, false, false, false, false, false, false, false, false, false, false, false] rfl rfl (by kernel_rfl) (fun _ _ _ h => h) (Or.inl ⟨by rfl, ?_⟩) ?_ ?_
            rotate_left
            · intro w'
              go_simp
              with_reducible rfl
            rotate_left
            · simp only [Act.put, List.setIfInBounds_toArray, List.set_cons_zero, List.set_cons_succ, i64_w, i32_w]
              rfl
            refine take_ (i := 16) (N := some 82) (v := ?_) (a' := ?_) #[true, true, true, true, true, true, true, true, true, true, true, false, false, true, true, true, true, false, false, false, false, false, false, false, false, false, false] rfl rfl (by kernel_rfl) (fun _ _ _ h => h) (Or.inl ⟨by rfl, ?_⟩) hHeld ?_ ?_
            rotate_left
            · intro w' s0
              go_simp
              with_reducible rfl
            rotate_left
            · simp only [Act.put, List.setIfInBounds_toArray, List.set_cons_zero, List.set_cons_succ, i64_w, i32_w]
              rfl
            refine one_ (i := 11) (N := some 77) #[true, true, true, true, true, true, true, true, true, true, true, true, false, true, true, true, true, false, false, false, false, false, false, false, false, false, false] rfl rfl (by kernel_rfl) (by decide) (fun K hK => ?_)
            refine goes_ Try.func41 (by kernel_rfl) rfl #[.pointer (some ⟨g, 0, none⟩)] (by rfl) rfl rfl (by simp only [List.map_toArray, List.map_cons, List.map_nil]; rfl) ?_
            with_reducible refine (errA HQ2.out).mono ?_
            rintro e q3 ⟨rfl, hq⟩
            refine ⟨_, rfl, ?_⟩
            have HQ3 := Aside0.mk hq
            clear hq
            refine hK.out _ _ (HQ3.out.cell2) (fun hHeld => ?_)
            clear hK K
            refine norm_ (a' := ?_) ?_ ?_
            rotate_left
            · show Act.put _ (some 77) _ = _
              simp only [Act.put, List.setIfInBounds_toArray, List.set_cons_zero, List.set_cons_succ, i64_w, i32_w]
              rfl
            refine one_ (i := 12) (N := some 78) #[true, true, true, true, true, true, true, true, true, true, true, true, true, true, true, true, true, false, false, false, false, false, false, false, false, false, false] rfl rfl (by kernel_rfl) (by decide) (fun K hK => ?_)
            refine goes_ Try.func17 (by kernel_rfl) rfl #[.int .i64 ev'] (by rfl) rfl rfl (by simp only [List.map_toArray, List.map_cons, List.map_nil]; rfl) ?_
            with_reducible refine (weighhouselaw01_num.calls ev' ev' _ rfl).mono ?_
            rintro e q4 ⟨rfl, hq⟩
            refine ⟨_, rfl, ?_⟩
            have HQ4 := Aside0.mk (HQ3.out.below hq.below)
            clear hq
            refine hK.out _ _ (HQ4.out.cell2) (fun hHeld => ?_)
            clear hK K
            refine norm_ (a' := ?_) ?_ ?_
            rotate_left
            · show Act.put _ (some 78) _ = _
              simp only [Act.put, List.setIfInBounds_toArray, List.set_cons_zero, List.set_cons_succ, i64_w, i32_w]
              rfl
            refine pure_ (i := 17) (N := some 83) (v := ?_) (a' := ?_) #[true, true, true, true, true, true, true, true, true, true, true, true, true, true, true, true, true, true, false, false, false, false, false, false, false, false, false] rfl rfl (by kernel_rfl) (fun _ _ _ h => h) (Or.inl ⟨by rfl, ?_⟩) ?_ ?_
            rotate_left
            · intro w'
              go_simp
              with_reducible rfl
            rotate_left
            · simp only [Act.put, List.setIfInBounds_toArray, List.set_cons_zero, List.set_cons_succ, i64_w, i32_w]
              rfl
            refine pure_ (i := 18) (N := some 84) (v := ?_) (a' := ?_) #[true, true, true, true, true, true, true, true, true, true, true, true, true, true, true, true, true, true, true, false, false, false, false, false, false, false, false] rfl rfl (by kernel_rfl) (fun _ _ _ h => h) (Or.inl ⟨by rfl, ?_⟩) ?_ ?_
            rotate_left
            · intro w'
              go_simp
              with_reducible rfl
            rotate_left
            · simp only [Act.put, List.setIfInBounds_toArray, List.set_cons_zero, List.set_cons_succ, i64_w, i32_w]
              rfl
            refine pure_ (i := 19) (N := some 85) (v := ?_) (a' := ?_) #[true, true, true, true, true, true, true, true, true, true, true, true, true, true, true, true, true, true, true, true, false, false, false, false, false, false, false] rfl rfl (by kernel_rfl) (fun _ _ _ h => h) (Or.inl ⟨by rfl, ?_⟩) ?_ ?_
            rotate_left
            · intro w'
              go_simp
              with_reducible rfl
            rotate_left
            · simp only [Act.put, List.setIfInBounds_toArray, List.set_cons_zero, List.set_cons_succ, i64_w, i32_w]
              rfl
            refine pure_ (i := 20) (N := some 86) (v := ?_) (a' := ?_) #[true, true, true, true, true, true, true, true, true, true, true, true, true, true, true, true, true, true, true, true, true, false, false, false, false, false, false] rfl rfl (by kernel_rfl) (fun _ _ _ h => h) (Or.inl ⟨by rfl, ?_⟩) ?_ ?_
            rotate_left
            · intro w'
              go_simp
              with_reducible rfl
            rotate_left
            · simp only [Act.put, List.setIfInBounds_toArray, List.set_cons_zero, List.set_cons_succ, i64_w, i32_w]
              rfl
            refine pure_ (i := 23) (N := some 89) (v := ?_) (a' := ?_) #[true, true, true, true, true, true, true, true, true, true, true, true, true, true, true, true, true, true, true, true, true, false, false, true, false, false, false] rfl rfl (by kernel_rfl) (fun _ _ _ h => h) (Or.inl ⟨by rfl, ?_⟩) ?_ ?_
            rotate_left
            · intro w'
              go_simp
              with_reducible rfl
            rotate_left
            · simp only [Act.put, List.setIfInBounds_toArray, List.set_cons_zero, List.set_cons_succ, i64_w, i32_w]
              rfl
            refine one_ (i := 21) (N := some 87) #[true, true, true, true, true, true, true, true, true, true, true, true, true, true, true, true, true, true, true, true, true, true, false, true, false, false, false] rfl rfl (by kernel_rfl) (by decide) (fun K hK => ?_)
            refine goes_ Try.func32 (by kernel_rfl) rfl #[.pointer (some ⟨g, 0, none⟩)] (by rfl) rfl rfl (by simp only [List.map_toArray, List.map_cons, List.map_nil]; rfl) ?_
            with_reducible refine (doneA HQ4.out).mono ?_
            rintro e q5 ⟨rfl, hq⟩
            refine ⟨_, rfl, ?_⟩
            have HQ5 := Aside0.mk hq
            clear hq
            refine hK.out _ _ (HQ5.out.cell2) (fun hHeld => ?_)
            clear hK K
            refine norm_ (a' := ?_) ?_ ?_
            rotate_left
            · show Act.put _ (some 87) _ = _
              simp only [Act.put, List.setIfInBounds_toArray, List.set_cons_zero, List.set_cons_succ, i64_w, i32_w]
              rfl
            refine one_ (i := 22) (N := some 88) #[true, true, true, true, true, true, true, true, true, true, true, true, true, true, true, true, true, true, true, true, true, true, true, true, false, false, false] rfl rfl (by kernel_rfl) (by decide) (fun K hK => ?_)
            refine goes_ Try.func17 (by kernel_rfl) rfl #[.int .i64 (rDone xs' ev')] (by rfl) rfl rfl (by simp only [List.map_toArray, List.map_cons, List.map_nil]; rfl) ?_
            with_reducible refine (weighhouselaw01_num.calls (rDone xs' ev') (rDone xs' ev') _ rfl).mono ?_
            rintro e q6 ⟨rfl, hq⟩
            refine ⟨_, rfl, ?_⟩
            have HQ6 := Aside0.mk (HQ5.out.below hq.below)
            clear hq
            refine hK.out _ _ (HQ6.out.cell2) (fun hHeld => ?_)
            clear hK K
            refine norm_ (a' := ?_) ?_ ?_
            rotate_left
            · show Act.put _ (some 88) _ = _
              simp only [Act.put, List.setIfInBounds_toArray, List.set_cons_zero, List.set_cons_succ, i64_w, i32_w]
              rfl
            refine one_ (i := 24) (N := some 90) #[true, true, true, true, true, true, true, true, true, true, true, true, true, true, true, true, true, true, true, true, true, true, true, true, true, false, false] rfl rfl (by kernel_rfl) (by decide) (fun K hK => ?_)
            refine goes_ Try.func42 (by kernel_rfl) rfl #[.pointer (some ⟨g2, 0, none⟩)] (by rfl) rfl rfl (by simp only [List.map_toArray, List.map_cons, List.map_nil]; rfl) ?_
            with_reducible refine (doneB HQ6.out).mono ?_
            rintro e q7 ⟨rfl, hq⟩
            refine ⟨_, rfl, ?_⟩
            have HQ7 := Aside0.mk hq
            clear hq
            refine hK.out _ _ (HQ7.out.cell2) (fun hHeld => ?_)
            clear hK K
            refine norm_ (a' := ?_) ?_ ?_
            rotate_left
            · show Act.put _ (some 90) _ = _
              simp only [Act.put, List.setIfInBounds_toArray, List.set_cons_zero, List.set_cons_succ, i64_w, i32_w]
              rfl
            refine pure_ (i := 25) (N := some 91) (v := ?_) (a' := ?_) #[true, true, true, true, true, true, true, true, true, true, true, true, true, true, true, true, true, true, true, true, true, true, true, true, true, true, false] rfl rfl (by kernel_rfl) (fun _ _ _ h => h) (Or.inl ⟨by rfl, ?_⟩) ?_ ?_
            rotate_left
            · intro w'
              go_simp
              with_reducible rfl
            rotate_left
            · simp only [Act.put, List.setIfInBounds_toArray, List.set_cons_zero, List.set_cons_succ, i64_w, i32_w]
              rfl
            refine pure_ (i := 26) (N := some 92) (v := ?_) (a' := ?_) #[true, true, true, true, true, true, true, true, true, true, true, true, true, true, true, true, true, true, true, true, true, true, true, true, true, true, true] rfl rfl (by kernel_rfl) (fun _ _ _ h => h) (Or.inl ⟨by rfl, ?_⟩) ?_ ?_
            rotate_left
            · intro w'
              go_simp
              with_reducible rfl
            rotate_left
            · simp only [Act.put, List.setIfInBounds_toArray, List.set_cons_zero, List.set_cons_succ, i64_w, i32_w]
              rfl
            refine done_ (by kernel_rfl) ?_
            clear hHeld k2
            go_wp2
            go_roundw
            case rel => exact ⟨j + 1, xs', ev', by omega, by go_num, HQ7⟩
            case measure => simp [intOf]; omega
        · go_wp2
          go_ret
          exact ⟨rfl, HT.out.bel⟩


end Go.Proofs.Ytjkimfjhfncldaa.Q
end
