/- texts of one claim, merged: each in a section of its own -/
import Derived.Test.YtjkimfjhfncldaaMWireReads3
section
-- written by hprint.py (a program of these sessions) out of the translation; Lean checks it
namespace Go.Proofs.Ytjkimfjhfncldaa.Q
open Go.RowKit Go.Proofs.YtjkimfjhfncldaaW.Hb Go.Proofs.YtjkimfjhfncldaaW.PrintWords Go.Proofs.YtjkimfjhfncldaaW.PrintLast Go.Proofs.YtjkimfjhfncldaaW.PrintMore
attribute [local go_sem] max2_int min2_int max_two min_two max_three min_three max_four min_four   -- for this text's walks alone
set_option linter.unusedVariables false
set_option linter.unusedSimpArgs false

/-! ### slices_Equal_byte_byte: function 49 -/
def slices_Equal_byte_byte.l0 : Nat → List Int → List Int → Int → Int → Option (Bool)
  | 0, _, _, _, _ => none
  | k + 1, x0, x1, x12, x13 => if x13 < x12 then (if 0 ≤ x13 then (if x13 < (x0.length : Int) then (if x13 < (x1.length : Int) then (if (rd x0 x13) = (rd x1 x13) then (slices_Equal_byte_byte.l0 k x0 x1 x12 (wrap64 (x13 + 1))) else (some false)) else (none)) else (none)) else (none)) else (some true)
def slices_Equal_byte_byte.f (k : Nat) (l0 : List Int) (l1 : List Int) : Option (Bool) := if (l0.length : Int) = (l1.length : Int) then (slices_Equal_byte_byte.l0 k l0 l1 (l0.length : Int) 0) else (some false)
theorem slices_Equal_byte_byte.mono_l : ∀ k, (∀ y0 y1 y2 y3, LeO (slices_Equal_byte_byte.l0 k y0 y1 y2 y3) (slices_Equal_byte_byte.l0 (k + 1) y0 y1 y2 y3))
  | 0 => fun _ _ _ _ r h => by simp [slices_Equal_byte_byte.l0] at h
  | k + 1 => by
    have ih0 := slices_Equal_byte_byte.mono_l k
    · intro y0 y1 y2 y3
      unfold slices_Equal_byte_byte.l0
      repeat' first
      | (with_reducible exact ih0 _ _ _ _)
      | (with_reducible exact LeO.refl _)
      | (with_reducible exact LeO.none _)
      | (with_reducible refine LeO.ite ?_ ?_)
      | (with_reducible refine LeO.bind ?_ (fun _ => ?_))
      | exact ih0 _ _ _ _
      | exact LeO.none _
      | refine LeO.ite ?_ ?_
      | refine LeO.bind ?_ (fun _ => ?_)
theorem slices_Equal_byte_byte.mono : ∀ a0 a1 k, LeO (slices_Equal_byte_byte.f k a0 a1) (slices_Equal_byte_byte.f (k + 1) a0 a1) := by
  intro a0 a1 k
  have ih0 := slices_Equal_byte_byte.mono_l k
  unfold slices_Equal_byte_byte.f
  repeat' first
      | (with_reducible exact ih0 _ _ _ _)
      | (with_reducible exact LeO.refl _)
      | (with_reducible exact LeO.none _)
      | (with_reducible refine LeO.ite ?_ ?_)
      | (with_reducible refine LeO.bind ?_ (fun _ => ?_))
      | exact ih0 _ _ _ _
      | exact LeO.none _
      | refine LeO.ite ?_ ?_
      | refine LeO.bind ?_ (fun _ => ?_)
set_option maxHeartbeats 8000000 in
set_option maxRecDepth 100000 in
theorem slices_Equal_byte_byte.calls (k : Nat) (A0 : Option Addr) (c0 : Nat) (l0 : List Int) (A1 : Option Addr) (c1 : Nat) (l1 : List Int) (r : Bool) (w : World) (hr0 : Kd.C (Kd.int .u8) w A0 l0.length l0) (hc0 : l0.length ≤ c0) (hr1 : Kd.C (Kd.int .u8) w A1 l1.length l1) (hc1 : l1.length ≤ c1) (h : slices_Equal_byte_byte.f k l0 l1 = some r) :
    Calls Try.prog 49 #[.slice A0 l0.length c0, .slice A1 l1.length c1] w fun e w' => e = .returned (.bool r) ∧ Drawn0 w w' := by
  have HR0 := Aside0.mk hr0
  have HC0 := Aside0.mk hc0
  clear hr0 hc0
  have HR1 := Aside0.mk hr1
  have HC1 := Aside0.mk hc1
  clear hr1 hc1
  have H : (if (l0.length : Int) = (l1.length : Int) then (slices_Equal_byte_byte.l0 k l0 l1 (l0.length : Int) 0) else (some false)) = some r := h
  clear h
  by_cases c3 : (l0.length : Int) = (l1.length : Int)
  · rw [if_pos c3] at H
    have c3b0 : ((l0.length : Int) == (l1.length : Int)) = true := beq_iff_eq.mpr c3
    have c3b1 : ((l0.length : Int) != (l1.length : Int)) = false := bne_eq_false_iff_eq.mpr c3
    have c3b2 : (l0.length == l1.length) = true := by first | simpa using c3 | (simp at c3 ⊢; omega)
    clear c3
    have H' := Aside0.mk H
    clear H
    go_enter Try.func49, Try.ntmps49
    go_wp2
    repeat (go_quiet (fail); try go_wp2)
    go_loopg [13] k (fun kq v13 w' => ∃ (x13_1 : Int), v13 = .int .i64 x13_1 ∧ Aside0 (slices_Equal_byte_byte.l0 kq l0 l1 (l0.length : Int) x13_1 = some r) ∧ Aside0 (kq ≤ k) ∧ Drawn0 w w')
    case atStart => exact ⟨(0), (by first | rfl | (simp; done) | (simp [*]; done)), H', ⟨Nat.le_refl _⟩, by repeat (first | exact Drawn0.refl _ | apply Drawn0.step)⟩
    case round =>
      clear H'
      try clear c1
      try clear p2
      try clear c3
      try clear c3b0
      try clear c3b1
      try clear c3b2
      obtain ⟨x13_1, rfl, HA, HK1, ⟨m1, rfl⟩⟩ := hrel
      cases gk with
      | zero => exact absurd HA.out (by simp [slices_Equal_byte_byte.l0])
      | succ k1 =>
        have H := HA.out
        clear HA
        simp only [slices_Equal_byte_byte.l0] at H
        by_cases c4 : x13_1 < (l0.length : Int)
        · rw [if_pos c4] at H
          have c4b0 : decide (x13_1 < (l0.length : Int)) = true := decide_eq_true c4
          clear c4
          by_cases c5 : 0 ≤ x13_1
          · rw [if_pos c5] at H
            have c5b0 : decide (0 ≤ x13_1) = true := decide_eq_true c5
            clear c5
            by_cases c6 : x13_1 < (l0.length : Int)
            · rw [if_pos c6] at H
              have c6b0 : decide (x13_1 < (l0.length : Int)) = true := decide_eq_true c6
              clear c6
              by_cases c7 : x13_1 < (l1.length : Int)
              · rw [if_pos c7] at H
                have c7b0 : decide (x13_1 < (l1.length : Int)) = true := decide_eq_true c7
                clear c7
                by_cases c8 : (rd l0 x13_1) = (rd l1 x13_1)
                · rw [if_pos c8] at H
                  have c8b0 : ((rd l0 x13_1) == (rd l1 x13_1)) = true := beq_iff_eq.mpr c8
                  have c8b1 : ((rd l0 x13_1) != (rd l1 x13_1)) = false := bne_eq_false_iff_eq.mpr c8
                  clear c8
                  have H' := Aside0.mk H
                  clear H
                  have p154 : 0 ≤ (x13_1 : Int) := of_decide_eq_true (by first | (with_reducible assumption) | assumption)
                  have q154 : x13_1 < (l0.length : Int) := of_decide_eq_true (by first | (with_reducible assumption) | assumption)
                  obtain ⟨ad154, e154, hx154_0⟩ := Kd.at_int HR0.out x13_1 p154 q154
                  cases e154
                  replace p154 := eq_true p154
                  replace q154 := eq_true q154
                  have p155 : 0 ≤ (x13_1 : Int) := of_decide_eq_true (by first | (with_reducible assumption) | assumption)
                  have q155 : x13_1 < (l1.length : Int) := of_decide_eq_true (by first | (with_reducible assumption) | assumption)
                  obtain ⟨ad155, e155, hx155_0⟩ := Kd.at_int HR1.out x13_1 p155 q155
                  cases e155
                  replace p155 := eq_true p155
                  replace q155 := eq_true q155
                  go_wp2
                  repeat (go_quiet (fail); try go_wp2)
                  go_roundg k1
                  case measure => have := HK1.out; omega
                  case rel => exact ⟨(wrap64 (x13_1 + 1)), (by first | rfl | (simp; done) | (simp [*]; done)), H', ⟨by have := HK1.out; omega⟩, by repeat (first | exact Drawn0.refl _ | apply Drawn0.step)⟩
                · rw [if_neg c8] at H
                  have c8b0 : ((rd l0 x13_1) == (rd l1 x13_1)) = false := beq_eq_false_iff_ne.mpr c8
                  have c8b1 : ((rd l0 x13_1) != (rd l1 x13_1)) = true := bne_iff_ne.mpr c8
                  obtain rfl := Option.some.inj H
                  have p154 : 0 ≤ (x13_1 : Int) := of_decide_eq_true (by first | (with_reducible assumption) | assumption)
                  have q154 : x13_1 < (l0.length : Int) := of_decide_eq_true (by first | (with_reducible assumption) | assumption)
                  obtain ⟨ad154, e154, hx154_0⟩ := Kd.at_int HR0.out x13_1 p154 q154
                  cases e154
                  replace p154 := eq_true p154
                  replace q154 := eq_true q154
                  have p155 : 0 ≤ (x13_1 : Int) := of_decide_eq_true (by first | (with_reducible assumption) | assumption)
                  have q155 : x13_1 < (l1.length : Int) := of_decide_eq_true (by first | (with_reducible assumption) | assumption)
                  obtain ⟨ad155, e155, hx155_0⟩ := Kd.at_int HR1.out x13_1 p155 q155
                  cases e155
                  replace p155 := eq_true p155
                  replace q155 := eq_true q155
                  go_wp2
                  repeat (go_quiet (fail); try go_wp2)
                  go_ret
                  exact ⟨by first | rfl | (simp; done) | (simp [*]; done), by repeat (first | exact Drawn0.refl _ | apply Drawn0.step)⟩
              · rw [if_neg c7] at H
                exact absurd H (by simp)
            · rw [if_neg c6] at H
              exact absurd H (by simp)
          · rw [if_neg c5] at H
            exact absurd H (by simp)
        · rw [if_neg c4] at H
          have c4b0 : decide (x13_1 < (l0.length : Int)) = false := decide_eq_false c4
          clear c4
          obtain rfl := Option.some.inj H
          go_wp2
          repeat (go_quiet (fail); try go_wp2)
          go_ret
          exact ⟨by first | rfl | (simp; done) | (simp [*]; done), by repeat (first | exact Drawn0.refl _ | apply Drawn0.step)⟩
  · rw [if_neg c3] at H
    have c3b0 : ((l0.length : Int) == (l1.length : Int)) = false := beq_eq_false_iff_ne.mpr c3
    have c3b1 : ((l0.length : Int) != (l1.length : Int)) = true := bne_iff_ne.mpr c3
    have c3b2 : (l0.length == l1.length) = false := by first | simpa using c3 | (simp at c3 ⊢; omega)
    obtain rfl := Option.some.inj H
    go_enter Try.func49, Try.ntmps49
    go_wp2
    repeat (go_quiet (fail); try go_wp2)
    go_ret
    exact ⟨by first | rfl | (simp; done) | (simp [*]; done), by repeat (first | exact Drawn0.refl _ | apply Drawn0.step)⟩

end Go.Proofs.Ytjkimfjhfncldaa.Q
end

section
-- written by hprint.py (a program of these sessions) out of the translation; Lean checks it
namespace Go.Proofs.Ytjkimfjhfncldaa.Q
open Go.RowKit Go.Proofs.YtjkimfjhfncldaaW.Hb Go.Proofs.YtjkimfjhfncldaaW.PrintWords Go.Proofs.YtjkimfjhfncldaaW.PrintLast Go.Proofs.YtjkimfjhfncldaaW.PrintMore
attribute [local go_sem] max2_int min2_int max_two min_two max_three min_three max_four min_four   -- for this text's walks alone
set_option linter.unusedVariables false
set_option linter.unusedSimpArgs false

/-! ### wire_Frames: function 20, by hand -/
theorem cut_ex {P : Program} (t e : TypeId) {i : TypeInfo} (ht : P.underlying t = some (.slice e)) (hi : P.info? e = some i) (hsz : i.size = 1) (A : Option Addr) (c : Nat) (xs : List Int) (lo hi' : Int) (h0 : 0 ≤ lo) (h1 : lo ≤ hi') (h2 : hi' ≤ xs.length) (hc : xs.length ≤ c) (ys : List Int) (hys : ys = (xs.take hi'.toNat).drop lo.toNat) :
    ∃ A' c', (∀ W : World, (Instr.slice t (.slice A xs.length c) (some (.int .i64 lo)) (some (.int .i64 hi')) none).run P W = .ok (.slice A' ys.length c') W) ∧ ys.length ≤ c' ∧ ∀ (w : World) (k : IntKind), (Kd.int k).C w A xs.length xs → (Kd.int k).C w A' ys.length ys := by
  subst hys
  have hl : ((xs.take hi'.toNat).drop lo.toNat).length = hi'.toNat - lo.toNat := by simp; omega
  refine ⟨(if c = lo.toNat then A else A.map (·.add (lo.toNat * 1))), c - lo.toNat, fun W => ?_, by rw [hl]; omega, fun w k h => ?_⟩
  · rw [hl]
    exact cut_mid t e .i64 .i64 ht hi 1 hsz A xs.length c lo hi' h0 h1 h2 hc W
  · exact Kd.C_mid h (by omega) (by omega) hc
theorem cut_ex_from {P : Program} (t e : TypeId) {i : TypeInfo} (ht : P.underlying t = some (.slice e)) (hi : P.info? e = some i) (hsz : i.size = 1) (A : Option Addr) (c : Nat) (xs : List Int) (lo : Int) (h0 : 0 ≤ lo) (h1 : lo ≤ xs.length) (hc : xs.length ≤ c) (ys : List Int) (hys : ys = xs.drop lo.toNat) :
    ∃ A' c', (∀ W : World, (Instr.slice t (.slice A xs.length c) (some (.int .i64 lo)) none none).run P W = .ok (.slice A' ys.length c') W) ∧ ys.length ≤ c' ∧ ∀ (w : World) (k : IntKind), (Kd.int k).C w A xs.length xs → (Kd.int k).C w A' ys.length ys := by
  subst hys
  have hl : (xs.drop lo.toNat).length = xs.length - lo.toNat := by simp
  refine ⟨(if c = lo.toNat then A else A.map (·.add (lo.toNat * 1))), c - lo.toNat, fun W => ?_, by rw [hl]; omega, fun w k h => ?_⟩
  · rw [hl]
    exact cut_from t e .i64 ht hi 1 hsz A xs.length c lo h0 h1 W
  · exact Kd.C_drop h (by omega) hc
theorem cut_ex_to {P : Program} (t e : TypeId) {i : TypeInfo} (ht : P.underlying t = some (.slice e)) (hi : P.info? e = some i) (A : Option Addr) (c : Nat) (xs : List Int) (hi' : Int) (h0 : 0 ≤ hi') (h1 : hi' ≤ xs.length) (hc : xs.length ≤ c) (ys : List Int) (hys : ys = xs.take hi'.toNat) :
    (∀ W : World, (Instr.slice t (.slice A xs.length c) none (some (.int .i64 hi')) none).run P W = .ok (.slice A ys.length c) W) ∧ ys.length ≤ c ∧ ∀ (w : World) (k : IntKind), (Kd.int k).C w A xs.length xs → (Kd.int k).C w A ys.length ys := by
  subst hys
  have hl : (xs.take hi'.toNat).length = hi'.toNat := by simp; omega
  refine ⟨fun W => ?_, by rw [hl]; omega, fun w k h => Kd.C_take h (by omega)⟩
  rw [hl]
  exact cut_to t e .i64 ht hi A xs.length c hi' h0 h1 hc W
def wire_Frames.l0 : Nat → List Int → List (List Int) → Nat → Option (List (List Int) × Int)
  | 0, _, _, _ => none
  | k + 1, b, l, e => if b.length < e then none else if (b.drop e).length < 8 then some (l, (e : Int)) else (wire_number.f k ((b.drop e).take 4)).bind fun m => if 1048576 < wrap64 m then some (l, (e : Int)) else if ((b.drop e).length : Int) - 8 < wrap64 m then some (l, (e : Int)) else if wrap64 m < 0 then none else (wire_Sum.f k ((b.drop e).take 4 ++ (((b.drop e).take (8 + wrap64 m).toNat).drop 8))).bind fun c => (wire_little.f k c).bind fun lc => (slices_Equal_byte_byte.f k lc (((b.drop e).take 8).drop 4)).bind fun q => if q = true then (if (l.length + 1) * 24 ≤ 140737488355328 then wire_Frames.l0 k b (l ++ [((b.drop e).take (8 + wrap64 m).toNat).drop 8]) (e + 8 + (wrap64 m).toNat) else none) else some (l, (e : Int))
def wire_Frames.f (k : Nat) (b : List Int) : Option (List (List Int) × Int) := wire_Frames.l0 k b [] 0
theorem wire_Frames.mono_l : ∀ k b l e, LeO (wire_Frames.l0 k b l e) (wire_Frames.l0 (k + 1) b l e)
  | 0, _, _, _ => fun r h => by simp [wire_Frames.l0] at h
  | k + 1, b, l, e => by
    have ih := wire_Frames.mono_l k
    rw [wire_Frames.l0, wire_Frames.l0]
    exact LeO.ite (LeO.none _) (LeO.ite (LeO.refl _) (LeO.bind (wire_number.mono _ _) (fun _ => LeO.ite (LeO.refl _) (LeO.ite (LeO.refl _) (LeO.ite (LeO.none _) (LeO.bind (wire_Sum.mono _ _) (fun _ => LeO.bind (wire_little.mono _ _) (fun _ => LeO.bind (slices_Equal_byte_byte.mono _ _ _) (fun _ => LeO.ite (LeO.ite (ih _ _ _) (LeO.none _)) (LeO.refl _))))))))))
theorem wire_Frames.mono : ∀ a0 k, LeO (wire_Frames.f k a0) (wire_Frames.f (k + 1) a0) := fun a0 k => wire_Frames.mono_l k a0 [] 0
set_option maxRecDepth 100000 in
set_option maxHeartbeats 2000000 in
theorem wire_Frames.calls (k : Nat) (A0 : Option Addr) (c0 : Nat) (l0 : List Int) (r1 : List (List Int)) (r2 : Int) (w : World) (hr0 : Kd.C (Kd.int .u8) w A0 l0.length l0) (hc0 : l0.length ≤ c0) (h : wire_Frames.f k l0 = some (r1, r2)) :
    Calls Try.prog 20 #[.slice A0 l0.length c0] w fun e w' => ∃ v0_ : Value, e = .returned (.tuple #[v0_, .int .i64 r2]) ∧ Kd.S (Kd.slice 5 (Kd.int .u8)) 22 w' w.heap.size (fun _ => True) v0_ r1 ∧ Below w.heap.size w w' := by
  have hm : l0.length ≤ 9223372036854775807 := hr0.2.1
  have HR := Aside0.mk hr0
  have H := Aside0.mk h
  clear hr0 h
  obtain ⟨ii, hii, his⟩ : ∃ ii, Try.prog.info? 5 = some ii ∧ ii.size = 1 := by
    obtain ⟨ii, h1, h2⟩ := Option.map_eq_some_iff.1 info5
    exact ⟨ii, h1, congrArg (fun p => p.2.1) h2⟩
  go_enter Try.func20, Try.ntmps20
  go_wp2
  go_loopg [2, 3] k (fun kq v2 v3 wr => ∃ (l : List (List Int)) (e : Nat), v3 = .int .i64 e ∧ Aside0 (wire_Frames.l0 kq l0 l e = some (r1, r2)) ∧ Aside0 (kq ≤ k) ∧ Aside0 (Kd.S (Kd.slice 5 (Kd.int .u8)) 22 wr w.heap.size (fun _ => True) v2 l) ∧ Aside0 (Below w.heap.size w wr))
  case atStart => exact ⟨[], 0, rfl, H, ⟨Nat.le_refl _⟩, ⟨Kd.S_nil _ _ _ _ _⟩, ⟨Below.refl _ _⟩⟩
  case round =>
    clear H
    obtain ⟨l, e, rfl, HA, HK, HO, HB⟩ := hrel
    cases gk with
    | zero => exact absurd HA.out (by simp [wire_Frames.l0])
    | succ k1 =>
      have H := HA.out
      clear HA
      rw [wire_Frames.l0] at H
      by_cases hlt : l0.length < e
      · rw [if_pos hlt] at H
        cases H
      rw [if_neg hlt] at H
      have he : e ≤ l0.length := by omega
      clear hlt
      obtain ⟨b, hb⟩ : ∃ b, b = l0.drop e := ⟨_, rfl⟩
      rw [← hb] at H
      obtain ⟨A1, c1, hq1, hc1, hC1⟩ := cut_ex_from (P := Try.prog) 22 5 Try.underlying22 hii his A0 c0 l0 (e : Int) (by omega) (by omega) hc0 b (by rw [hb]; rfl)
      have hbl : b.length = l0.length - e := by rw [hb]; simp
      have HC1 := Aside0.mk (hC1 w .u8 HR.out)
      have HBL := Aside0.mk hbl
      clear hC1 hb hbl
      by_cases h8 : b.length < 8
      · rw [if_pos h8] at H
        cases H
        have h8b : decide ((b.length : Int) < 8) = true := decide_eq_true (by omega)
        go_wp2
        go_ret2
        exact ⟨_, rfl, HO.out, HB.out⟩
      · rw [if_neg h8] at H
        have h8' : 8 ≤ b.length := by omega
        clear h8
        have h8b : decide ((b.length : Int) < 8) = false := decide_eq_false (by omega)
        have hbm : b.length ≤ 9223372036854775807 := by have := HBL.out; omega
        obtain ⟨m, hn, H⟩ := Option.bind_eq_some_iff.1 H
        have HN := Aside0.mk hn
        clear hn
        obtain ⟨q, hq⟩ : ∃ q, q = b.take 4 := ⟨_, rfl⟩
        rw [← hq] at H HN
        obtain ⟨hq2, hc2, hC2⟩ := cut_ex_to (P := Try.prog) 22 5 Try.underlying22 hii A1 c1 b 4 (by omega) (by omega) hc1 q hq
        have HC2 := Aside0.mk (hC2 w .u8 HC1.out)
        have HQ := Aside0.mk hq
        have hql : q.length ≤ 4 := by rw [hq]; simp; omega
        clear hC2 hq
        have H' := Aside0.mk H
        clear H
        go_upto_region 5 with (go_at_call 47; (with_reducible refine (wire_number.calls k1 A1 c1 q m _ (Kd.C_below HC2.out HB.out) hc2 HN.out).mono ?_); rintro e1 w1 ⟨rfl, hd1⟩; have HD1 := Aside0.mk hd1.below; clear hd1)
        have HB1 := Aside0.mk (HB.out.trans (HD1.out.mono HB.out.size))
        have HO1 := Aside0.mk (Kd.S_below HO.out HD1.out)
        have H := H'.out
        clear H'
        by_cases h1 : 1048576 < wrap64 m
        · rw [if_pos h1] at H
          cases H
          have h1b : decide (1048576 < wrap64 m) = true := decide_eq_true h1
          clear h1
          go_wp2
          go_ret2
          exact ⟨_, rfl, HO1.out, HB1.out⟩
        rw [if_neg h1] at H
        have h1b : decide (1048576 < wrap64 m) = false := decide_eq_false h1
        by_cases h2 : (b.length : Int) - 8 < wrap64 m
        · rw [if_pos h2] at H
          cases H
          have h2b : decide ((b.length : Int) - 8 < wrap64 m) = true := decide_eq_true h2
          clear h1 h2
          go_wp2
          go_ret2
          exact ⟨_, rfl, HO1.out, HB1.out⟩
        rw [if_neg h2] at H
        by_cases h3 : wrap64 m < 0
        · rw [if_pos h3] at H
          cases H
        rw [if_neg h3] at H
        have h2b : decide ((b.length : Int) - 8 < wrap64 m) = false := decide_eq_false h2
        obtain ⟨n, hn⟩ : ∃ n : Nat, wrap64 m = (n : Int) := Int.eq_ofNat_of_zero_le (by omega)
        rw [hn] at H h1 h2 h3
        have hn1 : n ≤ 1048576 := by omega
        have hn2 : 8 + n ≤ b.length := by omega
        clear h1 h2 h3
        obtain ⟨x, hx⟩ : ∃ x, x = (b.take (8 + (n : Int)).toNat).drop 8 := ⟨_, rfl⟩
        rw [← hx] at H
        obtain ⟨c, hs, H⟩ := Option.bind_eq_some_iff.1 H
        obtain ⟨lc, hlc, H⟩ := Option.bind_eq_some_iff.1 H
        obtain ⟨y, hy⟩ : ∃ y, y = (b.take 8).drop 4 := ⟨_, rfl⟩
        rw [← hy] at H
        obtain ⟨qq, hqq, H⟩ := Option.bind_eq_some_iff.1 H
        have HS := Aside0.mk hs
        have HLC := Aside0.mk hlc
        have HQQ := Aside0.mk hqq
        have H' := Aside0.mk H
        clear H hs hlc hqq
        obtain ⟨A3, c3, hq3, hc3, hC3⟩ := cut_ex (P := Try.prog) 22 5 Try.underlying22 hii his A1 c1 b 8 (8 + (n : Int)) (by omega) (by omega) (by omega) hc1 x hx
        obtain ⟨A4, c4, hq4, hc4, hC4⟩ := cut_ex (P := Try.prog) 22 5 Try.underlying22 hii his A1 c1 b 4 8 (by omega) (by omega) (by omega) hc1 y hy
        have HC3 := Aside0.mk (hC3 w .u8 HC1.out)
        have HC4 := Aside0.mk (hC4 w .u8 HC1.out)
        have hxl : x.length * 1 ≤ 140737488355328 := by rw [hx]; simp; omega
        have HXL := Aside0.mk (show x.length ≤ 1048576 by rw [hx]; simp; omega)
        have HX := Aside0.mk hx
        have HY := Aside0.mk hy
        have HN1 := Aside0.mk hn
        clear hC3 hC4 hx hy
        go_upto_region 8 with (go_at_call 48; (with_reducible refine (slices_Clone_byte_byte.walk A3 x.length c3 x _ rfl (Kd.C_below HC3.out HB1.out) hc3 hxl).mono ?_); rintro e2 w2 ⟨v6, rfl, hR6, hB6⟩; obtain ⟨A6, c6, rfl, hc6, hC6⟩ := Kd.R_reads hR6; have HR6 := Aside0.mk (Kd.R_mono (Kd.R_bound hR6) (fun k hk => hk.2.1)); have HC6 := Aside0.mk hC6; have HB6 := Aside0.mk hB6; clear hR6 hC6 hB6)
        have HL2 := Aside0.mk (C_lit_two (Kd.int .u8) w2 w2.heap.size rfl 5 22 A1 A6 q.length x.length c1 c6 q x rfl rfl (Kd.C_below HC2.out (HB1.out.trans (HB6.out.mono HB1.out.size))) HC6.out hc2 hc6)
        obtain ⟨L, hL⟩ : ∃ L, L = q ++ x := ⟨_, rfl⟩
        rw [show (wire_Sum.f k1 (q ++ x)) = (wire_Sum.f k1 L) by rw [hL]] at HS
        have HFL := Aside0.mk (show ([q, x] : List (List Int)).flatten = L by rw [hL]; simp)
        have hsum : ([q, x] : List (List Int)).flatten.length * 1 ≤ 140737488355328 := by have := HXL.out; simp; omega
        clear hL
        have HB12 := Aside0.mk (HB1.out.trans (HB6.out.mono HB1.out.size))
        have hend : e + 8 + n ≤ 9223372036854775807 := by have := HBL.out; omega
        cases qq
        all_goals go_region_with (first | (go_at_call 44; (with_reducible refine (slices_Concat_byte_byte.walk (some ⟨w2.heap.size, 0, none⟩) 2 2 [q, x] _ rfl (Kd.C_below HL2.out ((Below.refl _ _).drew)) (Nat.le_refl 2) hsum).mono ?_); rintro e3 w3 ⟨v3, rfl, hR3, hB3⟩; rw [HFL.out] at hR3; obtain ⟨A7, c7, rfl, hc7, hC7⟩ := Kd.R_reads hR3; have HC7 := Aside0.mk hC7; have HB7 := Aside0.mk (((Below.refl w2.heap.size w2).alloc (Nat.le_refl _) _).drew.trans (hB3.mono (by simp))); clear hR3 hC7 hB3) | (go_at_call 15; (with_reducible refine (wire_Sum.calls k1 A7 c7 L c _ HC7.out hc7 HS.out).mono ?_); rintro e4 w4 ⟨rfl, hd4⟩; have HB8 := Aside0.mk (HB7.out.trans (hd4.below.mono HB7.out.size)); clear hd4) | (go_at_call 45; (with_reducible refine (wire_little.calls k1 c lc _ HLC.out).mono ?_); rintro e5 w5 ⟨v5, rfl, hR5, hB5⟩; obtain ⟨A9, c9, rfl, hc9, hC9⟩ := Kd.R_reads hR5; have HC9 := Aside0.mk hC9; have HB9 := Aside0.mk (HB8.out.trans (hB5.mono HB8.out.size)); clear hR5 hC9 hB5) | (go_at_call 49; (with_reducible refine (slices_Equal_byte_byte.calls k1 A9 c9 lc A4 c4 y _ _ HC9.out hc9 (Kd.C_below HC4.out (HB12.out.trans (HB9.out.mono HB12.out.size))) hc4 HQQ.out).mono ?_); rintro e6 w6 ⟨rfl, hd6⟩; have HB10 := Aside0.mk (HB9.out.trans (hd6.below.mono HB9.out.size)); clear hd6))
        all_goals have HB26 := Aside0.mk (HB12.out.trans (HB10.out.mono HB12.out.size))
        all_goals have HO6 := Aside0.mk (Kd.S_below HO1.out (HB6.out.trans (HB10.out.mono HB6.out.size)))
        · have H := H'.out
          rw [if_neg (by decide)] at H
          cases H
          go_wp2
          go_ret2
          exact ⟨_, rfl, HO6.out, HB26.out⟩
        · have H := H'.out
          first | rw [if_pos trivial] at H | rw [if_pos rfl] at H
          by_cases hll : (l.length + 1) * 24 ≤ 140737488355328
          · rw [if_pos hll] at H
            have H1 := Aside0.mk H
            have HLL := Aside0.mk hll
            clear hll H H'
            have HM := Aside0.mk (show (Kd.slice 5 (Kd.int .u8)).M w6 w.heap.size (fun k => w1.heap.size ≤ k) x [.slice A6 x.length c6] from ⟨_, rfl, Kd.R_below (Kd.R_lower HR6.out HB1.out.size) HB10.out⟩)
            have HO6s := Aside0.mk (Kd.S_below (Kd.S_mono (ok' := fun k => True ∧ ¬ w1.heap.size ≤ k) (Kd.S_bound HO1.out) (fun k hk => ⟨trivial, by have := hk.2.2.1; omega⟩)) (HB6.out.trans (HB10.out.mono HB6.out.size)))
            have HNE := Aside0.mk (show ∀ k, w1.heap.size ≤ k → True ∧ some k ≠ u2.ownBlock from fun k hk => ⟨trivial, fun he => by have := Kd.S_lt HO1.out _ he.symm; omega⟩)
            go_wp2_with ((with_reducible refine gate_builtin (b := .append) (xs := #[.tmp 48, .tmp 50]) rfl ?_); at_builtin; refine Kd.S_append (Kd.slice 5 (Kd.int .u8)) (w0 := w) w.heap.size rfl (.tmp 48) (.tmp 50) 35 22 (.slice none 0 0) 24 rfl Try.underlying35 info22 rfl (by decide) (by omega) u2 l x [.slice A6 x.length c6] (fun _ => True) (fun k => w1.heap.size ≤ k) rfl rfl HM.out HNE.out (fun _ _ => trivial) HO6s.out HB26.out HB26.out.size HLL.out ?_; intro v7 w7 hR7 hB7 _ _; have HR7 := Aside0.mk hR7; have HB7' := Aside0.mk hB7; clear hR7 hB7)
            go_roundg k1
            case measure => have := HK.out; omega
            case rel => exact ⟨l ++ [x], e + 8 + n, by go_num, ⟨H1.out⟩, ⟨by have := HK.out; omega⟩, HR7, HB7'⟩
          · rw [if_neg hll] at H
            cases H



end Go.Proofs.Ytjkimfjhfncldaa.Q
end

section
-- written by hprint.py (a program of these sessions) out of the translation; Lean checks it
namespace Go.Proofs.Ytjkimfjhfncldaa.Q
open Go.RowKit Go.Proofs.YtjkimfjhfncldaaW.Hb Go.Proofs.YtjkimfjhfncldaaW.PrintWords Go.Proofs.YtjkimfjhfncldaaW.PrintLast Go.Proofs.YtjkimfjhfncldaaW.PrintMore
attribute [local go_sem] max2_int min2_int max_two min_two max_three min_three max_four min_four   -- for this text's walks alone
set_option linter.unusedVariables false
set_option linter.unusedSimpArgs false

/-! ### weighhouselaw01_knows: function 19, by hand -/
def weighhouselaw01_knows.f : Option Bool := some true
def knFr : List Int := [0, 0, 0, 0, 28, 223, 68, 33]
def knIn : List (List Int) := [[]]
theorem knFr_eq : wire_Frame.f 100 [] = some (knFr, 0) := by decide +kernel
theorem knIn_eq : wire_Frames.f 100 knFr = some (knIn, 8) := by decide +kernel
abbrev knS : ByteArray := { data := #[97, 98] }
def knB : List Int := (wtexts (wmore [] (ints8 [1])).1 [knS]).1
theorem knB_len : knB.length ≤ 1048576 := by decide +kernel
theorem kn1 : (wmore [] (ints8 [1])).2 = 0 := by decide +kernel
theorem kn2 : (wtexts (wmore [] (ints8 [1])).1 [knS]).2 = 0 := by decide +kernel
theorem kn3 : (wmore [] (ints8 [1])).1.length ≤ 1048576 := by decide +kernel
theorem kn4 : (textsB [knS]).length * 1 ≤ 140737488355328 := by decide +kernel
theorem kn5 : strOfNums knB = { data := #[0, 0, 0, 0, 0, 0, 0, 1, 0, 2, 97, 98] } := by decide +kernel
theorem knFrame (w : World) : Calls Try.prog 13 #[.slice none 0 0] w fun e w' => ∃ v0_ : Value, e = .returned (.tuple #[v0_, .int .i64 0]) ∧ Kd.R (Kd.int .u8) 5 w' w.heap.size (fun _ => True) v0_ knFr ∧ Below w.heap.size w w' :=
  wire_Frame.calls 100 none 0 [] knFr 0 w (Kd.C_nil _ _) (Nat.le_refl 0) knFr_eq
set_option maxRecDepth 100000 in
set_option maxHeartbeats 2000000 in
theorem weighhouselaw01_knows.calls (r : Bool) (w : World) (h : weighhouselaw01_knows.f = some r) : Calls Try.prog 19 #[] w fun e w' => e = .returned (.bool r) ∧ Below w.heap.size w w' := by
  obtain rfl : true = r := Option.some.inj h
  clear h
  have HI := Aside0.mk knIn_eq
  go_enter Try.func19, Try.ntmps19
  go_upto_region 2 with (go_at_call 22; (with_reducible refine (wire_NewWriter.calls w).mono ?_); rintro e w1 ⟨g, rfl, hW1, hg1, hB1⟩; have HW1 := Aside0.mk hW1; have HB1 := Aside0.mk hB1; clear hW1 hB1)
  have hx1 : (Kd.int .i64).C (w1.alloc (.cells #[.int .i64 1] 3)) (some ⟨w1.heap.size, 0, none⟩) [(1 : Int)].length [1] := C_lit_int w1 w1.heap.size rfl .i64 [1] #[.int .i64 1] rfl 3 (by decide)
  have HI1 := Aside0.mk (wire_Writer_Int.calls (fun k => k = g) g [] (some ⟨w1.heap.size, 0, none⟩) 1 1 [1] (w1.alloc (.cells #[.int .i64 1] 3)) rfl hx1 (Nat.le_refl 1) (by decide) (HW1.out.below ((Below.refl _ _).alloc (Nat.le_refl _) _)) (by decide))
  clear hx1
  go_upto_region 3 with (go_at_call 25; (with_reducible refine HI1.out.mono ?_); rintro e w2 ⟨rfl, hW2, hF2⟩; rw [kn1]; have HW2 := Aside0.mk hW2; have HF2 := Aside0.mk hF2; clear hW2 hF2)
  have HD2 := Aside0.mk (Fr.below (B := w.heap.size) ((Fr.of_below (((Below.refl _ _).alloc (Nat.le_refl _) (.cells #[.int .i64 1] 3)) : Below w1.heap.size w1 _) _).then_ HF2.out (fun _ h => .inl h)) HB1.out.size (fun k hk => by subst hk; exact hg1))
  have HE2 := Aside0.mk (HB1.out.trans HD2.out)
  have hx2 : Kd.string.C (w2.alloc (.cells #[.string knS] 9)) (some ⟨w2.heap.size, 0, none⟩) [knS].length [knS] := C_of_reps (d := Kd.string) (Blk.new w2 _ _) [knS] (Reps_one (c := [.string knS]) rfl rfl) (by decide)
  have HT1 := Aside0.mk (wire_Writer_Text.calls (SS (fun k => k = g) (w1.alloc (.cells #[.int .i64 1] 3)) w2) g (wmore [] (ints8 [1])).1 (some ⟨w2.heap.size, 0, none⟩) 1 1 [knS] (w2.alloc (.cells #[.string knS] 9)) rfl hx2 (Nat.le_refl 1) kn4 (by decide) (HW2.out.below ((Below.refl _ _).alloc (Nat.le_refl _) _)) kn3)
  clear hx2
  go_upto_region 4 with (go_at_call 27; (with_reducible refine HT1.out.mono ?_); rintro e w3 ⟨rfl, hW3, hF3⟩; rw [kn2]; have HW3 := Aside0.mk hW3; have HF3 := Aside0.mk hF3; clear hW3 hF3)
  have HD3 := Aside0.mk (Fr.below (B := w.heap.size) ((Fr.of_below (((Below.refl _ _).alloc (Nat.le_refl _) (.cells #[.string knS] 9)) : Below w2.heap.size w2 _) _).then_ HF3.out (fun _ h => .inl h)) HE2.out.size (fun k hk => by
    rcases hk with hk | hk
    · subst hk; exact hg1
    · have := HB1.out.size
      have := hk.1
      simp at this
      omega))
  have HE3 := Aside0.mk (HE2.out.trans HD3.out)
  have HFR := Aside0.mk (knFrame w3)
  have HK2 := Aside0.mk knIn_eq
  obtain ⟨fl, hfl⟩ : ∃ fl, fl = knFr := ⟨_, rfl⟩
  rw [← hfl] at HFR HK2
  clear hfl
  go_upto_region 5 with (go_at_call 13; (with_reducible refine HFR.out.mono ?_); rintro e w4 ⟨v4, rfl, hR4, hB4⟩; obtain ⟨A4, c4, rfl, hc4, hC4⟩ := Kd.R_reads hR4; have HC4 := Aside0.mk hC4; have HB4 := Aside0.mk hB4; clear hR4 hC4 hB4)
  have HW4 := Aside0.mk (show Wr w4 _ g knB from HW3.out.below HB4.out)
  have HE4 := Aside0.mk (HE3.out.trans (HB4.out.mono HE3.out.size))
  have HFM := Aside0.mk (wire_Frames.calls 100 A4 c4 fl knIn 8 w4 HC4.out hc4 HK2.out)
  go_upto_region 6 with (go_at_call 20; (with_reducible refine HFM.out.mono ?_); rintro e w5 ⟨v5, rfl, hR5, hB5⟩; obtain ⟨A5, c5, hv5, hc5, hC5⟩ := Kd.S_reads hR5; rw [show knIn.length = 1 from rfl] at hv5; subst hv5; have HB5 := Aside0.mk hB5; clear hR5 hB5 hC5 hc5)
  have HWX := Aside0.mk (HW4.out.below HB5.out)
  have HEX := Aside0.mk (HE4.out.trans (HB5.out.mono HE4.out.size))
  go_wp2_with (first | (go_at_call 17; (with_reducible refine (weighhouselaw01_num.calls 0 0 _ rfl).mono ?_); rintro e w6 ⟨rfl, hd⟩; have n0_ := Aside0.mk (HWX.out.below hd.below); have n1_ := Aside0.mk (HEX.out.trans (hd.below.mono HEX.out.size)); clear HWX HEX hd; have HWX := n0_; have HEX := n1_; clear n0_ n1_) | (go_at_call 29; (with_reducible refine (wire_Writer_Bytes.calls _ g knB _ HWX.out knB_len).mono ?_); rintro e w7 ⟨v7, rfl, hR7, hB7⟩; obtain ⟨A7, c7, rfl, hc7, hC7⟩ := Kd.R_reads hR7; have hcv := Kd.C_string (P := Try.prog) (src := 22) (dst := 9) (e := 5) (c := c7) Try.underlying22 Try.underlying5 Try.underlying9 hC7; rw [kn5] at hcv; have HEY := Aside0.mk (HEX.out.trans (hB7.mono HEX.out.size)); clear hR7 hB7 hC7 hc7))
  go_ret
  exact ⟨rfl, HEY.out⟩


end Go.Proofs.Ytjkimfjhfncldaa.Q
end

section
-- written by hprint.py (a program of these sessions) out of the translation; Lean checks it
namespace Go.Proofs.Ytjkimfjhfncldaa.Q
open Go.RowKit Go.Proofs.YtjkimfjhfncldaaW.Hb Go.Proofs.YtjkimfjhfncldaaW.PrintWords Go.Proofs.YtjkimfjhfncldaaW.PrintLast Go.Proofs.YtjkimfjhfncldaaW.PrintMore
attribute [local go_sem] max2_int min2_int max_two min_two max_three min_three max_four min_four   -- for this text's walks alone
set_option linter.unusedVariables false
set_option linter.unusedSimpArgs false

/-! ### weighhouselaw01_WireReads: function 9, by hand -/
/-- Two readers, apart. -/
def Ap (w0 : World) (S S2 : Nat → Prop) (g g2 : Nat) : Prop := (∀ k, S k → ¬ S2 k) ∧ (∀ k, S k → w0.heap.size ≤ k) ∧ (∀ k, S2 k → w0.heap.size ≤ k) ∧ S g ∧ S2 g2
def TwoR (w0 w : World) (S S2 : Nat → Prop) (g g2 : Nat) (B xs : List Int) (e : Int) (ys : List Int) (e2 : Int) : Prop := Ap w0 S S2 g g2 ∧ Rd w S g xs e ∧ (∃ a, Rq w S2 g2 B a e2 ∧ B.drop a = ys) ∧ Below w0.heap.size w0 w
section
variable {w0 w w' : World} {S S2 : Nat → Prop} {g g2 : Nat} {B xs ys : List Int} {e e2 : Int}
theorem TwoR.bel (h : TwoR w0 w S S2 g g2 B xs e ys e2) : Below w0.heap.size w0 w := h.2.2.2
theorem TwoR.below (h : TwoR w0 w S S2 g g2 B xs e ys e2) (hb : Below w.heap.size w w') : TwoR w0 w' S S2 g g2 B xs e ys e2 := by
  obtain ⟨h1, h2, ⟨a, h3, h4⟩, h5⟩ := h
  exact ⟨h1, h2.below hb, ⟨a, h3.below hb, h4⟩, h5.trans (hb.mono h5.size)⟩
theorem TwoR.cell2 (h : TwoR w0 w S S2 g g2 B xs e ys e2) : w.cell? ⟨g2, 2, none⟩ = some (.int .i64 e2) := by
  obtain ⟨h1, h2, ⟨a, ⟨A, c, hb, _⟩, h4⟩, h5⟩ := h
  exact hb.cell 2
theorem TwoR.kept {S3 : Nat → Prop} (h : TwoR w0 w S S2 g g2 B xs e ys e2) (hk : Kept w w' S3) (hd : ∀ k, S k → ¬ S3 k) (hd2 : ∀ k, S2 k → ¬ S3 k) (hb : Below w0.heap.size w0 w') : TwoR w0 w' S S2 g g2 B xs e ys e2 := by
  obtain ⟨h1, h2, ⟨a, h3, h4⟩, h5⟩ := h
  exact ⟨h1, h2.kept hk hd, ⟨a, h3.kept hk hd2, h4⟩, hb⟩
theorem TwoR.first {xs' : List Int} {e' : Int} (h : TwoR w0 w S S2 g g2 B xs e ys e2) (hr : Rd w' S g xs' e') (hf : Fr w w' (fun k => k = g)) : TwoR w0 w' S S2 g g2 B xs' e' ys e2 := by
  obtain ⟨⟨a1, a2, a3, a4, a5⟩, h2, ⟨a, h3, h4⟩, h5⟩ := h
  exact ⟨⟨a1, a2, a3, a4, a5⟩, hr, ⟨a, h3.kept hf.2 (fun k hk he => by subst he; exact a1 _ a4 hk), h4⟩, h5.trans (hf.below h5.size (fun k hk => by subst hk; exact a2 _ a4))⟩
theorem TwoR.second {ys' : List Int} {e' : Int} (h : TwoR w0 w S S2 g g2 B xs e ys e2) (hr : ∃ a, Rq w' S2 g2 B a e' ∧ B.drop a = ys') (hf : Fr w w' (fun k => k = g2)) : TwoR w0 w' S S2 g g2 B xs e ys' e' := by
  obtain ⟨⟨a1, a2, a3, a4, a5⟩, h2, _, h5⟩ := h
  exact ⟨⟨a1, a2, a3, a4, a5⟩, h2.kept hf.2 (fun k hk he => by subst he; exact a1 _ hk a5), hr, h5.trans (hf.below h5.size (fun k hk => by subst hk; exact a3 _ a5))⟩
theorem byteA (h : TwoR w0 w S S2 g g2 B xs e ys e2) : Calls Try.prog 34 #[.pointer (some ⟨g, 0, none⟩)] w fun en w' => en = .returned (.int .i64 (rByte xs e).1) ∧ TwoR w0 w' S S2 g g2 B (rByte xs e).2.1 (rByte xs e).2.2 ys e2 :=
  (wire_Reader_Byte.calls S g xs e w h.2.1).mono fun en w' ⟨he, hr, hf⟩ => ⟨he, h.first hr hf⟩
theorem intA (h : TwoR w0 w S S2 g g2 B xs e ys e2) : Calls Try.prog 36 #[.pointer (some ⟨g, 0, none⟩)] w fun en w' => en = .returned (.int .i64 (rInt xs e).1) ∧ TwoR w0 w' S S2 g g2 B (rInt xs e).2.1 (rInt xs e).2.2 ys e2 :=
  (wire_Reader_Int.calls S g xs e w h.2.1).mono fun en w' ⟨he, hr, hf⟩ => ⟨he, h.first hr hf⟩
theorem textA (h : TwoR w0 w S S2 g g2 B xs e ys e2) : Calls Try.prog 31 #[.pointer (some ⟨g, 0, none⟩)] w fun en w' => en = .returned (.string (rText xs e).1) ∧ TwoR w0 w' S S2 g g2 B (rText xs e).2.1 (rText xs e).2.2 ys e2 :=
  (wire_Reader_Text.calls S g xs e w h.2.1).mono fun en w' ⟨he, hr, hf⟩ => ⟨he, h.first hr hf⟩
theorem byteB (h : TwoR w0 w S S2 g g2 B xs e ys e2) : Calls Try.prog 35 #[.pointer (some ⟨g2, 0, none⟩)] w fun en w' => en = .returned (.int .i64 (rByte ys e2).1) ∧ TwoR w0 w' S S2 g g2 B xs e (rByte ys e2).2.1 (rByte ys e2).2.2 := by
  obtain ⟨a, hq, rfl⟩ := h.2.2.1
  exact (weighhouseref01_Reader_Byte.calls S2 g2 B a e2 w hq).mono fun en w' ⟨he, hr, hf⟩ => ⟨he, h.second hr hf⟩
theorem intB (h : TwoR w0 w S S2 g g2 B xs e ys e2) : Calls Try.prog 37 #[.pointer (some ⟨g2, 0, none⟩)] w fun en w' => en = .returned (.int .i64 (rInt ys e2).1) ∧ TwoR w0 w' S S2 g g2 B xs e (rInt ys e2).2.1 (rInt ys e2).2.2 := by
  obtain ⟨a, hq, rfl⟩ := h.2.2.1
  exact (weighhouseref01_Reader_Int.calls S2 g2 B a e2 w hq).mono fun en w' ⟨he, hr, hf⟩ => ⟨he, h.second hr hf⟩
theorem textB_ (h : TwoR w0 w S S2 g g2 B xs e ys e2) : Calls Try.prog 38 #[.pointer (some ⟨g2, 0, none⟩)] w fun en w' => en = .returned (.string (rText ys e2).1) ∧ TwoR w0 w' S S2 g g2 B xs e (rText ys e2).2.1 (rText ys e2).2.2 := by
  obtain ⟨a, hq, rfl⟩ := h.2.2.1
  exact (weighhouseref01_Reader_Text.calls S2 g2 B a e2 w hq).mono fun en w' ⟨he, hr, hf⟩ => ⟨he, h.second hr hf⟩
theorem leftB (h : TwoR w0 w S S2 g g2 B xs e ys e2) : Calls Try.prog 40 #[.pointer (some ⟨g2, 0, none⟩)] w fun en w' => en = .returned (.int .i64 (ys.length : Int)) ∧ TwoR w0 w' S S2 g g2 B xs e ys e2 := by
  obtain ⟨a, hq, rfl⟩ := h.2.2.1
  exact (weighhouseref01_Reader_Left.calls S2 g2 B a e2 w hq).mono fun en w' ⟨he, hb⟩ => ⟨he, h.below hb⟩
theorem doneB (h : TwoR w0 w S S2 g g2 B xs e ys e2) : Calls Try.prog 42 #[.pointer (some ⟨g2, 0, none⟩)] w fun en w' => en = .returned (.int .i64 (rDone ys e2)) ∧ TwoR w0 w' S S2 g g2 B xs e ys e2 := by
  obtain ⟨a, hq, rfl⟩ := h.2.2.1
  exact (weighhouseref01_Reader_Done.calls S2 g2 B a e2 w hq).mono fun en w' ⟨he, hb⟩ => ⟨he, h.below hb⟩
theorem leftA (h : TwoR w0 w S S2 g g2 B xs e ys e2) : Calls Try.prog 39 #[.pointer (some ⟨g, 0, none⟩)] w fun en w' => en = .returned (.int .i64 (xs.length : Int)) ∧ TwoR w0 w' S S2 g g2 B xs e ys e2 :=
  (wire_Reader_Left.calls S g xs e w h.2.1).mono fun en w' ⟨he, hb⟩ => ⟨he, hb ▸ h⟩
theorem errA (h : TwoR w0 w S S2 g g2 B xs e ys e2) : Calls Try.prog 41 #[.pointer (some ⟨g, 0, none⟩)] w fun en w' => en = .returned (.int .i64 e) ∧ TwoR w0 w' S S2 g g2 B xs e ys e2 :=
  (wire_Reader_Err.calls S g xs e w h.2.1).mono fun en w' ⟨he, hb⟩ => ⟨he, hb ▸ h⟩
theorem doneA (h : TwoR w0 w S S2 g g2 B xs e ys e2) : Calls Try.prog 32 #[.pointer (some ⟨g, 0, none⟩)] w fun en w' => en = .returned (.int .i64 (rDone xs e)) ∧ TwoR w0 w' S S2 g g2 B xs e ys e2 :=
  (wire_Reader_Done.calls S g xs e w h.2.1).mono fun en w' ⟨he, hb⟩ => ⟨he, hb ▸ h⟩
end
def isBb (x : Int) : Bool := decide (0 ≤ x) && decide (x ≤ 255)
theorem isBb_all {l : List Int} (h : l.all isBb = true) : ∀ x ∈ l, 0 ≤ x ∧ x ≤ 255 := fun x hx => by
  have := List.all_eq_true.1 h x hx
  simpa [isBb] using this
theorem lent_is (l : List Int) (h : l.length ≤ 140737488351232) : weighhouselaw01_Lent.f l = some l := by
  unfold weighhouselaw01_Lent.f
  rw [Option.bind_some, if_pos (by simp; omega), Option.bind_some, Option.bind_some, if_pos (by simp; omega), Option.bind_some, if_pos (by omega), if_pos (by simp; omega)]
  simp
def weighhouselaw01_WireReads.f (l0 l1 : List Int) : Option Bool := if (l0.all isBb && decide (l0.length ≤ 140737488351232)) = true then some true else none
set_option maxRecDepth 100000 in
set_option maxHeartbeats 4000000 in
theorem weighhouselaw01_WireReads.calls (A0 : Option Addr) (c0 : Nat) (l0 : List Int) (A1 : Option Addr) (c1 : Nat) (l1 : List Int) (r : Bool) (w : World) (hr0 : Kd.C (Kd.int .u8) w A0 l0.length l0) (hc0 : l0.length ≤ c0) (hr1 : Kd.C (Kd.int .i64) w A1 l1.length l1) (hc1 : l1.length ≤ c1) (h : weighhouselaw01_WireReads.f l0 l1 = some r) :
    Calls Try.prog 9 #[.slice A0 l0.length c0, .slice A1 l1.length c1] w fun e w' => e = .returned (.bool r) ∧ Below w.heap.size w w' := by
  unfold weighhouselaw01_WireReads.f at h
  split at h
  rotate_left
  · cases h
  rename_i hall
  obtain rfl := Option.some.inj h
  simp only [Bool.and_eq_true, decide_eq_true_eq] at hall
  obtain ⟨hall, hlen⟩ := hall
  have HX := Aside0.mk (isBb_all hall)
  have HLN := Aside0.mk (lent_is l0 hlen)
  have HR := Aside0.mk hr0
  have HR1 := Aside0.mk hr1
  have hm1 : l1.length ≤ 9223372036854775807 := hr1.2.1
  clear hall h hr0 hr1
  go_enter Try.func9, Try.ntmps9
  go_upto_region 2 with (go_at_call 12; (with_reducible refine (weighhouselaw01_Lent.calls A0 c0 l0 l0 _ HR.out hc0 HLN.out).mono ?_); rintro e w1 ⟨v5, rfl, hR5, hB1⟩; obtain ⟨A5, c5, rfl, hc5, hC5⟩ := Kd.R_reads hR5; have HR5 := Aside0.mk (Kd.R_bound hR5); have HC5 := Aside0.mk hC5; have HB1 := Aside0.mk hB1; clear hR5 hC5 hB1)
  go_upto_region 3 with (go_at_call 30; (with_reducible refine (wire_NewReader.calls A5 c5 l0 _ HC5.out hc5 (by omega) HX.out).mono ?_); rintro e w2 ⟨g, rfl, hd2, hg2, hB2⟩; have HD2 := Aside0.mk hd2; have HG2 := Aside0.mk hg2; have HB2 := Aside0.mk hB2; clear hd2 hg2 hB2)
  go_upto_region 4 with (go_at_call 33; (with_reducible refine (weighhouseref01_NewReader.calls A0 c0 l0 _ (Kd.C_below HR.out (HB1.out.trans (HB2.out.mono HB1.out.size))) hc0 (by omega) HX.out).mono ?_); rintro e w3 ⟨g2, rfl, hd3, hg3, hB3⟩; have HD3 := Aside0.mk hd3; have HG3 := Aside0.mk hg3; have HB3 := Aside0.mk hB3; clear hd3 hg3 hB3)
  obtain ⟨S, hSd⟩ : ∃ S, S = (fun k => w1.heap.size ≤ k ∧ k < w2.heap.size) := ⟨_, rfl⟩
  obtain ⟨S2, hS2d⟩ : ∃ S2, S2 = (fun k => w2.heap.size ≤ k ∧ k < w3.heap.size) := ⟨_, rfl⟩
  have HS1 := Aside0.mk (show (∀ k, S k → w1.heap.size ≤ k) ∧ (∀ k, S2 k → w1.heap.size ≤ k) from ⟨fun k hk => by rw [hSd] at hk; exact hk.1, fun k hk => by rw [hS2d] at hk; exact Nat.le_trans HB2.out.size hk.1⟩)
  have HT3 : TwoR w w3 S S2 g g2 l0 l0 0 l0 0 := by
    have s1 := HB1.out.size
    have s2 := HB2.out.size
    have hD2 := HD2.out
    have hD3 := HD3.out
    rw [← hSd] at hD2
    rw [← hS2d] at hD3
    have hsg : S g := by
      obtain ⟨_, _, _, _, h, _⟩ := hD2
      exact h
    have hsg2 : S2 g2 := by
      obtain ⟨_, _, _, _, h, _⟩ := hD3
      exact h
    refine ⟨⟨fun k hk hk2 => ?_, fun k hk => ?_, fun k hk => ?_, hsg, hsg2⟩, hD2.below HB3.out, ⟨0, hD3, rfl⟩, (HB1.out.trans (HB2.out.mono s1)).trans (HB3.out.mono (Nat.le_trans s1 s2))⟩
    · rw [hSd] at hk
      rw [hS2d] at hk2
      omega
    · rw [hSd] at hk
      omega
    · rw [hS2d] at hk
      omega
  have HT3 := Aside0.mk HT3
  have HR53 := Aside0.mk (Kd.R_mono (ok' := fun k => w.heap.size ≤ k ∧ k < w1.heap.size) (Kd.R_below (Kd.R_below HR5.out HB2.out) HB3.out) (fun k hk => ⟨hk.2.1, hk.2.2.1⟩))
  clear hSd hS2d HD2 HD3 HG2 HG3 HC5 HR5
  go_wp2_with (go_at_call 19; (with_reducible refine (weighhouselaw01_knows.calls true _ rfl).mono ?_); rintro e w4 ⟨rfl, hB4⟩; have HT4 := Aside0.mk (HT3.out.below hB4); have HR54 := Aside0.mk (Kd.R_below HR53.out hB4); clear hB4)
  clear HT3 HR53
  go_loopw [8] (fun q wq => ∃ (m : Nat) (y : List Int), m ≤ l0.length ∧ q = .int .i64 m ∧ Aside0 (y.length = l0.length) ∧ Aside0 ((Kd.int .u8).R 5 wq w.heap.size (fun k => w.heap.size ≤ k ∧ k < w1.heap.size) (.slice A5 l0.length c5) y) ∧ Aside0 (TwoR w wq S S2 g g2 l0 l0 0 l0 0)) (fun q _ => l0.length - (intOf q).toNat)
  case atStart => exact ⟨0, l0, Nat.zero_le _, rfl, ⟨rfl⟩, HR54, HT4⟩
  case round =>
    clear HT4 HR54
    obtain ⟨m, y, hm2, rfl, HY, HRq, HTq⟩ := hrel
    by_cases hlt1 : m < l0.length
    · obtain ⟨inner, hin⟩ := Kd.R_own HRq.out
      obtain ⟨gb, cb, hgb, hgb1, _⟩ := hin.form (by have := HY.out; omega)
      injection hgb with e1 e2 e3
      subst e1
      subst e3
      have HOK := Aside0.mk (HRq.out.1 gb rfl)
      clear hin e2
      have hcel := Kd.R_celln (0 : Int) HRq.out m (by omega) (by omega)
      rw [Int.toNat_natCast] at hcel
      obtain ⟨hce1, hce2⟩ := hcel
      obtain ⟨z, hz⟩ : ∃ z, rdOf (0 : Int) y (m : Int) = z := ⟨_, rfl⟩
      rw [hz] at hce1
      clear hz
      go_wp2
      go_roundw
      case rel => exact ⟨m + 1, _, by omega, by go_num, ⟨by rw [List.length_set]; exact HY.out⟩, ⟨Kd.R_putn HRq.out (m : Int) _⟩, ⟨HTq.out.kept (Kept.setCell (S := fun k => k = gb) (Kept.refl _ _) (.inl rfl) _) (fun k hk he => by
        have := HS1.out.1 k hk
        have := HOK.out.2
        omega) (fun k hk he => by
        have := HS1.out.2 k hk
        have := HOK.out.2
        omega) (HTq.out.bel.setCell HOK.out.1 _)⟩⟩
      case measure => simp [intOf]; omega
    · go_wp2
      go_loopw [9] (fun q wq => ∃ (j : Nat) (xs : List Int) (ev : Int), j ≤ l1.length ∧ q = .int .i64 j ∧ Aside0 (TwoR w wq S S2 g g2 l0 xs ev xs ev)) (fun q _ => l1.length - (intOf q).toNat)
      case atStart => exact ⟨0, l0, 0, Nat.zero_le _, rfl, HTq⟩
      case round =>
        clear HTq HRq HY
        obtain ⟨j, xs, ev, hj, rfl, HT⟩ := hrel
        by_cases hlt : j < l1.length
        · obtain ⟨ad, e, hcell⟩ := at_intN HR1.out j hlt
          cases e
          replace hcell := (HT.out.bel.cell (World.block_lt_of_cell? w _ hcell)).trans hcell
          obtain ⟨x, hx⟩ : ∃ x, x = l1[j] := ⟨_, rfl⟩
          rw [← hx] at hcell
          clear hx
          by_cases h0 : x = 0
          · have d1 : (x == 0) = true := by simp [h0]
            clear h0
            go_upto_region 20 with (first | (go_at_call 34; (with_reducible refine (byteA HT.out).mono ?_); rintro e w5 ⟨rfl, hT5⟩; have HT5 := Aside0.mk hT5; clear hT5) | (go_at_call 35; (with_reducible refine (byteB HT5.out).mono ?_); rintro e w6 ⟨rfl, hT6⟩; have HT6 := Aside0.mk hT6; clear hT6))
            obtain ⟨xs', hxs'⟩ : ∃ xs', (rByte xs ev).2.1 = xs' := ⟨_, rfl⟩
            obtain ⟨ev', hev'⟩ : ∃ ev', (rByte xs ev).2.2 = ev' := ⟨_, rfl⟩
            rw [hxs', hev'] at HT6
            have HTd := Aside0.mk (HT6.out.below ((Below.refl _ _).drew))
            have k2 := HTd.out.cell2
            clear hxs' hev' HT5 HT6
            refine start_ (n := 27) (S := fun w' => w'.cell? ⟨g2, 2, none⟩ = some (.int .i64 ev')) (ds := []) #[false, false, false, false, false, false, false, false, false, false, false, false, false, false, false, false, false, false, false, false, false, false, false, false, false, false, false] (by kernel_rfl) rfl rfl (k2) (fun hHeld => ?_)
            generalize w6.drew = wd at HTd k2 hHeld ⊢
            refine pure_ (i := 0) (N := some 66) (v := ?_) (a' := ?_) #[true, false, false, false, false, false, false, false, false, false, false, false, false, false, false, false, false, false, false, false, false, false, false, false, false, false, false] rfl rfl (by kernel_rfl) (fun _ _ _ h => h) (Or.inl ⟨by rfl, ?_⟩) ?_ ?_
            rotate_left
            · intro w'
              go_simp
              with_reducible rfl
            rotate_left
            · simp only [Act.put, List.setIfInBounds_toArray, List.set_cons_zero, List.set_cons_succ, i64_w, i32_w]
              rfl
            refine pure_ (i := 1) (N := some 67) (v := ?_) (a' := ?_) #[true, true, false, false, false, false, false, false, false, false, false, false, false, false, false, false, false, false, false, false, false, false, false, false, false, false, false] rfl rfl (by kernel_rfl) (fun _ _ _ h => h) (Or.inl ⟨by rfl, ?_⟩) ?_ ?_
            rotate_left
            · intro w'
              go_simp
              with_reducible rfl
            rotate_left
            · simp only [Act.put, List.setIfInBounds_toArray, List.set_cons_zero, List.set_cons_succ, i64_w, i32_w]
              rfl
            refine pure_ (i := 2) (N := some 68) (v := ?_) (a' := ?_) #[true, true, true, false, false, false, false, false, false, false, false, false, false, false, false, false, false, false, false, false, false, false, false, false, false, false, false] rfl rfl (by kernel_rfl) (fun _ _ _ h => h) (Or.inl ⟨by rfl, ?_⟩) ?_ ?_
            rotate_left
            · intro w'
              go_simp
              with_reducible rfl
            rotate_left
            · simp only [Act.put, List.setIfInBounds_toArray, List.set_cons_zero, List.set_cons_succ, i64_w, i32_w]
              rfl
            refine pure_ (i := 3) (N := some 69) (v := ?_) (a' := ?_) #[true, true, true, true, false, false, false, false, false, false, false, false, false, false, false, false, false, false, false, false, false, false, false, false, false, false, false] rfl rfl (by kernel_rfl) (fun _ _ _ h => h) (Or.inl ⟨by rfl, ?_⟩) ?_ ?_
            rotate_left
            · intro w'
              go_simp
              with_reducible rfl
            rotate_left
            · simp only [Act.put, List.setIfInBounds_toArray, List.set_cons_zero, List.set_cons_succ, i64_w, i32_w]
              rfl
            refine pure_ (i := 5) (N := some 71) (v := ?_) (a' := ?_) #[true, true, true, true, false, true, false, false, false, false, false, false, false, false, false, false, false, false, false, false, false, false, false, false, false, false, false] rfl rfl (by kernel_rfl) (fun _ _ _ h => h) (Or.inl ⟨by rfl, ?_⟩) ?_ ?_
            rotate_left
            · intro w'
              go_simp
              with_reducible rfl
            rotate_left
            · simp only [Act.put, List.setIfInBounds_toArray, List.set_cons_zero, List.set_cons_succ, i64_w, i32_w]
              rfl
            refine one_ (i := 4) (N := some 70) #[true, true, true, true, true, true, false, false, false, false, false, false, false, false, false, false, false, false, false, false, false, false, false, false, false, false, false] rfl rfl (by kernel_rfl) (by decide) (fun K hK => ?_)
            refine goes_ Try.func39 (by kernel_rfl) rfl #[.pointer (some ⟨g, 0, none⟩)] (by rfl) rfl rfl (by simp only [List.map_toArray, List.map_cons, List.map_nil]; rfl) ?_
            with_reducible refine (leftA HTd.out).mono ?_
            rintro e q1 ⟨rfl, hq⟩
            refine ⟨_, rfl, ?_⟩
            have HQ1 := Aside0.mk hq
            clear hq
            refine hK.out _ _ (HQ1.out.cell2) (fun hHeld => ?_)
            clear hK K
            refine norm_ (a' := ?_) ?_ ?_
            rotate_left
            · show Act.put _ (some 70) _ = _
              simp only [Act.put, List.setIfInBounds_toArray, List.set_cons_zero, List.set_cons_succ, i64_w, i32_w]
              rfl
            refine one_ (i := 6) (N := some 72) #[true, true, true, true, true, true, true, false, false, false, false, false, false, false, false, false, false, false, false, false, false, false, false, false, false, false, false] rfl rfl (by kernel_rfl) (by decide) (fun K hK => ?_)
            refine goes_ Try.func40 (by kernel_rfl) rfl #[.pointer (some ⟨g2, 0, none⟩)] (by rfl) rfl rfl (by simp only [List.map_toArray, List.map_cons, List.map_nil]; rfl) ?_
            with_reducible refine (leftB HQ1.out).mono ?_
            rintro e q2 ⟨rfl, hq⟩
            refine ⟨_, rfl, ?_⟩
            have HQ2 := Aside0.mk hq
            clear hq
            refine hK.out _ _ (HQ2.out.cell2) (fun hHeld => ?_)
            clear hK K
            refine norm_ (a' := ?_) ?_ ?_
            rotate_left
            · show Act.put _ (some 72) _ = _
              simp only [Act.put, List.setIfInBounds_toArray, List.set_cons_zero, List.set_cons_succ, i64_w, i32_w]
              rfl
            refine pure_ (i := 7) (N := some 73) (v := ?_) (a' := ?_) #[true, true, true, true, true, true, true, true, false, false, false, false, false, false, false, false, false, false, false, false, false, false, false, false, false, false, false] rfl rfl (by kernel_rfl) (fun _ _ _ h => h) (Or.inl ⟨by rfl, ?_⟩) ?_ ?_
            rotate_left
            · intro w'
              go_simp
              with_reducible rfl
            rotate_left
            · simp only [Act.put, List.setIfInBounds_toArray, List.set_cons_zero, List.set_cons_succ, i64_w, i32_w]
              rfl
            refine pure_ (i := 8) (N := some 74) (v := ?_) (a' := ?_) #[true, true, true, true, true, true, true, true, true, false, false, false, false, false, false, false, false, false, false, false, false, false, false, false, false, false, false] rfl rfl (by kernel_rfl) (fun _ _ _ h => h) (Or.inl ⟨by rfl, ?_⟩) ?_ ?_
            rotate_left
            · intro w'
              go_simp
              with_reducible rfl
            rotate_left
            · simp only [Act.put, List.setIfInBounds_toArray, List.set_cons_zero, List.set_cons_succ, i64_w, i32_w]
              rfl
            refine pure_ (i := 9) (N := some 75) (v := ?_) (a' := ?_) #[true, true, true, true, true, true, true, true, true, true, false, false, false, false, false, false, false, false, false, false, false, false, false, false, false, false, false] rfl rfl (by kernel_rfl) (fun _ _ _ h => h) (Or.inl ⟨by rfl, ?_⟩) ?_ ?_
            rotate_left
            · intro w'
              go_simp
              with_reducible rfl
            rotate_left
            · simp only [Act.put, List.setIfInBounds_toArray, List.set_cons_zero, List.set_cons_succ, i64_w, i32_w]
              rfl
            refine pure_ (i := 10) (N := some 76) (v := ?_) (a' := ?_) #[true, true, true, true, true, true, true, true, true, true, true, false, false, false, false, false, false, false, false, false, false, false, false, false, false, false, false] rfl rfl (by kernel_rfl) (fun _ _ _ h => h) (Or.inl ⟨by rfl, ?_⟩) ?_ ?_
            rotate_left
            · intro w'
              go_simp
              with_reducible rfl
            rotate_left
            · simp only [Act.put, List.setIfInBounds_toArray, List.set_cons_zero, List.set_cons_succ, i64_w, i32_w]
              rfl
            refine pure_ (i := 13) (N := some 79) (v := ?_) (a' := ?_) #[true, true, true, true, true, true, true, true, true, true, true, false, false, true, false, false, false, false, false, false, false, false, false, false, false, false, false] rfl rfl (by kernel_rfl) (fun _ _ _ h => h) (Or.inl ⟨by rfl, ?_⟩) ?_ ?_
            rotate_left
            · intro w'
              go_simp
              with_reducible rfl
            rotate_left
            · simp only [Act.put, List.setIfInBounds_toArray, List.set_cons_zero, List.set_cons_succ, i64_w, i32_w]
              rfl
            refine pure_ (i := 14) (N := some 80) (v := ?_) (a' := ?_) #[true, true, true, true, true, true, true, true, true, true, true, false, false, true, true, false, false, false, false, false, false, false, false, false, false, false, false] rfl rfl (by kernel_rfl) (fun _ _ _ h => h) (Or.inl ⟨by rfl, ?_⟩) ?_ ?_
            rotate_left
            · intro w'
              go_simp
              with_reducible rfl
            rotate_left
            · simp only [Act.put, List.setIfInBounds_toArray, List.set_cons_zero, List.set_cons_succ, i64_w, i32_w]
              rfl
            refine pure_ (i := 15) (N := some 81) (v := ?_) (a' := ?_) #[true, true, true, true, true, true, true, true, true, true, true, false, false, true, true, true, false, false, false, false, false, false, false, false, false, false, false] rfl rfl (by kernel_rfl) (fun _ _ _ h => h) (Or.inl ⟨by rfl, ?_⟩) ?_ ?_
            rotate_left
            · intro w'
              go_simp
              with_reducible rfl
            rotate_left
            · simp only [Act.put, List.setIfInBounds_toArray, List.set_cons_zero, List.set_cons_succ, i64_w, i32_w]
              rfl
            refine take_ (i := 16) (N := some 82) (v := ?_) (a' := ?_) #[true, true, true, true, true, true, true, true, true, true, true, false, false, true, true, true, true, false, false, false, false, false, false, false, false, false, false] rfl rfl (by kernel_rfl) (fun _ _ _ h => h) (Or.inl ⟨by rfl, ?_⟩) hHeld ?_ ?_
            rotate_left
            · intro w' s0
              go_simp
              with_reducible rfl
            rotate_left
            · simp only [Act.put, List.setIfInBounds_toArray, List.set_cons_zero, List.set_cons_succ, i64_w, i32_w]
              rfl
            refine one_ (i := 11) (N := some 77) #[true, true, true, true, true, true, true, true, true, true, true, true, false, true, true, true, true, false, false, false, false, false, false, false, false, false, false] rfl rfl (by kernel_rfl) (by decide) (fun K hK => ?_)
            refine goes_ Try.func41 (by kernel_rfl) rfl #[.pointer (some ⟨g, 0, none⟩)] (by rfl) rfl rfl (by simp only [List.map_toArray, List.map_cons, List.map_nil]; rfl) ?_
            with_reducible refine (errA HQ2.out).mono ?_
            rintro e q3 ⟨rfl, hq⟩
            refine ⟨_, rfl, ?_⟩
            have HQ3 := Aside0.mk hq
            clear hq
            refine hK.out _ _ (HQ3.out.cell2) (fun hHeld => ?_)
            clear hK K
            refine norm_ (a' := ?_) ?_ ?_
            rotate_left
            · show Act.put _ (some 77) _ = _
              simp only [Act.put, List.setIfInBounds_toArray, List.set_cons_zero, List.set_cons_succ, i64_w, i32_w]
              rfl
            refine one_ (i := 12) (N := some 78) #[true, true, true, true, true, true, true, true, true, true, true, true, true, true, true, true, true, false, false, false, false, false, false, false, false, false, false] rfl rfl (by kernel_rfl) (by decide) (fun K hK => ?_)
            refine goes_ Try.func17 (by kernel_rfl) rfl #[.int .i64 ev'] (by rfl) rfl rfl (by simp only [List.map_toArray, List.map_cons, List.map_nil]; rfl) ?_
            with_reducible refine (weighhouselaw01_num.calls ev' ev' _ rfl).mono ?_
            rintro e q4 ⟨rfl, hq⟩
            refine ⟨_, rfl, ?_⟩
            have HQ4 := Aside0.mk (HQ3.out.below hq.below)
            clear hq
            refine hK.out _ _ (HQ4.out.cell2) (fun hHeld => ?_)
            clear hK K
            refine norm_ (a' := ?_) ?_ ?_
            rotate_left
            · show Act.put _ (some 78) _ = _
              simp only [Act.put, List.setIfInBounds_toArray, List.set_cons_zero, List.set_cons_succ, i64_w, i32_w]
              rfl
            refine pure_ (i := 17) (N := some 83) (v := ?_) (a' := ?_) #[true, true, true, true, true, true, true, true, true, true, true, true, true, true, true, true, true, true, false, false, false, false, false, false, false, false, false] rfl rfl (by kernel_rfl) (fun _ _ _ h => h) (Or.inl ⟨by rfl, ?_⟩) ?_ ?_
            rotate_left
            · intro w'
              go_simp
              with_reducible rfl
            rotate_left
            · simp only [Act.put, List.setIfInBounds_toArray, List.set_cons_zero, List.set_cons_succ, i64_w, i32_w]
              rfl
            refine pure_ (i := 18) (N := some 84) (v := ?_) (a' := ?_) #[true, true, true, true, true, true, true, true, true, true, true, true, true, true, true, true, true, true, true, false, false, false, false, false, false, false, false] rfl rfl (by kernel_rfl) (fun _ _ _ h => h) (Or.inl ⟨by rfl, ?_⟩) ?_ ?_
            rotate_left
            · intro w'
              go_simp
              with_reducible rfl
            rotate_left
            · simp only [Act.put, List.setIfInBounds_toArray, List.set_cons_zero, List.set_cons_succ, i64_w, i32_w]
              rfl
            refine pure_ (i := 19) (N := some 85) (v := ?_) (a' := ?_) #[true, true, true, true, true, true, true, true, true, true, true, true, true, true, true, true, true, true, true, true, false, false, false, false, false, false, false] rfl rfl (by kernel_rfl) (fun _ _ _ h => h) (Or.inl ⟨by rfl, ?_⟩) ?_ ?_
            rotate_left
            · intro w'
              go_simp
              with_reducible rfl
            rotate_left
            · simp only [Act.put, List.setIfInBounds_toArray, List.set_cons_zero, List.set_cons_succ, i64_w, i32_w]
              rfl
            refine pure_ (i := 20) (N := some 86) (v := ?_) (a' := ?_) #[true, true, true, true, true, true, true, true, true, true, true, true, true, true, true, true, true, true, true, true, true, false, false, false, false, false, false] rfl rfl (by kernel_rfl) (fun _ _ _ h => h) (Or.inl ⟨by rfl, ?_⟩) ?_ ?_
            rotate_left
            · intro w'
              go_simp
              with_reducible rfl
            rotate_left
            · simp only [Act.put, List.setIfInBounds_toArray, List.set_cons_zero, List.set_cons_succ, i64_w, i32_w]
              rfl
            refine pure_ (i := 23) (N := some 89) (v := ?_) (a' := ?_) #[true, true, true, true, true, true, true, true, true, true, true, true, true, true, true, true, true, true, true, true, true, false, false, true, false, false, false] rfl rfl (by kernel_rfl) (fun _ _ _ h => h) (Or.inl ⟨by rfl, ?_⟩) ?_ ?_
            rotate_left
            · intro w'
              go_simp
              with_reducible rfl
            rotate_left
            · simp only [Act.put, List.setIfInBounds_toArray, List.set_cons_zero, List.set_cons_succ, i64_w, i32_w]
              rfl
            refine one_ (i := 21) (N := some 87) #[true, true, true, true, true, true, true, true, true, true, true, true, true, true, true, true, true, true, true, true, true, true, false, true, false, false, false] rfl rfl (by kernel_rfl) (by decide) (fun K hK => ?_)
            refine goes_ Try.func32 (by kernel_rfl) rfl #[.pointer (some ⟨g, 0, none⟩)] (by rfl) rfl rfl (by simp only [List.map_toArray, List.map_cons, List.map_nil]; rfl) ?_
            with_reducible refine (doneA HQ4.out).mono ?_
            rintro e q5 ⟨rfl, hq⟩
            refine ⟨_, rfl, ?_⟩
            have HQ5 := Aside0.mk hq
            clear hq
            refine hK.out _ _ (HQ5.out.cell2) (fun hHeld => ?_)
            clear hK K
            refine norm_ (a' := ?_) ?_ ?_
            rotate_left
            · show Act.put _ (some 87) _ = _
              simp only [Act.put, List.setIfInBounds_toArray, List.set_cons_zero, List.set_cons_succ, i64_w, i32_w]
              rfl
            refine one_ (i := 22) (N := some 88) #[true, true, true, true, true, true, true, true, true, true, true, true, true, true, true, true, true, true, true, true, true, true, true, true, false, false, false] rfl rfl (by kernel_rfl) (by decide) (fun K hK => ?_)
            refine goes_ Try.func17 (by kernel_rfl) rfl #[.int .i64 (rDone xs' ev')] (by rfl) rfl rfl (by simp only [List.map_toArray, List.map_cons, List.map_nil]; rfl) ?_
            with_reducible refine (weighhouselaw01_num.calls (rDone xs' ev') (rDone xs' ev') _ rfl).mono ?_
            rintro e q6 ⟨rfl, hq⟩
            refine ⟨_, rfl, ?_⟩
            have HQ6 := Aside0.mk (HQ5.out.below hq.below)
            clear hq
            refine hK.out _ _ (HQ6.out.cell2) (fun hHeld => ?_)
            clear hK K
            refine norm_ (a' := ?_) ?_ ?_
            rotate_left
            · show Act.put _ (some 88) _ = _
              simp only [Act.put, List.setIfInBounds_toArray, List.set_cons_zero, List.set_cons_succ, i64_w, i32_w]
              rfl
            refine one_ (i := 24) (N := some 90) #[true, true, true, true, true, true, true, true, true, true, true, true, true, true, true, true, true, true, true, true, true, true, true, true, true, false, false] rfl rfl (by kernel_rfl) (by decide) (fun K hK => ?_)
            refine goes_ Try.func42 (by kernel_rfl) rfl #[.pointer (some ⟨g2, 0, none⟩)] (by rfl) rfl rfl (by simp only [List.map_toArray, List.map_cons, List.map_nil]; rfl) ?_
            with_reducible refine (doneB HQ6.out).mono ?_
            rintro e q7 ⟨rfl, hq⟩
            refine ⟨_, rfl, ?_⟩
            have HQ7 := Aside0.mk hq
            clear hq
            refine hK.out _ _ (HQ7.out.cell2) (fun hHeld => ?_)
            clear hK K
            refine norm_ (a' := ?_) ?_ ?_
            rotate_left
            · show Act.put _ (some 90) _ = _
              simp only [Act.put, List.setIfInBounds_toArray, List.set_cons_zero, List.set_cons_succ, i64_w, i32_w]
              rfl
            refine pure_ (i := 25) (N := some 91) (v := ?_) (a' := ?_) #[true, true, true, true, true, true, true, true, true, true, true, true, true, true, true, true, true, true, true, true, true, true, true, true, true, true, false] rfl rfl (by kernel_rfl) (fun _ _ _ h => h) (Or.inl ⟨by rfl, ?_⟩) ?_ ?_
            rotate_left
            · intro w'
              go_simp
              with_reducible rfl
            rotate_left
            · simp only [Act.put, List.setIfInBounds_toArray, List.set_cons_zero, List.set_cons_succ, i64_w, i32_w]
              rfl
            refine pure_ (i := 26) (N := some 92) (v := ?_) (a' := ?_) #[true, true, true, true, true, true, true, true, true, true, true, true, true, true, true, true, true, true, true, true, true, true, true, true, true, true, true] rfl rfl (by kernel_rfl) (fun _ _ _ h => h) (Or.inl ⟨by rfl, ?_⟩) ?_ ?_
            rotate_left
            · intro w'
              go_simp
              with_reducible rfl
            rotate_left
            · simp only [Act.put, List.setIfInBounds_toArray, List.set_cons_zero, List.set_cons_succ, i64_w, i32_w]
              rfl
            refine done_ (by kernel_rfl) ?_
            clear hHeld k2
            go_wp2
            go_roundw
            case rel => exact ⟨j + 1, xs', ev', by omega, by go_num, HQ7⟩
            case measure => simp [intOf]; omega
          have d1 : (x == 0) = false := by simp [h0]
          by_cases h1 : x = 1
          · have d2 : (x == 1) = true := by simp [h1]
            clear h0 h1
            go_upto_region 20 with (first | (go_at_call 36; (with_reducible refine (intA HT.out).mono ?_); rintro e w5 ⟨rfl, hT5⟩; have HT5 := Aside0.mk hT5; clear hT5) | (go_at_call 37; (with_reducible refine (intB HT5.out).mono ?_); rintro e w6 ⟨rfl, hT6⟩; have HT6 := Aside0.mk hT6; clear hT6))
            obtain ⟨xs', hxs'⟩ : ∃ xs', (rInt xs ev).2.1 = xs' := ⟨_, rfl⟩
            obtain ⟨ev', hev'⟩ : ∃ ev', (rInt xs ev).2.2 = ev' := ⟨_, rfl⟩
            rw [hxs', hev'] at HT6
            have HTd := Aside0.mk (HT6.out.below ((Below.refl _ _).drew))
            have k2 := HTd.out.cell2
            clear hxs' hev' HT5 HT6
            refine start_ (n := 27) (S := fun w' => w'.cell? ⟨g2, 2, none⟩ = some (.int .i64 ev')) (ds := []) #[false, false, false, false, false, false, false, false, false, false, false, false, false, false, false, false, false, false, false, false, false, false, false, false, false, false, false] (by kernel_rfl) rfl rfl (k2) (fun hHeld => ?_)
            generalize w6.drew = wd at HTd k2 hHeld ⊢
            refine pure_ (i := 0) (N := some 66) (v := ?_) (a' := ?_) #[true, false, false, false, false, false, false, false, false, false, false, false, false, false, false, false, false, false, false, false, false, false, false, false, false, false, false] rfl rfl (by kernel_rfl) (fun _ _ _ h => h) (Or.inl ⟨by rfl, ?_⟩) ?_ ?_
            rotate_left
            · intro w'
              go_simp
              with_reducible rfl
            rotate_left
            · simp only [Act.put, List.setIfInBounds_toArray, List.set_cons_zero, List.set_cons_succ, i64_w, i32_w]
              rfl
            refine pure_ (i := 1) (N := some 67) (v := ?_) (a' := ?_) #[true, true, false, false, false, false, false, false, false, false, false, false, false, false, false, false, false, false, false, false, false, false, false, false, false, false, false] rfl rfl (by kernel_rfl) (fun _ _ _ h => h) (Or.inl ⟨by rfl, ?_⟩) ?_ ?_
            rotate_left
            · intro w'
              go_simp
              with_reducible rfl
            rotate_left
            · simp only [Act.put, List.setIfInBounds_toArray, List.set_cons_zero, List.set_cons_succ, i64_w, i32_w]
              rfl
            refine pure_ (i := 2) (N := some 68) (v := ?_) (a' := ?_) #[true, true, true, false, false, false, false, false, false, false, false, false, false, false, false, false, false, false, false, false, false, false, false, false, false, false, false] rfl rfl (by kernel_rfl) (fun _ _ _ h => h) (Or.inl ⟨by rfl, ?_⟩) ?_ ?_
            rotate_left
            · intro w'
              go_simp
              with_reducible rfl
            rotate_left
            · simp only [Act.put, List.setIfInBounds_toArray, List.set_cons_zero, List.set_cons_succ, i64_w, i32_w]
              rfl
            refine pure_ (i := 3) (N := some 69) (v := ?_) (a' := ?_) #[true, true, true, true, false, false, false, false, false, false, false, false, false, false, false, false, false, false, false, false, false, false, false, false, false, false, false] rfl rfl (by kernel_rfl) (fun _ _ _ h => h) (Or.inl ⟨by rfl, ?_⟩) ?_ ?_
            rotate_left
            · intro w'
              go_simp
              with_reducible rfl
            rotate_left
            · simp only [Act.put, List.setIfInBounds_toArray, List.set_cons_zero, List.set_cons_succ, i64_w, i32_w]
              rfl
            refine pure_ (i := 5) (N := some 71) (v := ?_) (a' := ?_) #[true, true, true, true, false, true, false, false, false, false, false, false, false, false, false, false, false, false, false, false, false, false, false, false, false, false, false] rfl rfl (by kernel_rfl) (fun _ _ _ h => h) (Or.inl ⟨by rfl, ?_⟩) ?_ ?_
            rotate_left
            · intro w'
              go_simp
              with_reducible rfl
            rotate_left
            · simp only [Act.put, List.setIfInBounds_toArray, List.set_cons_zero, List.set_cons_succ, i64_w, i32_w]
              rfl
            refine one_ (i := 4) (N := some 70) #[true, true, true, true, true, true, false, false, false, false, false, false, false, false, false, false, false, false, false, false, false, false, false, false, false, false, false] rfl rfl (by kernel_rfl) (by decide) (fun K hK => ?_)
            refine goes_ Try.func39 (by kernel_rfl) rfl #[.pointer (some ⟨g, 0, none⟩)] (by rfl) rfl rfl (by simp only [List.map_toArray, List.map_cons, List.map_nil]; rfl) ?_
            with_reducible refine (leftA HTd.out).mono ?_
            rintro e q1 ⟨rfl, hq⟩
            refine ⟨_, rfl, ?_⟩
            have HQ1 := Aside0.mk hq
            clear hq
            refine hK.out _ _ (HQ1.out.cell2) (fun hHeld => ?_)
            clear hK K
            refine norm_ (a' := ?_) ?_ ?_
            rotate_left
            · show Act.put _ (some 70) _ = _
              simp only [Act.put, List.setIfInBounds_toArray, List.set_cons_zero, List.set_cons_succ, i64_w, i32_w]
              rfl
            refine one_ (i := 6) (N := some 72) #[true, true, true, true, true, true, true, false, false, false, false, false, false, false, false, false, false, false, false, false, false, false, false, false, false, false, false] rfl rfl (by kernel_rfl) (by decide) (fun K hK => ?_)
            refine goes_ Try.func40 (by kernel_rfl) rfl #[.pointer (some ⟨g2, 0, none⟩)] (by rfl) rfl rfl (by simp only [List.map_toArray, List.map_cons, List.map_nil]; rfl) ?_
            with_reducible refine (leftB HQ1.out).mono ?_
            rintro e q2 ⟨rfl, hq⟩
            refine ⟨_, rfl, ?_⟩
            have HQ2 := Aside0.mk hq
            clear hq
            refine hK.out _ _ (HQ2.out.cell2) (fun hHeld => ?_)
            clear hK K
            refine norm_ (a' := ?_) ?_ ?_
            rotate_left
            · show Act.put _ (some 72) _ = _
              simp only [Act.put, List.setIfInBounds_toArray, List.set_cons_zero, List.set_cons_succ, i64_w, i32_w]
              rfl
            refine pure_ (i := 7) (N := some 73) (v := ?_) (a' := ?_) #[true, true, true, true, true, true, true, true, false, false, false, false, false, false, false, false, false, false, false, false, false, false, false, false, false, false, false] rfl rfl (by kernel_rfl) (fun _ _ _ h => h) (Or.inl ⟨by rfl, ?_⟩) ?_ ?_
            rotate_left
            · intro w'
              go_simp
              with_reducible rfl
            rotate_left
            · simp only [Act.put, List.setIfInBounds_toArray, List.set_cons_zero, List.set_cons_succ, i64_w, i32_w]
              rfl
            refine pure_ (i := 8) (N := some 74) (v := ?_) (a' := ?_) #[true, true, true, true, true, true, true, true, true, false, false, false, false, false, false, false, false, false, false, false, false, false, false, false, false, false, false] rfl rfl (by kernel_rfl) (fun _ _ _ h => h) (Or.inl ⟨by rfl, ?_⟩) ?_ ?_
            rotate_left
            · intro w'
              go_simp
              with_reducible rfl
            rotate_left
            · simp only [Act.put, List.setIfInBounds_toArray, List.set_cons_zero, List.set_cons_succ, i64_w, i32_w]
              rfl
            refine pure_ (i := 9) (N := some 75) (v := ?_) (a' := ?_) #[true, true, true, true, true, true, true, true, true, true, false, false, false, false, false, false, false, false, false, false, false, false, false, false, false, false, false] rfl rfl (by kernel_rfl) (fun _ _ _ h => h) (Or.inl ⟨by rfl, ?_⟩) ?_ ?_
            rotate_left
            · intro w'
              go_simp
              with_reducible rfl
            rotate_left
            · simp only [Act.put, List.setIfInBounds_toArray, List.set_cons_zero, List.set_cons_succ, i64_w, i32_w]
              rfl
            refine pure_ (i := 10) (N := some 76) (v := ?_) (a' := ?_) #[true, true, true, true, true, true, true, true, true, true, true, false, false, false, false, false, false, false, false, false, false, false, false, false, false, false, false] rfl rfl (by kernel_rfl) (fun _ _ _ h => h) (Or.inl ⟨by rfl, ?_⟩) ?_ ?_
            rotate_left
            · intro w'
              go_simp
              with_reducible rfl
            rotate_left
            · simp only [Act.put, List.setIfInBounds_toArray, List.set_cons_zero, List.set_cons_succ, i64_w, i32_w]
              rfl
            refine pure_ (i := 13) (N := some 79) (v := ?_) (a' := ?_) #[true, true, true, true, true, true, true, true, true, true, true, false, false, true, false, false, false, false, false, false, false, false, false, false, false, false, false] rfl rfl (by kernel_rfl) (fun _ _ _ h => h) (Or.inl ⟨by rfl, ?_⟩) ?_ ?_
            rotate_left
            · intro w'
              go_simp
              with_reducible rfl
            rotate_left
            · simp only [Act.put, List.setIfInBounds_toArray, List.set_cons_zero, List.set_cons_succ, i64_w, i32_w]
              rfl
            refine pure_ (i := 14) (N := some 80) (v := ?_) (a' := ?_) #[true, true, true, true, true, true, true, true, true, true, true, false, false, true, true, false, false, false, false, false, false, false, false, false, false, false, false] rfl rfl (by kernel_rfl) (fun _ _ _ h => h) (Or.inl ⟨by rfl, ?_⟩) ?_ ?_
            rotate_left
            · intro w'
              go_simp
              with_reducible rfl
            rotate_left
            · simp only [Act.put, List.setIfInBounds_toArray, List.set_cons_zero, List.set_cons_succ, i64_w, i32_w]
              rfl
            refine pure_ (i := 15) (N := some 81) (v := ?_) (a' := ?_) #[true, true, true, true, true, true, true, true, true, true, true, false, false, true, true, true, false, false, false, false, false, false, false, false, false, false, false] rfl rfl (by kernel_rfl) (fun _ _ _ h => h) (Or.inl ⟨by rfl, ?_⟩) ?_ ?_
            rotate_left
            · intro w'
              go_simp
              with_reducible rfl
            rotate_left
            · simp only [Act.put, List.setIfInBounds_toArray, List.set_cons_zero, List.set_cons_succ, i64_w, i32_w]
              rfl
            refine take_ (i := 16) (N := some 82) (v := ?_) (a' := ?_) #[true, true, true, true, true, true, true, true, true, true, true, false, false, true, true, true, true, false, false, false, false, false, false, false, false, false, false] rfl rfl (by kernel_rfl) (fun _ _ _ h => h) (Or.inl ⟨by rfl, ?_⟩) hHeld ?_ ?_
            rotate_left
            · intro w' s0
              go_simp
              with_reducible rfl
            rotate_left
            · simp only [Act.put, List.setIfInBounds_toArray, List.set_cons_zero, List.set_cons_succ, i64_w, i32_w]
              rfl
            refine one_ (i := 11) (N := some 77) #[true, true, true, true, true, true, true, true, true, true, true, true, false, true, true, true, true, false, false, false, false, false, false, false, false, false, false] rfl rfl (by kernel_rfl) (by decide) (fun K hK => ?_)
            refine goes_ Try.func41 (by kernel_rfl) rfl #[.pointer (some ⟨g, 0, none⟩)] (by rfl) rfl rfl (by simp only [List.map_toArray, List.map_cons, List.map_nil]; rfl) ?_
            with_reducible refine (errA HQ2.out).mono ?_
            rintro e q3 ⟨rfl, hq⟩
            refine ⟨_, rfl, ?_⟩
            have HQ3 := Aside0.mk hq
            clear hq
            refine hK.out _ _ (HQ3.out.cell2) (fun hHeld => ?_)
            clear hK K
            refine norm_ (a' := ?_) ?_ ?_
            rotate_left
            · show Act.put _ (some 77) _ = _
              simp only [Act.put, List.setIfInBounds_toArray, List.set_cons_zero, List.set_cons_succ, i64_w, i32_w]
              rfl
            refine one_ (i := 12) (N := some 78) #[true, true, true, true, true, true, true, true, true, true, true, true, true, true, true, true, true, false, false, false, false, false, false, false, false, false, false] rfl rfl (by kernel_rfl) (by decide) (fun K hK => ?_)
            refine goes_ Try.func17 (by kernel_rfl) rfl #[.int .i64 ev'] (by rfl) rfl rfl (by simp only [List.map_toArray, List.map_cons, List.map_nil]; rfl) ?_
            with_reducible refine (weighhouselaw01_num.calls ev' ev' _ rfl).mono ?_
            rintro e q4 ⟨rfl, hq⟩
            refine ⟨_, rfl, ?_⟩
            have HQ4 := Aside0.mk (HQ3.out.below hq.below)
            clear hq
            refine hK.out _ _ (HQ4.out.cell2) (fun hHeld => ?_)
            clear hK K
            refine norm_ (a' := ?_) ?_ ?_
            rotate_left
            · show Act.put _ (some 78) _ = _
              simp only [Act.put, List.setIfInBounds_toArray, List.set_cons_zero, List.set_cons_succ, i64_w, i32_w]
              rfl
            refine pure_ (i := 17) (N := some 83) (v := ?_) (a' := ?_) #[true, true, true, true, true, true, true, true, true, true, true, true, true, true, true, true, true, true, false, false, false, false, false, false, false, false, false] rfl rfl (by kernel_rfl) (fun _ _ _ h => h) (Or.inl ⟨by rfl, ?_⟩) ?_ ?_
            rotate_left
            · intro w'
              go_simp
              with_reducible rfl
            rotate_left
            · simp only [Act.put, List.setIfInBounds_toArray, List.set_cons_zero, List.set_cons_succ, i64_w, i32_w]
              rfl
            refine pure_ (i := 18) (N := some 84) (v := ?_) (a' := ?_) #[true, true, true, true, true, true, true, true, true, true, true, true, true, true, true, true, true, true, true, false, false, false, false, false, false, false, false] rfl rfl (by kernel_rfl) (fun _ _ _ h => h) (Or.inl ⟨by rfl, ?_⟩) ?_ ?_
            rotate_left
            · intro w'
              go_simp
              with_reducible rfl
            rotate_left
            · simp only [Act.put, List.setIfInBounds_toArray, List.set_cons_zero, List.set_cons_succ, i64_w, i32_w]
              rfl
            refine pure_ (i := 19) (N := some 85) (v := ?_) (a' := ?_) #[true, true, true, true, true, true, true, true, true, true, true, true, true, true, true, true, true, true, true, true, false, false, false, false, false, false, false] rfl rfl (by kernel_rfl) (fun _ _ _ h => h) (Or.inl ⟨by rfl, ?_⟩) ?_ ?_
            rotate_left
            · intro w'
              go_simp
              with_reducible rfl
            rotate_left
            · simp only [Act.put, List.setIfInBounds_toArray, List.set_cons_zero, List.set_cons_succ, i64_w, i32_w]
              rfl
            refine pure_ (i := 20) (N := some 86) (v := ?_) (a' := ?_) #[true, true, true, true, true, true, true, true, true, true, true, true, true, true, true, true, true, true, true, true, true, false, false, false, false, false, false] rfl rfl (by kernel_rfl) (fun _ _ _ h => h) (Or.inl ⟨by rfl, ?_⟩) ?_ ?_
            rotate_left
            · intro w'
              go_simp
              with_reducible rfl
            rotate_left
            · simp only [Act.put, List.setIfInBounds_toArray, List.set_cons_zero, List.set_cons_succ, i64_w, i32_w]
              rfl
            refine pure_ (i := 23) (N := some 89) (v := ?_) (a' := ?_) #[true, true, true, true, true, true, true, true, true, true, true, true, true, true, true, true, true, true, true, true, true, false, false, true, false, false, false] rfl rfl (by kernel_rfl) (fun _ _ _ h => h) (Or.inl ⟨by rfl, ?_⟩) ?_ ?_
            rotate_left
            · intro w'
              go_simp
              with_reducible rfl
            rotate_left
            · simp only [Act.put, List.setIfInBounds_toArray, List.set_cons_zero, List.set_cons_succ, i64_w, i32_w]
              rfl
            refine one_ (i := 21) (N := some 87) #[true, true, true, true, true, true, true, true, true, true, true, true, true, true, true, true, true, true, true, true, true, true, false, true, false, false, false] rfl rfl (by kernel_rfl) (by decide) (fun K hK => ?_)
            refine goes_ Try.func32 (by kernel_rfl) rfl #[.pointer (some ⟨g, 0, none⟩)] (by rfl) rfl rfl (by simp only [List.map_toArray, List.map_cons, List.map_nil]; rfl) ?_
            with_reducible refine (doneA HQ4.out).mono ?_
            rintro e q5 ⟨rfl, hq⟩
            refine ⟨_, rfl, ?_⟩
            have HQ5 := Aside0.mk hq
            clear hq
            refine hK.out _ _ (HQ5.out.cell2) (fun hHeld => ?_)
            clear hK K
            refine norm_ (a' := ?_) ?_ ?_
            rotate_left
            · show Act.put _ (some 87) _ = _
              simp only [Act.put, List.setIfInBounds_toArray, List.set_cons_zero, List.set_cons_succ, i64_w, i32_w]
              rfl
            refine one_ (i := 22) (N := some 88) #[true, true, true, true, true, true, true, true, true, true, true, true, true, true, true, true, true, true, true, true, true, true, true, true, false, false, false] rfl rfl (by kernel_rfl) (by decide) (fun K hK => ?_)
            refine goes_ Try.func17 (by kernel_rfl) rfl #[.int .i64 (rDone xs' ev')] (by rfl) rfl rfl (by simp only [List.map_toArray, List.map_cons, List.map_nil]; rfl) ?_
            with_reducible refine (weighhouselaw01_num.calls (rDone xs' ev') (rDone xs' ev') _ rfl).mono ?_
            rintro e q6 ⟨rfl, hq⟩
            refine ⟨_, rfl, ?_⟩
            have HQ6 := Aside0.mk (HQ5.out.below hq.below)
            clear hq
            refine hK.out _ _ (HQ6.out.cell2) (fun hHeld => ?_)
            clear hK K
            refine norm_ (a' := ?_) ?_ ?_
            rotate_left
            · show Act.put _ (some 88) _ = _
              simp only [Act.put, List.setIfInBounds_toArray, List.set_cons_zero, List.set_cons_succ, i64_w, i32_w]
              rfl
            refine one_ (i := 24) (N := some 90) #[true, true, true, true, true, true, true, true, true, true, true, true, true, true, true, true, true, true, true, true, true, true, true, true, true, false, false] rfl rfl (by kernel_rfl) (by decide) (fun K hK => ?_)
            refine goes_ Try.func42 (by kernel_rfl) rfl #[.pointer (some ⟨g2, 0, none⟩)] (by rfl) rfl rfl (by simp only [List.map_toArray, List.map_cons, List.map_nil]; rfl) ?_
            with_reducible refine (doneB HQ6.out).mono ?_
            rintro e q7 ⟨rfl, hq⟩
            refine ⟨_, rfl, ?_⟩
            have HQ7 := Aside0.mk hq
            clear hq
            refine hK.out _ _ (HQ7.out.cell2) (fun hHeld => ?_)
            clear hK K
            refine norm_ (a' := ?_) ?_ ?_
            rotate_left
            · show Act.put _ (some 90) _ = _
              simp only [Act.put, List.setIfInBounds_toArray, List.set_cons_zero, List.set_cons_succ, i64_w, i32_w]
              rfl
            refine pure_ (i := 25) (N := some 91) (v := ?_) (a' := ?_) #[true, true, true, true, true, true, true, true, true, true, true, true, true, true, true, true, true, true, true, true, true, true, true, true, true, true, false] rfl rfl (by kernel_rfl) (fun _ _ _ h => h) (Or.inl ⟨by rfl, ?_⟩) ?_ ?_
            rotate_left
            · intro w'
              go_simp
              with_reducible rfl
            rotate_left
            · simp only [Act.put, List.setIfInBounds_toArray, List.set_cons_zero, List.set_cons_succ, i64_w, i32_w]
              rfl
            refine pure_ (i := 26) (N := some 92) (v := ?_) (a' := ?_) #[true, true, true, true, true, true, true, true, true, true, true, true, true, true, true, true, true, true, true, true, true, true, true, true, true, true, true] rfl rfl (by kernel_rfl) (fun _ _ _ h => h) (Or.inl ⟨by rfl, ?_⟩) ?_ ?_
            rotate_left
            · intro w'
              go_simp
              with_reducible rfl
            rotate_left
            · simp only [Act.put, List.setIfInBounds_toArray, List.set_cons_zero, List.set_cons_succ, i64_w, i32_w]
              rfl
            refine done_ (by kernel_rfl) ?_
            clear hHeld k2
            go_wp2
            go_roundw
            case rel => exact ⟨j + 1, xs', ev', by omega, by go_num, HQ7⟩
            case measure => simp [intOf]; omega
          · have d2 : (x == 1) = false := by simp [h1]
            clear h0 h1
            go_upto_region 20 with (first | (go_at_call 31; (with_reducible refine (textA HT.out).mono ?_); rintro e w5 ⟨rfl, hT5⟩; have HT5 := Aside0.mk hT5; clear hT5) | (go_at_call 38; (with_reducible refine (textB_ HT5.out).mono ?_); rintro e w6 ⟨rfl, hT6⟩; have HT6 := Aside0.mk hT6; clear hT6))
            obtain ⟨xs', hxs'⟩ : ∃ xs', (rText xs ev).2.1 = xs' := ⟨_, rfl⟩
            obtain ⟨ev', hev'⟩ : ∃ ev', (rText xs ev).2.2 = ev' := ⟨_, rfl⟩
            rw [hxs', hev'] at HT6
            have HTd := Aside0.mk (HT6.out.below ((Below.refl _ _).drew))
            have k2 := HTd.out.cell2
            clear hxs' hev' HT5 HT6
            refine start_ (n := 27) (S := fun w' => w'.cell? ⟨g2, 2, none⟩ = some (.int .i64 ev')) (ds := []) #[false, false, false, false, false, false, false, false, false, false, false, false, false, false, false, false, false, false, false, false, false, false, false, false, false, false, false] (by kernel_rfl) rfl rfl (k2) (fun hHeld => ?_)
            generalize w6.drew = wd at HTd k2 hHeld ⊢
            refine pure_ (i := 0) (N := some 66) (v := ?_) (a' := ?_) #[true, false, false, false, false, false, false, false, false, false, false, false, false, false, false, false, false, false, false, false, false, false, false, false, false, false, false] rfl rfl (by kernel_rfl) (fun _ _ _ h => h) (Or.inl ⟨by rfl, ?_⟩) ?_ ?_
            rotate_left
            · intro w'
              go_simp
              with_reducible rfl
            rotate_left
            · simp only [Act.put, List.setIfInBounds_toArray, List.set_cons_zero, List.set_cons_succ, i64_w, i32_w]
              rfl
            refine pure_ (i := 1) (N := some 67) (v := ?_) (a' := ?_) #[true, true, false, false, false, false, false, false, false, false, false, false, false, false, false, false, false, false, false, false, false, false, false, false, false, false, false] rfl rfl (by kernel_rfl) (fun _ _ _ h => h) (Or.inl ⟨by rfl, ?_⟩) ?_ ?_
            rotate_left
            · intro w'
              go_simp
              with_reducible rfl
            rotate_left
            · simp only [Act.put, List.setIfInBounds_toArray, List.set_cons_zero, List.set_cons_succ, i64_w, i32_w]
              rfl
            refine pure_ (i := 2) (N := some 68) (v := ?_) (a' := ?_) #[true, true, true, false, false, false, false, false, false, false, false, false, false, false, false, false, false, false, false, false, false, false, false, false, false, false, false] rfl rfl (by kernel_rfl) (fun _ _ _ h => h) (Or.inl ⟨by rfl, ?_⟩) ?_ ?_
            rotate_left
            · intro w'
              go_simp
              with_reducible rfl
            rotate_left
            · simp only [Act.put, List.setIfInBounds_toArray, List.set_cons_zero, List.set_cons_succ, i64_w, i32_w]
              rfl
            refine pure_ (i := 3) (N := some 69) (v := ?_) (a' := ?_) #[true, true, true, true, false, false, false, false, false, false, false, false, false, false, false, false, false, false, false, false, false, false, false, false, false, false, false] rfl rfl (by kernel_rfl) (fun _ _ _ h => h) (Or.inl ⟨by rfl, ?_⟩) ?_ ?_
            rotate_left
            · intro w'
              go_simp
              with_reducible rfl
            rotate_left
            · simp only [Act.put, List.setIfInBounds_toArray, List.set_cons_zero, List.set_cons_succ, i64_w, i32_w]
              rfl
            refine pure_ (i := 5) (N := some 71) (v := ?_) (a' := ?_) #[true, true, true, true, false, true, false, false, false, false, false, false, false, false, false, false, false, false, false, false, false, false, false, false, false, false, false] rfl rfl (by kernel_rfl) (fun _ _ _ h => h) (Or.inl ⟨by rfl, ?_⟩) ?_ ?_
            rotate_left
            · intro w'
              go_simp
              with_reducible rfl
            rotate_left
            · simp only [Act.put, List.setIfInBounds_toArray, List.set_cons_zero, List.set_cons_succ, i64_w, i32_w]
              rfl
            refine one_ (i := 4) (N := some 70) #[true, true, true, true, true, true, false, false, false, false, false, false, false, false, false, false, false, false, false, false, false, false, false, false, false, false, false] rfl rfl (by kernel_rfl) (by decide) (fun K hK => ?_)
            refine goes_ Try.func39 (by kernel_rfl) rfl #[.pointer (some ⟨g, 0, none⟩)] (by rfl) rfl rfl (by simp only [List.map_toArray, List.map_cons, List.map_nil]; rfl) ?_
            with_reducible refine (leftA HTd.out).mono ?_
            rintro e q1 ⟨rfl, hq⟩
            refine ⟨_, rfl, ?_⟩
            have HQ1 := Aside0.mk hq
            clear hq
            refine hK.out _ _ (HQ1.out.cell2) (fun hHeld => ?_)
            clear hK K
            refine norm_ (a' := ?_) ?_ ?_
            rotate_left
            · show Act.put _ (some 70) _ = _
              simp only [Act.put, List.setIfInBounds_toArray, List.set_cons_zero, List.set_cons_succ, i64_w, i32_w]
              rfl
            refine one_ (i := 6) (N := some 72) #[true, true, true, true, true, true, true, false, false, false, false, false, false, false, false, false, false, false, false, false, false, false, false, false, false, false, false] rfl rfl (by kernel_rfl) (by decide) (fun K hK => ?_)
            refine goes_ Try.func40 (by kernel_rfl) rfl #[.pointer (some ⟨g2, 0, none⟩)] (by rfl) rfl rfl (by simp only [List.map_toArray, List.map_cons, List.map_nil]; rfl) ?_
            with_reducible refine (leftB HQ1.out).mono ?_
            rintro e q2 ⟨rfl, hq⟩
            refine ⟨_, rfl, ?_⟩
            have HQ2 := Aside0.mk hq
            clear hq
            refine hK.out _ _ (HQ2.out.cell2) (fun hHeld => ?_)
            clear hK K
            refine norm_ (a' := ?_) ?_ ?_
            rotate_left
            · show Act.put _ (some 72) _ = _
              simp only [Act.put, List.setIfInBounds_toArray, List.set_cons_zero, List.set_cons_succ, i64_w, i32_w]
              rfl
            refine pure_ (i := 7) (N := some 73) (v := ?_) (a' := ?_) #[true, true, true, true, true, true, true, true, false, false, false, false, false, false, false, false, false, false, false, false, false, false, false, false, false, false, false] rfl rfl (by kernel_rfl) (fun _ _ _ h => h) (Or.inl ⟨by rfl, ?_⟩) ?_ ?_
            rotate_left
            · intro w'
              go_simp
              with_reducible rfl
            rotate_left
            · simp only [Act.put, List.setIfInBounds_toArray, List.set_cons_zero, List.set_cons_succ, i64_w, i32_w]
              rfl
            refine pure_ (i := 8) (N := some 74) (v := ?_) (a' := ?_) #[true, true, true, true, true, true, true, true, true, false, false, false, false, false, false, false, false, false, false, false, false, false, false, false, false, false, false] rfl rfl (by kernel_rfl) (fun _ _ _ h => h) (Or.inl ⟨by rfl, ?_⟩) ?_ ?_
            rotate_left
            · intro w'
              go_simp
              with_reducible rfl
            rotate_left
            · simp only [Act.put, List.setIfInBounds_toArray, List.set_cons_zero, List.set_cons_succ, i64_w, i32_w]
              rfl
            refine pure_ (i := 9) (N := some 75) (v := ?_) (a' := ?_) #[true, true, true, true, true, true, true, true, true, true, false, false, false, false, false, false, false, false, false, false, false, false, false, false, false, false, false] rfl rfl (by kernel_rfl) (fun _ _ _ h => h) (Or.inl ⟨by rfl, ?_⟩) ?_ ?_
            rotate_left
            · intro w'
              go_simp
              with_reducible rfl
            rotate_left
            · simp only [Act.put, List.setIfInBounds_toArray, List.set_cons_zero, List.set_cons_succ, i64_w, i32_w]
              rfl
            refine pure_ (i := 10) (N := some 76) (v := ?_) (a' := ?_) #[true, true, true, true, true, true, true, true, true, true, true, false, false, false, false, false, false, false, false, false, false, false, false, false, false, false, false] rfl rfl (by kernel_rfl) (fun _ _ _ h => h) (Or.inl ⟨by rfl, ?_⟩) ?_ ?_
            rotate_left
            · intro w'
              go_simp
              with_reducible rfl
            rotate_left
            · simp only [Act.put, List.setIfInBounds_toArray, List.set_cons_zero, List.set_cons_succ, i64_w, i32_w]
              rfl
            refine pure_ (i := 13) (N := some 79) (v := ?_) (a' := ?_) #[true, true, true, true, true, true, true, true, true, true, true, false, false, true, false, false, false, false, false, false, false, false, false, false, false, false, false] rfl rfl (by kernel_rfl) (fun _ _ _ h => h) (Or.inl ⟨by rfl, ?_⟩) ?_ ?_
            rotate_left
            · intro w'
              go_simp
              with_reducible rfl
            rotate_left
            · simp only [Act.put, List.setIfInBounds_toArray, List.set_cons_zero, List.set_cons_succ, i64_w, i32_w]
              rfl
            refine pure_ (i := 14) (N := some 80) (v := ?_) (a' := ?_) #[true, true, true, true, true, true, true, true, true, true, true, false, false, true, true, false, false, false, false, false, false, false, false, false, false, false, false] rfl rfl (by kernel_rfl) (fun _ _ _ h => h) (Or.inl ⟨by rfl, ?_⟩) ?_ ?_
            rotate_left
            · intro w'
              go_simp
              with_reducible rfl
            rotate_left
            · simp only [Act.put, List.setIfInBounds_toArray, List.set_cons_zero, List.set_cons_succ, i64_w, i32_w]
              rfl
            refine pure_ (i := 15) (N := some 81) (v := ?_) (a' := ?_) #[true, true, true, true, true, true, true, true, true, true, true, false, false, true, true, true, false, false, false, false, false, false, false, false, false, false, false] rfl rfl (by kernel_rfl) (fun _ _ _ h => h) (Or.inl ⟨by rfl, ?_⟩) ?_ ?_
            rotate_left
            · intro w'
              go_simp
              with_reducible rfl
            rotate_left
            · simp only [Act.put, List.setIfInBounds_toArray, List.set_cons_zero, List.set_cons_succ, i64_w, i32_w]
              rfl
            refine take_ (i := 16) (N := some 82) (v := ?_) (a' := ?_) #[true, true, true, true, true, true, true, true, true, true, true, false, false, true, true, true, true, false, false, false, false, false, false, false, false, false, false] rfl rfl (by kernel_rfl) (fun _ _ _ h => h) (Or.inl ⟨by rfl, ?_⟩) hHeld ?_ ?_
            rotate_left
            · intro w' s0
              go_simp
              with_reducible rfl
            rotate_left
            · simp only [Act.put, List.setIfInBounds_toArray, List.set_cons_zero, List.set_cons_succ, i64_w, i32_w]
              rfl
            refine one_ (i := 11) (N := some 77) #[true, true, true, true, true, true, true, true, true, true, true, true, false, true, true, true, true, false, false, false, false, false, false, false, false, false, false] rfl rfl (by kernel_rfl) (by decide) (fun K hK => ?_)
            refine goes_ Try.func41 (by kernel_rfl) rfl #[.pointer (some ⟨g, 0, none⟩)] (by rfl) rfl rfl (by simp only [List.map_toArray, List.map_cons, List.map_nil]; rfl) ?_
            with_reducible refine (errA HQ2.out).mono ?_
            rintro e q3 ⟨rfl, hq⟩
            refine ⟨_, rfl, ?_⟩
            have HQ3 := Aside0.mk hq
            clear hq
            refine hK.out _ _ (HQ3.out.cell2) (fun hHeld => ?_)
            clear hK K
            refine norm_ (a' := ?_) ?_ ?_
            rotate_left
            · show Act.put _ (some 77) _ = _
              simp only [Act.put, List.setIfInBounds_toArray, List.set_cons_zero, List.set_cons_succ, i64_w, i32_w]
              rfl
            refine one_ (i := 12) (N := some 78) #[true, true, true, true, true, true, true, true, true, true, true, true, true, true, true, true, true, false, false, false, false, false, false, false, false, false, false] rfl rfl (by kernel_rfl) (by decide) (fun K hK => ?_)
            refine goes_ Try.func17 (by kernel_rfl) rfl #[.int .i64 ev'] (by rfl) rfl rfl (by simp only [List.map_toArray, List.map_cons, List.map_nil]; rfl) ?_
            with_reducible refine (weighhouselaw01_num.calls ev' ev' _ rfl).mono ?_
            rintro e q4 ⟨rfl, hq⟩
            refine ⟨_, rfl, ?_⟩
            have HQ4 := Aside0.mk (HQ3.out.below hq.below)
            clear hq
            refine hK.out _ _ (HQ4.out.cell2) (fun hHeld => ?_)
            clear hK K
            refine norm_ (a' := ?_) ?_ ?_
            rotate_left
            · show Act.put _ (some 78) _ = _
              simp only [Act.put, List.setIfInBounds_toArray, List.set_cons_zero, List.set_cons_succ, i64_w, i32_w]
              rfl
            refine pure_ (i := 17) (N := some 83) (v := ?_) (a' := ?_) #[true, true, true, true, true, true, true, true, true, true, true, true, true, true, true, true, true, true, false, false, false, false, false, false, false, false, false] rfl rfl (by kernel_rfl) (fun _ _ _ h => h) (Or.inl ⟨by rfl, ?_⟩) ?_ ?_
            rotate_left
            · intro w'
              go_simp
              with_reducible rfl
            rotate_left
            · simp only [Act.put, List.setIfInBounds_toArray, List.set_cons_zero, List.set_cons_succ, i64_w, i32_w]
              rfl
            refine pure_ (i := 18) (N := some 84) (v := ?_) (a' := ?_) #[true, true, true, true, true, true, true, true, true, true, true, true, true, true, true, true, true, true, true, false, false, false, false, false, false, false, false] rfl rfl (by kernel_rfl) (fun _ _ _ h => h) (Or.inl ⟨by rfl, ?_⟩) ?_ ?_
            rotate_left
            · intro w'
              go_simp
              with_reducible rfl
            rotate_left
            · simp only [Act.put, List.setIfInBounds_toArray, List.set_cons_zero, List.set_cons_succ, i64_w, i32_w]
              rfl
            refine pure_ (i := 19) (N := some 85) (v := ?_) (a' := ?_) #[true, true, true, true, true, true, true, true, true, true, true, true, true, true, true, true, true, true, true, true, false, false, false, false, false, false, false] rfl rfl (by kernel_rfl) (fun _ _ _ h => h) (Or.inl ⟨by rfl, ?_⟩) ?_ ?_
            rotate_left
            · intro w'
              go_simp
              with_reducible rfl
            rotate_left
            · simp only [Act.put, List.setIfInBounds_toArray, List.set_cons_zero, List.set_cons_succ, i64_w, i32_w]
              rfl
            refine pure_ (i := 20) (N := some 86) (v := ?_) (a' := ?_) #[true, true, true, true, true, true, true, true, true, true, true, true, true, true, true, true, true, true, true, true, true, false, false, false, false, false, false] rfl rfl (by kernel_rfl) (fun _ _ _ h => h) (Or.inl ⟨by rfl, ?_⟩) ?_ ?_
            rotate_left
            · intro w'
              go_simp
              with_reducible rfl
            rotate_left
            · simp only [Act.put, List.setIfInBounds_toArray, List.set_cons_zero, List.set_cons_succ, i64_w, i32_w]
              rfl
            refine pure_ (i := 23) (N := some 89) (v := ?_) (a' := ?_) #[true, true, true, true, true, true, true, true, true, true, true, true, true, true, true, true, true, true, true, true, true, false, false, true, false, false, false] rfl rfl (by kernel_rfl) (fun _ _ _ h => h) (Or.inl ⟨by rfl, ?_⟩) ?_ ?_
            rotate_left
            · intro w'
              go_simp
              with_reducible rfl
            rotate_left
            · simp only [Act.put, List.setIfInBounds_toArray, List.set_cons_zero, List.set_cons_succ, i64_w, i32_w]
              rfl
            refine one_ (i := 21) (N := some 87) #[true, true, true, true, true, true, true, true, true, true, true, true, true, true, true, true, true, true, true, true, true, true, false, true, false, false, false] rfl rfl (by kernel_rfl) (by decide) (fun K hK => ?_)
            refine goes_ Try.func32 (by kernel_rfl) rfl #[.pointer (some ⟨g, 0, none⟩)] (by rfl) rfl rfl (by simp only [List.map_toArray, List.map_cons, List.map_nil]; rfl) ?_
            with_reducible refine (doneA HQ4.out).mono ?_
            rintro e q5 ⟨rfl, hq⟩
            refine ⟨_, rfl, ?_⟩
            have HQ5 := Aside0.mk hq
            clear hq
            refine hK.out _ _ (HQ5.out.cell2) (fun hHeld => ?_)
            clear hK K
            refine norm_ (a' := ?_) ?_ ?_
            rotate_left
            · show Act.put _ (some 87) _ = _
              simp only [Act.put, List.setIfInBounds_toArray, List.set_cons_zero, List.set_cons_succ, i64_w, i32_w]
              rfl
            refine one_ (i := 22) (N := some 88) #[true, true, true, true, true, true, true, true, true, true, true, true, true, true, true, true, true, true, true, true, true, true, true, true, false, false, false] rfl rfl (by kernel_rfl) (by decide) (fun K hK => ?_)
            refine goes_ Try.func17 (by kernel_rfl) rfl #[.int .i64 (rDone xs' ev')] (by rfl) rfl rfl (by simp only [List.map_toArray, List.map_cons, List.map_nil]; rfl) ?_
            with_reducible refine (weighhouselaw01_num.calls (rDone xs' ev') (rDone xs' ev') _ rfl).mono ?_
            rintro e q6 ⟨rfl, hq⟩
            refine ⟨_, rfl, ?_⟩
            have HQ6 := Aside0.mk (HQ5.out.below hq.below)
            clear hq
            refine hK.out _ _ (HQ6.out.cell2) (fun hHeld => ?_)
            clear hK K
            refine norm_ (a' := ?_) ?_ ?_
            rotate_left
            · show Act.put _ (some 88) _ = _
              simp only [Act.put, List.setIfInBounds_toArray, List.set_cons_zero, List.set_cons_succ, i64_w, i32_w]
              rfl
            refine one_ (i := 24) (N := some 90) #[true, true, true, true, true, true, true, true, true, true, true, true, true, true, true, true, true, true, true, true, true, true, true, true, true, false, false] rfl rfl (by kernel_rfl) (by decide) (fun K hK => ?_)
            refine goes_ Try.func42 (by kernel_rfl) rfl #[.pointer (some ⟨g2, 0, none⟩)] (by rfl) rfl rfl (by simp only [List.map_toArray, List.map_cons, List.map_nil]; rfl) ?_
            with_reducible refine (doneB HQ6.out).mono ?_
            rintro e q7 ⟨rfl, hq⟩
            refine ⟨_, rfl, ?_⟩
            have HQ7 := Aside0.mk hq
            clear hq
            refine hK.out _ _ (HQ7.out.cell2) (fun hHeld => ?_)
            clear hK K
            refine norm_ (a' := ?_) ?_ ?_
            rotate_left
            · show Act.put _ (some 90) _ = _
              simp only [Act.put, List.setIfInBounds_toArray, List.set_cons_zero, List.set_cons_succ, i64_w, i32_w]
              rfl
            refine pure_ (i := 25) (N := some 91) (v := ?_) (a' := ?_) #[true, true, true, true, true, true, true, true, true, true, true, true, true, true, true, true, true, true, true, true, true, true, true, true, true, true, false] rfl rfl (by kernel_rfl) (fun _ _ _ h => h) (Or.inl ⟨by rfl, ?_⟩) ?_ ?_
            rotate_left
            · intro w'
              go_simp
              with_reducible rfl
            rotate_left
            · simp only [Act.put, List.setIfInBounds_toArray, List.set_cons_zero, List.set_cons_succ, i64_w, i32_w]
              rfl
            refine pure_ (i := 26) (N := some 92) (v := ?_) (a' := ?_) #[true, true, true, true, true, true, true, true, true, true, true, true, true, true, true, true, true, true, true, true, true, true, true, true, true, true, true] rfl rfl (by kernel_rfl) (fun _ _ _ h => h) (Or.inl ⟨by rfl, ?_⟩) ?_ ?_
            rotate_left
            · intro w'
              go_simp
              with_reducible rfl
            rotate_left
            · simp only [Act.put, List.setIfInBounds_toArray, List.set_cons_zero, List.set_cons_succ, i64_w, i32_w]
              rfl
            refine done_ (by kernel_rfl) ?_
            clear hHeld k2
            go_wp2
            go_roundw
            case rel => exact ⟨j + 1, xs', ev', by omega, by go_num, HQ7⟩
            case measure => simp [intOf]; omega
        · go_wp2
          go_ret
          exact ⟨rfl, HT.out.bel⟩


end Go.Proofs.Ytjkimfjhfncldaa.Q
end

section
/- what the readings of the parameters of WireReads give -/
set_option linter.unusedVariables false
set_option linter.unusedSimpArgs false
namespace Go.Proofs.Ytjkimfjhfncldaa.OpWireReads
open Go.RowKit Go.Proofs.YtjkimfjhfncldaaW.PrintWords Go.Proofs.YtjkimfjhfncldaaW.Hb Go.Proofs.YtjkimfjhfncldaaW.Ho Go.Proofs.Ytjkimfjhfncldaa.Q

theorem opens_slice' {P : Program} {t : TypeId} {α : Type} {d : Kd α} {e B : Nat} {Q : α → Prop} (ht : P.underlying t = some (.slice e)) (hs : P.cellsOf e = d.sz) (hB : P.bytesOf e = B) (hp : Opens P d e Q) :
    Opens P (Kd.slice e d) t (fun xs => xs.length * B ≤ reachBytes ∧ xs.length ≤ maxLen ∧ ∀ x ∈ xs, Q x) := by
  subst hB
  exact opens_slice ht hs hp
end Go.Proofs.Ytjkimfjhfncldaa.OpWireReads
end

section
/- the pure statement of WireReads -/
namespace Go.Proofs.Ytjkimfjhfncldaa.PuWireReads
open Go.RowKit Go.Proofs.YtjkimfjhfncldaaW.PrintWords Go.Proofs.YtjkimfjhfncldaaW.Hb Go.Proofs.YtjkimfjhfncldaaW.Ho Go.Proofs.Ytjkimfjhfncldaa.Q Go.Proofs.Ytjkimfjhfncldaa.OpWireReads
def Pure : Prop := ∀ (x0 : List (Int)) (x1 : List (Int)), ((x0).length * 1 ≤ reachBytes ∧ (x0).length ≤ maxLen ∧ ∀ y ∈ (x0), (Lit.int .u8 (y)).wf = true) → ((x1).length * 8 ≤ reachBytes ∧ (x1).length ≤ maxLen ∧ ∀ y ∈ (x1), (Lit.int .i64 (y)).wf = true) → weighhouselaw01_WireReads.f x0 x1 = some true
end Go.Proofs.Ytjkimfjhfncldaa.PuWireReads
end

section
/- WireReads: the pure statement, proved: a reader of any bytes does what the document says, call by call -/
namespace Go.Proofs.Ytjkimfjhfncldaa.PuWireReads
open Go.RowKit Go.Proofs.YtjkimfjhfncldaaW.PrintWords Go.Proofs.YtjkimfjhfncldaaW.Hb Go.Proofs.YtjkimfjhfncldaaW.Ho Go.Proofs.Ytjkimfjhfncldaa.Q Go.Proofs.Ytjkimfjhfncldaa.OpWireReads
theorem wfB {x : Int} (h : (Lit.int .u8 x).wf = true) : 0 ≤ x ∧ x ≤ 255 := by
  simp only [Lit.wf, IntKind.min, IntKind.max, IntKind.signed, IntKind.bits, Bool.and_eq_true] at h
  simp at h
  omega
theorem pure : Pure := by
  intro x0 x1 h0 h1
  unfold weighhouselaw01_WireReads.f
  rw [if_pos]
  rw [Bool.and_eq_true, List.all_eq_true]
  refine ⟨fun x hx => ?_, decide_eq_true ?_⟩
  · have := wfB (h0.2.2 x hx)
    simp [isBb, this.1, this.2]
  · have := h0.1
    unfold reachBytes at this
    omega
end Go.Proofs.Ytjkimfjhfncldaa.PuWireReads
end
