/- texts of one claim, merged: each in a section of its own -/
import Derived.Test.YtblaibigjhlblaaDoorMValueTextsUptoCard3
import Derived.Test.YtblaibigjhlblaaDoorMValueTextsUptoCard4
import Derived.Lib.ItoaLen
import Derived.Lib.AtoiAllCases
import Derived.Lib.Join
import Derived.Lib.SplitLaws
import Derived.Lib.Replace
section
-- written by hprint.py (a program of these sessions) out of the translation; Lean checks it
namespace Go.Proofs.YtblaibigjhlblaaDoor.Q
open Go.RowKit Go.Proofs.YtblaibigjhlblaaDoorW.Hb Go.Proofs.YtblaibigjhlblaaDoorW.PrintWords Go.Proofs.YtblaibigjhlblaaDoorW.PrintLast Go.Proofs.YtblaibigjhlblaaDoorW.PrintMore
attribute [local go_sem] max2_int min2_int max_two min_two max_three min_three max_four min_four   -- for this text's walks alone
set_option linter.unusedVariables false
set_option linter.unusedSimpArgs false

/-! ### weighhouseref02_Hex: function 51 -/
def weighhouseref02_Hex.l0 : Nat → ByteArray → ByteArray → List Int → Int → Option (ByteArray)
  | 0, _, _, _, _ => none
  | k + 1, x0, x3, x4, x5 => if x5 < (x0.size : Int) then (if 0 ≤ x5 then (if 0 ≤ ((Int.tdiv (bt x0 x5) 16) % 256) then (if ((Int.tdiv (bt x0 x5) 16) % 256) < (x3.size : Int) then (if 0 ≤ (Int.tmod (bt x0 x5) 16) then (if (Int.tmod (bt x0 x5) 16) < (x3.size : Int) then ((some (([bt x3 ((Int.tdiv (bt x0 x5) 16) % 256), bt x3 (Int.tmod (bt x0 x5) 16)] : List Int) : List Int)).bind fun y202 => (if x4.length + y202.length < 140737488355328 then (weighhouseref02_Hex.l0 k x0 x3 (x4 ++ y202) (wrap64 (x5 + 1))) else (none))) else (none)) else (none)) else (none)) else (none)) else (none)) else (some (strOfNums x4))
def weighhouseref02_Hex.f (k : Nat) (a0 : ByteArray) : Option (ByteArray) := weighhouseref02_Hex.l0 k a0 (⟨#[48, 49, 50, 51, 52, 53, 54, 55, 56, 57, 97, 98, 99, 100, 101, 102]⟩ : ByteArray) ([] : List Int) 0
theorem weighhouseref02_Hex.mono_l : ∀ k, (∀ y0 y1 y2 y3, LeO (weighhouseref02_Hex.l0 k y0 y1 y2 y3) (weighhouseref02_Hex.l0 (k + 1) y0 y1 y2 y3))
  | 0 => fun _ _ _ _ r h => by simp [weighhouseref02_Hex.l0] at h
  | k + 1 => by
    have ih0 := weighhouseref02_Hex.mono_l k
    · intro y0 y1 y2 y3
      unfold weighhouseref02_Hex.l0
      repeat' first
      | (with_reducible exact ih0 _ _ _ _)
      | (with_reducible exact LeO.refl _)
      | (with_reducible exact LeO.none _)
      | (with_reducible refine LeO.ite ?_ ?_)
      | (with_reducible refine LeO.bind ?_ (fun _ => ?_))
      | exact ih0 _ _ _ _
      | exact LeO.none _
      | refine LeO.ite ?_ ?_
      | refine LeO.bind ?_ (fun _ => ?_)
theorem weighhouseref02_Hex.mono : ∀ a0 k, LeO (weighhouseref02_Hex.f k a0) (weighhouseref02_Hex.f (k + 1) a0) := by
  intro a0 k
  have ih0 := weighhouseref02_Hex.mono_l k
  unfold weighhouseref02_Hex.f
  repeat' first
      | (with_reducible exact ih0 _ _ _ _)
      | (with_reducible exact LeO.refl _)
      | (with_reducible exact LeO.none _)
      | (with_reducible refine LeO.ite ?_ ?_)
      | (with_reducible refine LeO.bind ?_ (fun _ => ?_))
      | exact ih0 _ _ _ _
      | exact LeO.none _
      | refine LeO.ite ?_ ?_
      | refine LeO.bind ?_ (fun _ => ?_)
def weighhouseref02_Hex.T6 : Bool × List (List Nat × List Nat) := (true, [([], []), ([], []), ([], []), ([], []), ([2, 3], [2, 3]), ([4], [4]), ([1, 5], [1, 5]), ([], []), ([], []), ([], []), ([8, 9], [8, 9]), ([10], [10]), ([7, 11], [7, 11]), ([6, 12], [6, 12]), ([0, 13], [0, 13]), ([14, 14, 0, 1, 2, 3, 4, 5, 6, 7, 8, 9, 10, 11, 12, 13, 14], [0, 14])])
def weighhouseref02_Hex.B6 : List Nat := [0, 0, 0, 0, 12, 28, 62, 0, 0, 0, 768, 1792, 3968, 8190, 16383, 32767]
theorem weighhouseref02_Hex.tab6 : rtab .any (opsOf Tryd.f51 6) = weighhouseref02_Hex.T6 := by kernel_rfl
theorem weighhouseref02_Hex.bits6 : waitsOk weighhouseref02_Hex.T6.2 weighhouseref02_Hex.B6 = true := by kernel_rfl
theorem idx_hex (x j : Int) (w : World) (Y : ¬ x < 16 → Result Value) (pf : x < 16 → x.toNat < (⟨#[48, 49, 50, 51, 52, 53, 54, 55, 56, 57, 97, 98, 99, 100, 101, 102]⟩ : ByteArray).size) (hx : x = j) (h0 : 0 ≤ j) (h1 : j < 16) :
    ((if h : x < 16 then Result.ok (Value.int .u8 (((⟨#[48, 49, 50, 51, 52, 53, 54, 55, 56, 57, 97, 98, 99, 100, 101, 102]⟩ : ByteArray)[x.toNat]'(pf h)).toNat : Int)) w else Y h).andThen fun a w' => Result.ok (Next.value a) w') = Result.ok (Next.value (Value.int .u8 (bt ⟨#[48, 49, 50, 51, 52, 53, 54, 55, 56, 57, 97, 98, 99, 100, 101, 102]⟩ j))) w := by
  subst hx
  rw [dif_pos h1]
  unfold bt
  rw [dif_pos (pf h1)]
  rfl
set_option maxHeartbeats 8000000 in
set_option maxRecDepth 100000 in
theorem weighhouseref02_Hex.calls (k : Nat) (a0 : ByteArray) (r : ByteArray) (w : World) (h : weighhouseref02_Hex.f k a0 = some r) :
    Calls Tryd.prog 51 #[.string a0] w fun e w' => e = .returned (.string r) ∧ Below w.heap.size w w' := by
  have HB := Aside0.mk (Below.refl w.heap.size w)
  have H : (weighhouseref02_Hex.l0 k a0 (⟨#[48, 49, 50, 51, 52, 53, 54, 55, 56, 57, 97, 98, 99, 100, 101, 102]⟩ : ByteArray) ([] : List Int) 0) = some r := h
  clear h
  have H' := Aside0.mk H
  clear H
  go_enter Tryd.func51, Tryd.ntmps51
  go_wp2
  go_loopg [4, 5] k (fun kq v4 v5 w' => ∃ (x4_1 : List Int) (x5_1 : Int), v5 = .int .i64 x5_1 ∧ Aside0 (weighhouseref02_Hex.l0 kq a0 (⟨#[48, 49, 50, 51, 52, 53, 54, 55, 56, 57, 97, 98, 99, 100, 101, 102]⟩ : ByteArray) x4_1 x5_1 = some r) ∧ Aside0 (kq ≤ k) ∧ Aside0 (Kd.R (Kd.int .u8) 5 w' w.heap.size (fun _ => True) v4 x4_1) ∧ Aside0 (Below w.heap.size w w'))
  case atStart => exact ⟨(([] : List Int)), (0), (by first | rfl | (simp; done) | (simp [*]; done)), H', ⟨Nat.le_refl _⟩, ⟨by first | exact Kd.R_nil _ _ _ _ _ | exact Kd.N_nil _ _ _ _ _ | exact Kd.V_nil _ _ _ _ _ | exact Kd.Q_nil _ _ _ _ _ | exact Kd.S_nil _ _ _ _ _⟩, ⟨by repeat (first | (with_reducible first | exact HB.out | apply below_alloc | apply pw_below_drewN | apply below_drew1) | exact HB.out)⟩⟩
  case round =>
    clear H'
    obtain ⟨x4_1, x5_1, rfl, HA, HK1, HO_4, HB⟩ := hrel
    cases gk with
    | zero => exact absurd HA.out (by simp [weighhouseref02_Hex.l0])
    | succ k1 =>
      have H := HA.out
      clear HA
      simp only [weighhouseref02_Hex.l0] at H
      by_cases c2 : x5_1 < (a0.size : Int)
      · rw [if_pos c2] at H
        have c2b0 : decide (x5_1 < (a0.size : Int)) = true := decide_eq_true c2
        clear c2
        by_cases c3 : 0 ≤ x5_1
        · rw [if_pos c3] at H
          have c3b0 : decide (0 ≤ x5_1) = true := decide_eq_true c3
          clear c3
          obtain ⟨ji5, hji5⟩ : ∃ j_ : Int, ((Int.tdiv (bt a0 x5_1) 16) % 256) = j_ := ⟨_, rfl⟩
          replace H : (if 0 ≤ (ji5) then (if (ji5) < ((⟨#[48, 49, 50, 51, 52, 53, 54, 55, 56, 57, 97, 98, 99, 100, 101, 102]⟩ : ByteArray).size : Int) then (if 0 ≤ (Int.tmod (bt a0 x5_1) 16) then (if (Int.tmod (bt a0 x5_1) 16) < ((⟨#[48, 49, 50, 51, 52, 53, 54, 55, 56, 57, 97, 98, 99, 100, 101, 102]⟩ : ByteArray).size : Int) then ((some (([bt (⟨#[48, 49, 50, 51, 52, 53, 54, 55, 56, 57, 97, 98, 99, 100, 101, 102]⟩ : ByteArray) (ji5), bt (⟨#[48, 49, 50, 51, 52, 53, 54, 55, 56, 57, 97, 98, 99, 100, 101, 102]⟩ : ByteArray) (Int.tmod (bt a0 x5_1) 16)] : List Int) : List Int)).bind fun y202 => (if x4_1.length + y202.length < 140737488355328 then (weighhouseref02_Hex.l0 k1 a0 (⟨#[48, 49, 50, 51, 52, 53, 54, 55, 56, 57, 97, 98, 99, 100, 101, 102]⟩ : ByteArray) (x4_1 ++ y202) (wrap64 (x5_1 + 1))) else (none))) else (none)) else (none)) else (none)) else (none)) = some r := by first | (rw [hji5] at H; exact H) | (simp only [hji5] at H ⊢; exact H)
          by_cases c6 : 0 ≤ (ji5)
          · rw [if_pos c6] at H
            have c6b0 : decide (0 ≤ (ji5)) = true := decide_eq_true c6
            clear c6
            by_cases c7 : (ji5) < ((⟨#[48, 49, 50, 51, 52, 53, 54, 55, 56, 57, 97, 98, 99, 100, 101, 102]⟩ : ByteArray).size : Int)
            · rw [if_pos c7] at H
              have c7b0 : decide ((ji5) < ((⟨#[48, 49, 50, 51, 52, 53, 54, 55, 56, 57, 97, 98, 99, 100, 101, 102]⟩ : ByteArray).size : Int)) = true := decide_eq_true c7
              clear c7
              obtain ⟨ji10, hji10⟩ : ∃ j_ : Int, (Int.tmod (bt a0 x5_1) 16) = j_ := ⟨_, rfl⟩
              replace H : (if 0 ≤ (ji10) then (if (ji10) < ((⟨#[48, 49, 50, 51, 52, 53, 54, 55, 56, 57, 97, 98, 99, 100, 101, 102]⟩ : ByteArray).size : Int) then ((some (([bt (⟨#[48, 49, 50, 51, 52, 53, 54, 55, 56, 57, 97, 98, 99, 100, 101, 102]⟩ : ByteArray) (ji5), bt (⟨#[48, 49, 50, 51, 52, 53, 54, 55, 56, 57, 97, 98, 99, 100, 101, 102]⟩ : ByteArray) (ji10)] : List Int) : List Int)).bind fun y202 => (if x4_1.length + y202.length < 140737488355328 then (weighhouseref02_Hex.l0 k1 a0 (⟨#[48, 49, 50, 51, 52, 53, 54, 55, 56, 57, 97, 98, 99, 100, 101, 102]⟩ : ByteArray) (x4_1 ++ y202) (wrap64 (x5_1 + 1))) else (none))) else (none)) else (none)) = some r := by first | (rw [hji10] at H; exact H) | (simp only [hji10] at H ⊢; exact H)
              by_cases c11 : 0 ≤ (ji10)
              · rw [if_pos c11] at H
                have c11b0 : decide (0 ≤ (ji10)) = true := decide_eq_true c11
                clear c11
                by_cases c12 : (ji10) < ((⟨#[48, 49, 50, 51, 52, 53, 54, 55, 56, 57, 97, 98, 99, 100, 101, 102]⟩ : ByteArray).size : Int)
                · rw [if_pos c12] at H
                  have c12b0 : decide ((ji10) < ((⟨#[48, 49, 50, 51, 52, 53, 54, 55, 56, 57, 97, 98, 99, 100, 101, 102]⟩ : ByteArray).size : Int)) = true := decide_eq_true c12
                  clear c12
                  obtain ⟨y202, hy202⟩ : ∃ y_ : List Int, y_ = (([bt (⟨#[48, 49, 50, 51, 52, 53, 54, 55, 56, 57, 97, 98, 99, 100, 101, 102]⟩ : ByteArray) (ji5), bt (⟨#[48, 49, 50, 51, 52, 53, 54, 55, 56, 57, 97, 98, 99, 100, 101, 102]⟩ : ByteArray) (ji10)] : List Int)) := ⟨_, rfl⟩
                  replace H : (if x4_1.length + y202.length < 140737488355328 then (weighhouseref02_Hex.l0 k1 a0 (⟨#[48, 49, 50, 51, 52, 53, 54, 55, 56, 57, 97, 98, 99, 100, 101, 102]⟩ : ByteArray) (x4_1 ++ y202) (wrap64 (x5_1 + 1))) else (none)) = some r := by first | (rw [hy202]; with_reducible exact H) | (have H2_ := (Option.bind_some _ _).symm.trans H; rw [hy202]; with_reducible exact H2_) | (have H2_ := (Option.bind_some _ _).symm.trans H; with_reducible exact H2_) | with_reducible exact H | (rw [hy202]; exact H) | exact H
                  have Ny202 := Aside0.mk hy202
                  clear hy202
                  by_cases c14 : x4_1.length + y202.length < 140737488355328
                  · rw [if_pos c14] at H
                    have LMc14 := Aside0.mk c14
                    clear c14
                    obtain ⟨y205, hy205⟩ : ∃ y_ : List Int, y_ = (x4_1 ++ y202) := ⟨_, rfl⟩
                    replace H : (weighhouseref02_Hex.l0 k1 a0 (⟨#[48, 49, 50, 51, 52, 53, 54, 55, 56, 57, 97, 98, 99, 100, 101, 102]⟩ : ByteArray) y205 (wrap64 (x5_1 + 1))) = some r := by first | (rw [hy205]; with_reducible exact H) | (have H2_ := (Option.bind_some _ _).symm.trans H; rw [hy205]; with_reducible exact H2_) | (have H2_ := (Option.bind_some _ _).symm.trans H; with_reducible exact H2_) | with_reducible exact H | (rw [hy205]; exact H) | exact H
                    have Ny205 := Aside0.mk hy205
                    clear hy205
                    have H' := Aside0.mk H
                    clear H
                    try go_wp2
                    have n0_ := Aside0.mk (Kd.R_drew HO_4.out)
                    have n1_ := Aside0.mk (below_drew1 HB.out)
                    clear HO_4
                    clear HB
                    have HO_4 := n0_
                    have HB := n1_
                    clear n0_ n1_
                    have p4 : 0 ≤ (x5_1 : Int) := of_decide_eq_true (by first | (with_reducible assumption) | assumption)
                    have q4 : x5_1 < (a0.size : Int) := of_decide_eq_true (by first | (with_reducible assumption) | assumption)
                    have hx4 := bt_at a0 x5_1
                    replace p4 := eq_true p4
                    replace q4 := eq_true q4
                    have p8 : 0 ≤ ((ji5) : Int) := of_decide_eq_true (by first | (with_reducible assumption) | assumption)
                    have q8 : (ji5) < (16 : Int) := of_decide_eq_true (by first | (with_reducible assumption) | assumption)
                    have hx8 := bt_at (⟨#[48, 49, 50, 51, 52, 53, 54, 55, 56, 57, 97, 98, 99, 100, 101, 102]⟩ : ByteArray) (ji5)
                    replace p8 := eq_true p8
                    replace q8 := eq_true q8
                    have p9 : 0 ≤ (x5_1 : Int) := of_decide_eq_true (by first | (with_reducible assumption) | assumption)
                    have q9 : x5_1 < (a0.size : Int) := of_decide_eq_true (by first | (with_reducible assumption) | assumption)
                    have hx9 := bt_at a0 x5_1
                    replace p9 := eq_true p9
                    replace q9 := eq_true q9
                    have p13 : 0 ≤ ((ji10) : Int) := of_decide_eq_true (by first | (with_reducible assumption) | assumption)
                    have q13 : (ji10) < (16 : Int) := of_decide_eq_true (by first | (with_reducible assumption) | assumption)
                    have hx13 := bt_at (⟨#[48, 49, 50, 51, 52, 53, 54, 55, 56, 57, 97, 98, 99, 100, 101, 102]⟩ : ByteArray) (ji10)
                    replace p13 := eq_true p13
                    replace q13 := eq_true q13
                    refine start_ (n := 16) (S := fun w' => True) (ds := []) #[false, false, false, false, false, false, false, false, false, false, false, false, false, false, false, false] (by kernel_rfl) rfl rfl trivial (fun hHeld => ?_); refine with_tabW weighhouseref02_Hex.tab6 weighhouseref02_Hex.bits6 (fun HT_ HW_ => ?_)
                    generalize wr.drew = w15 at HO_4 HB hHeld ⊢
                    refine pure_ (i := 0) (N := some 12) (v := ?_) (a' := ?_) #[true, false, false, false, false, false, false, false, false, false, false, false, false, false, false, false] rfl rfl (any_of HT_.out (by kernel_rfl)) (fun _ _ _ h => h) (Or.inl ⟨by rfl, ?_⟩) ?_ ?_
                    rotate_left
                    · intro w'
                      go_simp
                      with_reducible rfl
                    rotate_left
                    · simp only [Act.put, List.setIfInBounds_toArray, List.set_cons_zero, List.set_cons_succ, i64_w, i32_w]
                      rfl
                    refine pure_ (i := 1) (N := some 13) (v := ?_) (a' := ?_) #[true, true, false, false, false, false, false, false, false, false, false, false, false, false, false, false] rfl rfl (any_of HT_.out (by kernel_rfl)) (fun _ _ _ h => h) (Or.inl ⟨by rfl, ?_⟩) ?_ ?_
                    rotate_left
                    · intro w'
                      go_simp
                      with_reducible rfl
                    rotate_left
                    · simp only [Act.put, List.setIfInBounds_toArray, List.set_cons_zero, List.set_cons_succ, i64_w, i32_w]
                      rfl
                    refine pure_ (i := 2) (N := some 14) (v := ?_) (a' := ?_) #[true, true, true, false, false, false, false, false, false, false, false, false, false, false, false, false] rfl rfl (any_of HT_.out (by kernel_rfl)) (fun _ _ _ h => h) (Or.inl ⟨by rfl, ?_⟩) ?_ ?_
                    rotate_left
                    · intro w'
                      go_simp
                      with_reducible rfl
                    rotate_left
                    · simp only [Act.put, List.setIfInBounds_toArray, List.set_cons_zero, List.set_cons_succ, i64_w, i32_w]
                      rfl
                    refine pure_ (i := 3) (N := some 15) (v := ?_) (a' := ?_) #[true, true, true, true, false, false, false, false, false, false, false, false, false, false, false, false] rfl rfl (any_of HT_.out (by kernel_rfl)) (fun _ _ _ h => h) (Or.inl ⟨by rfl, ?_⟩) ?_ ?_
                    rotate_left
                    · intro w'
                      go_simp
                      with_reducible rfl
                    rotate_left
                    · simp only [Act.put, List.setIfInBounds_toArray, List.set_cons_zero, List.set_cons_succ, i64_w, i32_w]
                      rfl
                    refine pure_ (i := 7) (N := some 19) (v := ?_) (a' := ?_) #[true, true, true, true, false, false, false, true, false, false, false, false, false, false, false, false] rfl rfl (any_of HT_.out (by kernel_rfl)) (fun _ _ _ h => h) (Or.inl ⟨by rfl, ?_⟩) ?_ ?_
                    rotate_left
                    · intro w'
                      go_simp
                      with_reducible rfl
                    rotate_left
                    · simp only [Act.put, List.setIfInBounds_toArray, List.set_cons_zero, List.set_cons_succ, i64_w, i32_w]
                      rfl
                    refine pure_ (i := 8) (N := some 20) (v := ?_) (a' := ?_) #[true, true, true, true, false, false, false, true, true, false, false, false, false, false, false, false] rfl rfl (any_of HT_.out (by kernel_rfl)) (fun _ _ _ h => h) (Or.inl ⟨by rfl, ?_⟩) ?_ ?_
                    rotate_left
                    · intro w'
                      go_simp
                      with_reducible rfl
                    rotate_left
                    · simp only [Act.put, List.setIfInBounds_toArray, List.set_cons_zero, List.set_cons_succ, i64_w, i32_w]
                      rfl
                    refine pure_ (i := 9) (N := some 21) (v := ?_) (a' := ?_) #[true, true, true, true, false, false, false, true, true, true, false, false, false, false, false, false] rfl rfl (any_of HT_.out (by kernel_rfl)) (fun _ _ _ h => h) (Or.inl ⟨by rfl, ?_⟩) ?_ ?_
                    rotate_left
                    · intro w'
                      go_simp
                      with_reducible rfl
                    rotate_left
                    · simp only [Act.put, List.setIfInBounds_toArray, List.set_cons_zero, List.set_cons_succ, i64_w, i32_w]
                      rfl
                    refine take_ (i := 4) (N := some 16) (v := ?_) (a' := ?_) #[true, true, true, true, true, false, false, true, true, true, false, false, false, false, false, false] rfl rfl (take_ofW HT_.out HW_.out (by kernel_rfl)) (fun _ _ _ h => h) (Or.inl ⟨by rfl, ?_⟩) hHeld ?_ ?_
                    rotate_left
                    · intro w' _
                      go_simp
                      first | with_reducible rfl | exact idx_hex _ ji10 _ _ _ (by first | exact hji10 | (rw [← hji10]; first | rfl | simp [IntKind.wrap] | (unfold IntKind.wrap; rfl))) (of_decide_eq_true (by assumption)) (of_decide_eq_true (by assumption)) | exact idx_hex _ ji5 _ _ _ (by first | exact hji5 | (rw [← hji5]; first | rfl | simp [IntKind.wrap] | (unfold IntKind.wrap; rfl))) (of_decide_eq_true (by assumption)) (of_decide_eq_true (by assumption))
                    rotate_left
                    · simp only [Act.put, List.setIfInBounds_toArray, List.set_cons_zero, List.set_cons_succ, i64_w, i32_w]
                      rfl
                    refine pure_ (i := 5) (N := some 17) (v := ?_) (a' := ?_) #[true, true, true, true, true, true, false, true, true, true, false, false, false, false, false, false] rfl rfl (any_of HT_.out (by kernel_rfl)) (fun _ _ _ h => h) (Or.inl ⟨by rfl, ?_⟩) ?_ ?_
                    rotate_left
                    · intro w'
                      go_simp
                      with_reducible rfl
                    rotate_left
                    · simp only [Act.put, List.setIfInBounds_toArray, List.set_cons_zero, List.set_cons_succ, i64_w, i32_w]
                      rfl
                    refine take_ (i := 6) (N := some 18) (v := ?_) (a' := ?_) #[true, true, true, true, true, true, true, true, true, true, false, false, false, false, false, false] rfl rfl (take_ofW HT_.out HW_.out (by kernel_rfl)) (fun _ _ _ h => h) (Or.inl ⟨by rfl, ?_⟩) hHeld ?_ ?_
                    rotate_left
                    · intro w' _
                      go_simp
                      first | with_reducible rfl | exact idx_hex _ ji10 _ _ _ (by first | exact hji10 | (rw [← hji10]; first | rfl | simp [IntKind.wrap] | (unfold IntKind.wrap; rfl))) (of_decide_eq_true (by assumption)) (of_decide_eq_true (by assumption)) | exact idx_hex _ ji5 _ _ _ (by first | exact hji5 | (rw [← hji5]; first | rfl | simp [IntKind.wrap] | (unfold IntKind.wrap; rfl))) (of_decide_eq_true (by assumption)) (of_decide_eq_true (by assumption))
                    rotate_left
                    · simp only [Act.put, List.setIfInBounds_toArray, List.set_cons_zero, List.set_cons_succ, i64_w, i32_w]
                      rfl
                    refine take_ (i := 10) (N := some 22) (v := ?_) (a' := ?_) #[true, true, true, true, true, true, true, true, true, true, true, false, false, false, false, false] rfl rfl (take_ofW HT_.out HW_.out (by kernel_rfl)) (fun _ _ _ h => h) (Or.inl ⟨by rfl, ?_⟩) hHeld ?_ ?_
                    rotate_left
                    · intro w' _
                      go_simp
                      first | with_reducible rfl | exact idx_hex _ ji10 _ _ _ (by first | exact hji10 | (rw [← hji10]; first | rfl | simp [IntKind.wrap] | (unfold IntKind.wrap; rfl))) (of_decide_eq_true (by assumption)) (of_decide_eq_true (by assumption)) | exact idx_hex _ ji5 _ _ _ (by first | exact hji5 | (rw [← hji5]; first | rfl | simp [IntKind.wrap] | (unfold IntKind.wrap; rfl))) (of_decide_eq_true (by assumption)) (of_decide_eq_true (by assumption))
                    rotate_left
                    · simp only [Act.put, List.setIfInBounds_toArray, List.set_cons_zero, List.set_cons_succ, i64_w, i32_w]
                      rfl
                    refine pure_ (i := 11) (N := some 23) (v := ?_) (a' := ?_) #[true, true, true, true, true, true, true, true, true, true, true, true, false, false, false, false] rfl rfl (any_of HT_.out (by kernel_rfl)) (fun _ _ _ h => h) (Or.inl ⟨by rfl, ?_⟩) ?_ ?_
                    rotate_left
                    · intro w'
                      go_simp
                      with_reducible rfl
                    rotate_left
                    · simp only [Act.put, List.setIfInBounds_toArray, List.set_cons_zero, List.set_cons_succ, i64_w, i32_w]
                      rfl
                    refine take_ (i := 12) (N := some 24) (v := ?_) (a' := ?_) #[true, true, true, true, true, true, true, true, true, true, true, true, true, false, false, false] rfl rfl (take_ofW HT_.out HW_.out (by kernel_rfl)) (fun _ _ _ h => h) (Or.inl ⟨by rfl, ?_⟩) hHeld ?_ ?_
                    rotate_left
                    · intro w' _
                      go_simp
                      first | with_reducible rfl | exact idx_hex _ ji10 _ _ _ (by first | exact hji10 | (rw [← hji10]; first | rfl | simp [IntKind.wrap] | (unfold IntKind.wrap; rfl))) (of_decide_eq_true (by assumption)) (of_decide_eq_true (by assumption)) | exact idx_hex _ ji5 _ _ _ (by first | exact hji5 | (rw [← hji5]; first | rfl | simp [IntKind.wrap] | (unfold IntKind.wrap; rfl))) (of_decide_eq_true (by assumption)) (of_decide_eq_true (by assumption))
                    rotate_left
                    · simp only [Act.put, List.setIfInBounds_toArray, List.set_cons_zero, List.set_cons_succ, i64_w, i32_w]
                      rfl
                    refine one_ (i := 13) (N := some 25) #[true, true, true, true, true, true, true, true, true, true, true, true, true, true, false, false] rfl rfl (one_of HT_.out (by kernel_rfl)) (by decide) (fun K hK => ?_)
                    refine Kd.R_lit_step (Kd.int .u8) _ 5 ?hg (N := 25) ?hd (xs := ([bt (⟨#[48, 49, 50, 51, 52, 53, 54, 55, 56, 57, 97, 98, 99, 100, 101, 102]⟩ : ByteArray) (ji5), bt (⟨#[48, 49, 50, 51, 52, 53, 54, 55, 56, 57, 97, 98, 99, 100, 101, 102]⟩ : ByteArray) (ji10)] : List Int)) (inner := [.int .u8 (bt (⟨#[48, 49, 50, 51, 52, 53, 54, 55, 56, 57, 97, 98, 99, 100, 101, 102]⟩ : ByteArray) (ji5)), .int .u8 (bt (⟨#[48, 49, 50, 51, 52, 53, 54, 55, 56, 57, 97, 98, 99, 100, 101, 102]⟩ : ByteArray) (ji10))]) (ok := fun _ => True) (okp := fun _ => True) ?hr ?hp (fun _ hk => hk) trivial (Below.refl _ _) (Nat.le_refl _) (by simp) ?_; (case hd => rfl); (case hg => rfl); (case hr => first | (go_simp; done) | (go_simp; rfl)); (case hp => exact (Reps.one (show Kd.M (Kd.int .u8) _ _ _ (bt (⟨#[48, 49, 50, 51, 52, 53, 54, 55, 56, 57, 97, 98, 99, 100, 101, 102]⟩ : ByteArray) (ji5)) [.int .u8 (bt (⟨#[48, 49, 50, 51, 52, 53, 54, 55, 56, 57, 97, 98, 99, 100, 101, 102]⟩ : ByteArray) (ji5))] from rfl) (Reps.one (show Kd.M (Kd.int .u8) _ _ _ (bt (⟨#[48, 49, 50, 51, 52, 53, 54, 55, 56, 57, 97, 98, 99, 100, 101, 102]⟩ : ByteArray) (ji10)) [.int .u8 (bt (⟨#[48, 49, 50, 51, 52, 53, 54, 55, 56, 57, 97, 98, 99, 100, 101, 102]⟩ : ByteArray) (ji10))] from rfl) (Reps.none _ _))))
                    intro v203 w16 ho17 hb hg_ hnew_
                    clear hg_ hnew_
                    (first | rw [← Ny202.out] at ho17 | (simp only [Int.reduceToNat] at ho17; rw [← Ny202.out] at ho17))
                    have n0_ := Aside0.mk (Kd.R_elder' (by (with_reducible repeat (first | apply Kd.R_alloc | apply Kd.R_drewN | apply Kd.R_drew)); exact HO_4.out) (Kd.R_base ho17) hb)
                    have n1_ := Aside0.mk (Kd.R_lower (Kd.R_new' ho17 (Kd.R_lt (by (with_reducible repeat (first | apply Kd.R_alloc | apply Kd.R_drewN | apply Kd.R_drew)); exact HO_4.out))) (below_size (by repeat (first | (with_reducible first | exact HB.out | apply below_alloc | apply pw_below_drewN | apply below_drew1) | exact HB.out))))
                    have n2_ := Aside0.mk (below_step (by repeat (first | (with_reducible first | exact HB.out | apply below_alloc | apply pw_below_drewN | apply below_drew1) | exact HB.out)) hb)
                    clear HO_4
                    clear HB
                    have HO_4 := n0_
                    have HO204 := n1_
                    have HB := n2_
                    clear n0_ n1_ n2_
                    clear hb ho17
                    obtain ⟨Ao19, co19, eo19⟩ := Kd.R_slice HO204.out
                    (first | subst eo19 | (injection eo19 with f1_ f2_ f3_; have f4_ := f1_.symm; have f5_ := f3_.symm; clear f1_ f2_ f3_; subst f4_; subst f5_))
                    refine hK.out _ _ trivial (fun hHeld => ?_)
                    clear hK K
                    refine norm_ (a' := ?_) ?_ ?_
                    rotate_left
                    · show Act.put _ (some 25) _ = _
                      simp only [Act.put, List.setIfInBounds_toArray, List.set_cons_zero, List.set_cons_succ, i64_w, i32_w]
                      rfl
                    refine one_ (i := 14) (N := some 26) #[true, true, true, true, true, true, true, true, true, true, true, true, true, true, true, false] rfl rfl (one_of HT_.out (by kernel_rfl)) (by decide) (fun K hK => ?_)
                    refine Kd.R_append_rows_step (Kd.int .u8) (w0 := w) w.heap.size (by rfl) (.tmp 12) (.tmp 25) 60 5 (.int .u8 0) 1 rfl Tryd.underlying60 info5 rfl (by decide) (by omega) u4 x4_1 y202 _ _ _ (fun k_ => some k_ ≠ (.slice Ao19 y202.length co19 : Value).ownBlock) (fun _ => False) rfl rfl ?aO ?aR (fun _ _ h => h) (fun _ h => h.elim) ?aF ?aB ?aS ?aL ?_
                    (case aR => repeat (first | exact (Kd.R_reads' HO204.out).2.2 | (with_reducible refine Kd.C_alloc ?_ _) | (with_reducible refine Kd.C_drewN ?_ _) | (with_reducible refine Kd.C_drew ?_)))
                    (case aB => exact (by repeat (first | (with_reducible first | exact HB.out | apply below_alloc | apply pw_below_drewN | apply below_drew1) | exact HB.out)))
                    (case aF => exact (fun k_ hk => Kd.fresh' (Kd.R_lt (by (with_reducible repeat (first | apply Kd.R_alloc | apply Kd.R_drewN | apply Kd.R_drew)); exact HO204.out)) k_ hk))
                    (case aO => exact (by (with_reducible repeat (first | apply Kd.R_alloc | apply Kd.R_drewN | apply Kd.R_drew)); exact Kd.R_mono HO_4.out (fun _ hk => hk.2)))
                    (case aS => exact (below_size (by repeat (first | (with_reducible first | exact HB.out | apply below_alloc | apply pw_below_drewN | apply below_drew1) | exact HB.out))))
                    (case aL => have := LMc14.out; omega)
                    intro v206 w18 ho hb hg hat
                    rw [← Ny205.out] at ho
                    have n0_ := Aside0.mk (Kd.R_after (ok := (fun _ => True)) (by (with_reducible repeat (first | apply Kd.R_alloc | apply Kd.R_drewN | apply Kd.R_drew)); exact HO204.out) hg hat)
                    have n1_ := Aside0.mk (hb)
                    have n2_ := Aside0.mk (ho)
                    clear HO204
                    clear HB
                    clear HO_4
                    have HO204 := n0_
                    have HB := n1_
                    have HO207 := n2_
                    clear n0_ n1_ n2_
                    clear ho hb hg hat
                    refine hK.out _ _ trivial (fun hHeld => ?_)
                    clear hK K
                    refine norm_ (a' := ?_) ?_ ?_
                    rotate_left
                    · show Act.put _ (some 26) _ = _
                      simp only [Act.put, List.setIfInBounds_toArray, List.set_cons_zero, List.set_cons_succ, i64_w, i32_w]
                      rfl
                    refine pure_ (i := 15) (N := some 4) (v := ?_) (a' := ?_) #[true, true, true, true, true, true, true, true, true, true, true, true, true, true, true, true] rfl rfl (any_of HT_.out (by kernel_rfl)) (fun _ _ _ h => h) (Or.inl ⟨by rfl, ?_⟩) ?_ ?_
                    rotate_left
                    · intro w'
                      go_simp
                      with_reducible rfl
                    rotate_left
                    · simp only [Act.put, List.setIfInBounds_toArray, List.set_cons_zero, List.set_cons_succ, i64_w, i32_w]
                      rfl
                    refine done_ (done_of HT_.out (by kernel_rfl)) ?_
                    try go_wp2
                    go_roundg k1
                    case measure => have := HK1.out; omega
                    case rel => exact ⟨(y205), (wrap64 (x5_1 + 1)), (by first | rfl | (simp; done) | (simp [*]; done)), (by first | exact H' | exact ⟨by rw [hji10]; exact H'.out⟩ | exact ⟨by simp only [hji10]; exact H'.out⟩), ⟨by have := HK1.out; omega⟩, ⟨by (with_reducible repeat (first | apply Kd.R_alloc | apply Kd.R_drewN | apply Kd.R_drew)); exact Kd.R_mono HO207.out (fun _ hk => trivial)⟩, ⟨by repeat (first | (with_reducible first | exact HB.out | apply below_alloc | apply pw_below_drewN | apply below_drew1) | exact HB.out)⟩⟩
                  · rw [if_neg c14] at H
                    exact absurd H (by simp)
                · rw [if_neg c12] at H
                  exact absurd H (by simp)
              · rw [if_neg c11] at H
                exact absurd H (by simp)
            · rw [if_neg c7] at H
              exact absurd H (by simp)
          · rw [if_neg c6] at H
            exact absurd H (by simp)
        · rw [if_neg c3] at H
          exact absurd H (by simp)
      · rw [if_neg c2] at H
        have c2b0 : decide (x5_1 < (a0.size : Int)) = false := decide_eq_false c2
        clear c2
        obtain rfl := Option.some.inj H
        have hcv20 := own_string (P := Tryd.prog) Tryd.underlying60 Tryd.underlying5 Tryd.underlying9 (Kd.own_of_R HO_4.out)
        go_wp2
        go_ret
        exact ⟨by first | rfl | (simp [errW_none, errW_some] <;> rfl) | (simp [*, errW_none, errW_some] <;> rfl), by repeat (first | (with_reducible first | exact HB.out | apply below_alloc | apply pw_below_drewN | apply below_drew1) | exact HB.out)⟩

end Go.Proofs.YtblaibigjhlblaaDoor.Q
end

section
-- written by hprint.py (a program of these sessions) out of the translation; Lean checks it
namespace Go.Proofs.YtblaibigjhlblaaDoor.Q
open Go.RowKit Go.Proofs.YtblaibigjhlblaaDoorW.Hb Go.Proofs.YtblaibigjhlblaaDoorW.PrintWords Go.Proofs.YtblaibigjhlblaaDoorW.PrintLast Go.Proofs.YtblaibigjhlblaaDoorW.PrintMore
attribute [local go_sem] max2_int min2_int max_two min_two max_three min_three max_four min_four   -- for this text's walks alone
set_option linter.unusedVariables false
set_option linter.unusedSimpArgs false

/-! ### weighhouseref02_One: function 34 -/
def weighhouseref02_One.f (k : Nat) (a0_0 : Int) (a0_1 : Int) (a0_2 : ByteArray) : Option (ByteArray) := if a0_0 = 1 then ((weighhouseref02_Digits.f k a0_1).bind fun t209 => (some t209)) else (if a0_0 = 2 then ((weighhouseref02_Hex.f k a0_2).bind fun t210 => (if 2 + t210.size ≤ 9223372036854775807 then (if ((⟨#[120, 39]⟩ : ByteArray) ++ t210).size + 1 ≤ 9223372036854775807 then (some (((⟨#[120, 39]⟩ : ByteArray) ++ t210) ++ (⟨#[39]⟩ : ByteArray))) else (none)) else (none))) else (if a0_1 = 1 then (some (⟨#[116, 114, 117, 101]⟩ : ByteArray)) else (some (⟨#[102, 97, 108, 115, 101]⟩ : ByteArray))))
theorem weighhouseref02_One.mono : ∀ a0 a1 a2 k, LeO (weighhouseref02_One.f k a0 a1 a2) (weighhouseref02_One.f (k + 1) a0 a1 a2) := by
  intro a0 a1 a2 k
  unfold weighhouseref02_One.f
  repeat' first
      | (with_reducible exact weighhouseref02_Digits.mono _ _)
      | (with_reducible exact weighhouseref02_Hex.mono _ _)
      | (with_reducible exact LeO.refl _)
      | (with_reducible exact LeO.none _)
      | (with_reducible refine LeO.ite ?_ ?_)
      | (with_reducible refine LeO.bind ?_ (fun _ => ?_))
      | exact weighhouseref02_Digits.mono _ _
      | exact weighhouseref02_Hex.mono _ _
      | exact LeO.none _
      | refine LeO.ite ?_ ?_
      | refine LeO.bind ?_ (fun _ => ?_)
set_option maxHeartbeats 8000000 in
set_option maxRecDepth 100000 in
theorem weighhouseref02_One.calls (k : Nat) (a0_0 : Int) (a0_1 : Int) (a0_2 : ByteArray) (r : ByteArray) (w : World) (h : weighhouseref02_One.f k a0_0 a0_1 a0_2 = some r) :
    Calls Tryd.prog 34 #[.agg #[.int .i64 a0_0, .int .i64 a0_1, .string a0_2]] w fun e w' => e = .returned (.string r) ∧ Below w.heap.size w w' := by
  have hu37 := Tryd.underlying37
  have HB := Aside0.mk (Below.refl w.heap.size w)
  have H : (if a0_0 = 1 then ((weighhouseref02_Digits.f k a0_1).bind fun t209 => (some t209)) else (if a0_0 = 2 then ((weighhouseref02_Hex.f k a0_2).bind fun t210 => (if 2 + t210.size ≤ 9223372036854775807 then (if ((⟨#[120, 39]⟩ : ByteArray) ++ t210).size + 1 ≤ 9223372036854775807 then (some (((⟨#[120, 39]⟩ : ByteArray) ++ t210) ++ (⟨#[39]⟩ : ByteArray))) else (none)) else (none))) else (if a0_1 = 1 then (some (⟨#[116, 114, 117, 101]⟩ : ByteArray)) else (some (⟨#[102, 97, 108, 115, 101]⟩ : ByteArray))))) = some r := h
  clear h
  by_cases c2 : a0_0 = 1
  · rw [if_pos c2] at H
    have c2b0 : (a0_0 == 1) = true := beq_iff_eq.mpr c2
    have c2b1 : (a0_0 != 1) = false := bne_eq_false_iff_eq.mpr c2
    clear c2
    replace H := Option.bind_eq_some_iff.mp H
    obtain ⟨t209, A30, H⟩ := H
    replace H : (some t209) = some r := H
    have A3 := Aside0.mk A30
    clear A30
    obtain rfl := Option.some.inj H
    go_enter Tryd.func34, Tryd.ntmps34
    go_wp2_with (first | ((with_reducible refine gate_dst (N := 1) rfl ?_); refine box_event ?hg (N := 1) ?hd (cs := #[.int .i64 a0_0, .int .i64 a0_1, .string a0_2]) (t := 37) ?hr ?_; (case hd => rfl); (case hg => rfl); (case hr => first | (go_simp; done) | (go_simp; rfl)); intro gb208 hg w4 hbox hb; have n0_ := Aside0.mk (below_step (by repeat (first | (with_reducible first | exact HB.out | apply below_alloc | apply pw_below_drewN | apply below_drew1) | exact HB.out)) hb); have n1_ := Aside0.mk (hbox); have n2_ := Aside0.mk ((by rw [hg]; exact (below_size (by repeat (first | (with_reducible first | exact HB.out | apply below_alloc | apply pw_below_drewN | apply below_drew1) | exact HB.out))) : w.heap.size ≤ gb208)); have n3_ := Aside0.mk ((by rw [hg]; exact (below_size (by repeat (first | (with_reducible first | exact HB.out | apply below_alloc | apply pw_below_drewN | apply below_drew1) | exact HB.out))) : w.heap.size ≤ gb208)); clear HB; have HB := n0_; have BK208 := n1_; have GW208 := n2_; have GE208 := n3_; clear n0_ n1_ n2_ n3_; clear hb hbox hg; have hcz5_0 : w4.cell? ⟨gb208, 0, none⟩ = some (.int .i64 a0_0) := (blk_cell BK208.out 0).trans rfl; have hcz5_1 : w4.cell? ⟨gb208, 1, none⟩ = some (.int .i64 a0_1) := (blk_cell BK208.out 1).trans rfl; have hcz5_2 : w4.cell? ⟨gb208, 2, none⟩ = some (.string a0_2) := (blk_cell BK208.out 2).trans rfl; have hfz5_0 := blk_frozen BK208.out 0; have hfz5_1 := blk_frozen BK208.out 1; have hfz5_2 := blk_frozen BK208.out 2) | ((with_reducible refine gate_callee (f := 50) rfl ?_); refine goesL_ (some 9) rfl rfl Tryd.func50 (by kernel_rfl) rfl #[.int .i64 a0_1] rfl (by (try simp only [List.map_toArray, List.map_cons, List.map_nil]); first | done | rfl | (simp only [List.length_drop, List.length_take]; rfl)) ?_; (with_reducible refine (weighhouseref02_Digits.calls k a0_1 t209 _ A3.out).mono ?_); rintro e w6 ⟨rfl, hb⟩; refine ⟨_, rfl, ?_⟩; have n0_ := Aside0.mk (blk_below (g := gb208) (o := .cells #[.int .i64 a0_0, .int .i64 a0_1, .string a0_2] 37 (0, 0)) (by (with_reducible repeat (first | refine blk_drewN ?_ _ | refine blk_drew ?_ | refine blk_alloc ?_ _)); exact BK208.out) hb); have n1_ := Aside0.mk (below_step (by repeat (first | (with_reducible first | exact HB.out | apply below_alloc | apply pw_below_drewN | apply below_drew1 | refine below_set ?_ GE208.out) | exact HB.out)) hb); clear BK208; clear HB; have BK208 := n0_; have HB := n1_; clear n0_ n1_; (try clear hb); (try clear hb2); (try clear hk); (try clear hi)))
    go_ret
    exact ⟨by first | rfl | (simp [errW_none, errW_some] <;> rfl) | (simp [*, errW_none, errW_some] <;> rfl), by repeat (first | (with_reducible first | exact HB.out | apply below_alloc | apply pw_below_drewN | apply below_drew1 | refine below_set ?_ GE208.out) | exact HB.out)⟩
  · rw [if_neg c2] at H
    have c2b0 : (a0_0 == 1) = false := beq_eq_false_iff_ne.mpr c2
    have c2b1 : (a0_0 != 1) = true := bne_iff_ne.mpr c2
    by_cases c7 : a0_0 = 2
    · rw [if_pos c7] at H
      have c7b0 : (a0_0 == 2) = true := beq_iff_eq.mpr c7
      have c7b1 : (a0_0 != 2) = false := bne_eq_false_iff_eq.mpr c7
      clear c7
      replace H := Option.bind_eq_some_iff.mp H
      obtain ⟨t210, A80, H⟩ := H
      replace H : (if 2 + t210.size ≤ 9223372036854775807 then (if ((⟨#[120, 39]⟩ : ByteArray) ++ t210).size + 1 ≤ 9223372036854775807 then (some (((⟨#[120, 39]⟩ : ByteArray) ++ t210) ++ (⟨#[39]⟩ : ByteArray))) else (none)) else (none)) = some r := H
      have A8 := Aside0.mk A80
      clear A80
      by_cases c9 : 2 + t210.size ≤ 9223372036854775807
      · rw [if_pos c9] at H
        have c9b0 := eq_true c9
        have c9b1 : decide (2 + t210.size ≤ 9223372036854775807) = true := decide_eq_true c9
        try have c9b2 : (9223372036854775807 < 2 + t210.size) = False := eq_false (Nat.not_lt.2 c9)
        by_cases c10 : ((⟨#[120, 39]⟩ : ByteArray) ++ t210).size + 1 ≤ 9223372036854775807
        · rw [if_pos c10] at H
          have c10b0 := eq_true c10
          have c10b1 : decide (((⟨#[120, 39]⟩ : ByteArray) ++ t210).size + 1 ≤ 9223372036854775807) = true := decide_eq_true c10
          try have c10b2 : (9223372036854775807 < ((⟨#[120, 39]⟩ : ByteArray) ++ t210).size + 1) = False := eq_false (Nat.not_lt.2 c10)
          try have c10b3 : (9223372036854775807 < 2 + t210.size + 1) = False := eq_false (by have := c10; rw [ByteArray.size_append] at this; change 2 + t210.size + 1 ≤ 9223372036854775807 at this; omega)
          obtain rfl := Option.some.inj H
          go_enter Tryd.func34, Tryd.ntmps34
          go_wp2_with (first | ((with_reducible refine gate_dst (N := 1) rfl ?_); refine box_event ?hg (N := 1) ?hd (cs := #[.int .i64 a0_0, .int .i64 a0_1, .string a0_2]) (t := 37) ?hr ?_; (case hd => rfl); (case hg => rfl); (case hr => first | (go_simp; done) | (go_simp; rfl)); intro gb208 hg w11 hbox hb; have n0_ := Aside0.mk (below_step (by repeat (first | (with_reducible first | exact HB.out | apply below_alloc | apply pw_below_drewN | apply below_drew1) | exact HB.out)) hb); have n1_ := Aside0.mk (hbox); have n2_ := Aside0.mk ((by rw [hg]; exact (below_size (by repeat (first | (with_reducible first | exact HB.out | apply below_alloc | apply pw_below_drewN | apply below_drew1) | exact HB.out))) : w.heap.size ≤ gb208)); have n3_ := Aside0.mk ((by rw [hg]; exact (below_size (by repeat (first | (with_reducible first | exact HB.out | apply below_alloc | apply pw_below_drewN | apply below_drew1) | exact HB.out))) : w.heap.size ≤ gb208)); clear HB; have HB := n0_; have BK208 := n1_; have GW208 := n2_; have GE208 := n3_; clear n0_ n1_ n2_ n3_; clear hb hbox hg; have hcz12_0 : w11.cell? ⟨gb208, 0, none⟩ = some (.int .i64 a0_0) := (blk_cell BK208.out 0).trans rfl; have hcz12_1 : w11.cell? ⟨gb208, 1, none⟩ = some (.int .i64 a0_1) := (blk_cell BK208.out 1).trans rfl; have hcz12_2 : w11.cell? ⟨gb208, 2, none⟩ = some (.string a0_2) := (blk_cell BK208.out 2).trans rfl; have hfz12_0 := blk_frozen BK208.out 0; have hfz12_1 := blk_frozen BK208.out 1; have hfz12_2 := blk_frozen BK208.out 2) | ((with_reducible refine gate_callee (f := 51) rfl ?_); refine goesL_ (some 16) rfl rfl Tryd.func51 (by kernel_rfl) rfl #[.string a0_2] rfl (by (try simp only [List.map_toArray, List.map_cons, List.map_nil]); first | done | rfl | (simp only [List.length_drop, List.length_take]; rfl)) ?_; (with_reducible refine (weighhouseref02_Hex.calls k a0_2 t210 _ A8.out).mono ?_); rintro e w13 ⟨rfl, hb⟩; refine ⟨_, rfl, ?_⟩; have n0_ := Aside0.mk (blk_below (g := gb208) (o := .cells #[.int .i64 a0_0, .int .i64 a0_1, .string a0_2] 37 (0, 0)) (by (with_reducible repeat (first | refine blk_drewN ?_ _ | refine blk_drew ?_ | refine blk_alloc ?_ _)); exact BK208.out) hb); have n1_ := Aside0.mk (below_step (by repeat (first | (with_reducible first | exact HB.out | apply below_alloc | apply pw_below_drewN | apply below_drew1 | refine below_set ?_ GE208.out) | exact HB.out)) hb); clear BK208; clear HB; have BK208 := n0_; have HB := n1_; clear n0_ n1_; (try clear hb); (try clear hb2); (try clear hk); (try clear hi)))
          go_ret
          exact ⟨by first | rfl | (simp [errW_none, errW_some] <;> rfl) | (simp [*, errW_none, errW_some] <;> rfl), by repeat (first | (with_reducible first | exact HB.out | apply below_alloc | apply pw_below_drewN | apply below_drew1 | refine below_set ?_ GE208.out) | exact HB.out)⟩
        · rw [if_neg c10] at H
          exact absurd H (by simp)
      · rw [if_neg c9] at H
        exact absurd H (by simp)
    · rw [if_neg c7] at H
      have c7b0 : (a0_0 == 2) = false := beq_eq_false_iff_ne.mpr c7
      have c7b1 : (a0_0 != 2) = true := bne_iff_ne.mpr c7
      by_cases c14 : a0_1 = 1
      · rw [if_pos c14] at H
        have c14b0 : (a0_1 == 1) = true := beq_iff_eq.mpr c14
        have c14b1 : (a0_1 != 1) = false := bne_eq_false_iff_eq.mpr c14
        clear c14
        obtain rfl := Option.some.inj H
        go_enter Tryd.func34, Tryd.ntmps34
        go_wp2_with (first | ((with_reducible refine gate_dst (N := 1) rfl ?_); refine box_event ?hg (N := 1) ?hd (cs := #[.int .i64 a0_0, .int .i64 a0_1, .string a0_2]) (t := 37) ?hr ?_; (case hd => rfl); (case hg => rfl); (case hr => first | (go_simp; done) | (go_simp; rfl)); intro gb208 hg w15 hbox hb; have n0_ := Aside0.mk (below_step (by repeat (first | (with_reducible first | exact HB.out | apply below_alloc | apply pw_below_drewN | apply below_drew1) | exact HB.out)) hb); have n1_ := Aside0.mk (hbox); have n2_ := Aside0.mk ((by rw [hg]; exact (below_size (by repeat (first | (with_reducible first | exact HB.out | apply below_alloc | apply pw_below_drewN | apply below_drew1) | exact HB.out))) : w.heap.size ≤ gb208)); have n3_ := Aside0.mk ((by rw [hg]; exact (below_size (by repeat (first | (with_reducible first | exact HB.out | apply below_alloc | apply pw_below_drewN | apply below_drew1) | exact HB.out))) : w.heap.size ≤ gb208)); clear HB; have HB := n0_; have BK208 := n1_; have GW208 := n2_; have GE208 := n3_; clear n0_ n1_ n2_ n3_; clear hb hbox hg; have hcz16_0 : w15.cell? ⟨gb208, 0, none⟩ = some (.int .i64 a0_0) := (blk_cell BK208.out 0).trans rfl; have hcz16_1 : w15.cell? ⟨gb208, 1, none⟩ = some (.int .i64 a0_1) := (blk_cell BK208.out 1).trans rfl; have hcz16_2 : w15.cell? ⟨gb208, 2, none⟩ = some (.string a0_2) := (blk_cell BK208.out 2).trans rfl; have hfz16_0 := blk_frozen BK208.out 0; have hfz16_1 := blk_frozen BK208.out 1; have hfz16_2 := blk_frozen BK208.out 2))
        go_ret
        exact ⟨by first | rfl | (simp [errW_none, errW_some] <;> rfl) | (simp [*, errW_none, errW_some] <;> rfl), by repeat (first | (with_reducible first | exact HB.out | apply below_alloc | apply pw_below_drewN | apply below_drew1 | refine below_set ?_ GE208.out) | exact HB.out)⟩
      · rw [if_neg c14] at H
        have c14b0 : (a0_1 == 1) = false := beq_eq_false_iff_ne.mpr c14
        have c14b1 : (a0_1 != 1) = true := bne_iff_ne.mpr c14
        obtain rfl := Option.some.inj H
        go_enter Tryd.func34, Tryd.ntmps34
        go_wp2_with (first | ((with_reducible refine gate_dst (N := 1) rfl ?_); refine box_event ?hg (N := 1) ?hd (cs := #[.int .i64 a0_0, .int .i64 a0_1, .string a0_2]) (t := 37) ?hr ?_; (case hd => rfl); (case hg => rfl); (case hr => first | (go_simp; done) | (go_simp; rfl)); intro gb208 hg w17 hbox hb; have n0_ := Aside0.mk (below_step (by repeat (first | (with_reducible first | exact HB.out | apply below_alloc | apply pw_below_drewN | apply below_drew1) | exact HB.out)) hb); have n1_ := Aside0.mk (hbox); have n2_ := Aside0.mk ((by rw [hg]; exact (below_size (by repeat (first | (with_reducible first | exact HB.out | apply below_alloc | apply pw_below_drewN | apply below_drew1) | exact HB.out))) : w.heap.size ≤ gb208)); have n3_ := Aside0.mk ((by rw [hg]; exact (below_size (by repeat (first | (with_reducible first | exact HB.out | apply below_alloc | apply pw_below_drewN | apply below_drew1) | exact HB.out))) : w.heap.size ≤ gb208)); clear HB; have HB := n0_; have BK208 := n1_; have GW208 := n2_; have GE208 := n3_; clear n0_ n1_ n2_ n3_; clear hb hbox hg; have hcz18_0 : w17.cell? ⟨gb208, 0, none⟩ = some (.int .i64 a0_0) := (blk_cell BK208.out 0).trans rfl; have hcz18_1 : w17.cell? ⟨gb208, 1, none⟩ = some (.int .i64 a0_1) := (blk_cell BK208.out 1).trans rfl; have hcz18_2 : w17.cell? ⟨gb208, 2, none⟩ = some (.string a0_2) := (blk_cell BK208.out 2).trans rfl; have hfz18_0 := blk_frozen BK208.out 0; have hfz18_1 := blk_frozen BK208.out 1; have hfz18_2 := blk_frozen BK208.out 2))
        go_ret
        exact ⟨by first | rfl | (simp [errW_none, errW_some] <;> rfl) | (simp [*, errW_none, errW_some] <;> rfl), by repeat (first | (with_reducible first | exact HB.out | apply below_alloc | apply pw_below_drewN | apply below_drew1 | refine below_set ?_ GE208.out) | exact HB.out)⟩

end Go.Proofs.YtblaibigjhlblaaDoor.Q
end

section
-- written by hprint.py (a program of these sessions) out of the translation; Lean checks it
namespace Go.Proofs.YtblaibigjhlblaaDoor.Q
open Go.RowKit Go.Proofs.YtblaibigjhlblaaDoorW.Hb Go.Proofs.YtblaibigjhlblaaDoorW.PrintWords Go.Proofs.YtblaibigjhlblaaDoorW.PrintLast Go.Proofs.YtblaibigjhlblaaDoorW.PrintMore
attribute [local go_sem] max2_int min2_int max_two min_two max_three min_three max_four min_four   -- for this text's walks alone
set_option linter.unusedVariables false
set_option linter.unusedSimpArgs false

/-! ### weighhouseref02_Print: function 11 -/
def weighhouseref02_Print.l0 : Nat → List (S37) → ByteArray → Int → Option (ByteArray)
  | 0, _, _, _ => none
  | k + 1, x0, x3, x4 => if x4 < (x0.length : Int) then (if x4 > 0 then (if x3.size + 1 ≤ 9223372036854775807 then (if 0 ≤ x4 then ((weighhouseref02_One.f k ((rd_T37 x0 x4).f0) ((rd_T37 x0 x4).f1) ((rd_T37 x0 x4).f2)).bind fun t213 => (if (x3 ++ (⟨#[32]⟩ : ByteArray)).size + t213.size ≤ 9223372036854775807 then (weighhouseref02_Print.l0 k x0 ((x3 ++ (⟨#[32]⟩ : ByteArray)) ++ t213) (wrap64 (x4 + 1))) else (none))) else (none)) else (none)) else (if 0 ≤ x4 then ((weighhouseref02_One.f k ((rd_T37 x0 x4).f0) ((rd_T37 x0 x4).f1) ((rd_T37 x0 x4).f2)).bind fun t215 => (if x3.size + t215.size ≤ 9223372036854775807 then (weighhouseref02_Print.l0 k x0 (x3 ++ t215) (wrap64 (x4 + 1))) else (none))) else (none))) else (some x3)
def weighhouseref02_Print.f (k : Nat) (l0 : List (S37)) : Option (ByteArray) := (weighhouseref02_All.f k l0).bind fun t211 => (if t211 = true then (weighhouseref02_Print.l0 k l0 (⟨#[]⟩ : ByteArray) 0) else (some (⟨#[]⟩ : ByteArray)))
theorem weighhouseref02_Print.mono_l : ∀ k, (∀ y0 y1 y2, LeO (weighhouseref02_Print.l0 k y0 y1 y2) (weighhouseref02_Print.l0 (k + 1) y0 y1 y2))
  | 0 => fun _ _ _ r h => by simp [weighhouseref02_Print.l0] at h
  | k + 1 => by
    have ih0 := weighhouseref02_Print.mono_l k
    · intro y0 y1 y2
      unfold weighhouseref02_Print.l0
      repeat' first
      | (with_reducible exact ih0 _ _ _)
      | (with_reducible exact weighhouseref02_All.mono _ _)
      | (with_reducible exact weighhouseref02_One.mono _ _ _ _)
      | (with_reducible exact LeO.refl _)
      | (with_reducible exact LeO.none _)
      | (with_reducible refine LeO.ite ?_ ?_)
      | (with_reducible refine LeO.bind ?_ (fun _ => ?_))
      | exact ih0 _ _ _
      | exact weighhouseref02_All.mono _ _
      | exact weighhouseref02_One.mono _ _ _ _
      | exact LeO.none _
      | refine LeO.ite ?_ ?_
      | refine LeO.bind ?_ (fun _ => ?_)
theorem weighhouseref02_Print.mono : ∀ a0 k, LeO (weighhouseref02_Print.f k a0) (weighhouseref02_Print.f (k + 1) a0) := by
  intro a0 k
  have ih0 := weighhouseref02_Print.mono_l k
  unfold weighhouseref02_Print.f
  repeat' first
      | (with_reducible exact ih0 _ _ _)
      | (with_reducible exact weighhouseref02_All.mono _ _)
      | (with_reducible exact weighhouseref02_One.mono _ _ _ _)
      | (with_reducible exact LeO.refl _)
      | (with_reducible exact LeO.none _)
      | (with_reducible refine LeO.ite ?_ ?_)
      | (with_reducible refine LeO.bind ?_ (fun _ => ?_))
      | exact ih0 _ _ _
      | exact weighhouseref02_All.mono _ _
      | exact weighhouseref02_One.mono _ _ _ _
      | exact LeO.none _
      | refine LeO.ite ?_ ?_
      | refine LeO.bind ?_ (fun _ => ?_)
set_option maxHeartbeats 8000000 in
set_option maxRecDepth 100000 in
theorem weighhouseref02_Print.calls (k : Nat) (A0 : Option Addr) (c0 : Nat) (l0 : List (S37)) (r : ByteArray) (w : World) (hr0 : Kd.C k37 w A0 l0.length l0) (hc0 : l0.length ≤ c0) (h : weighhouseref02_Print.f k l0 = some r) :
    Calls Tryd.prog 11 #[.slice A0 l0.length c0] w fun e w' => e = .returned (.string r) ∧ Below w.heap.size w w' := by
  have hu37 := Tryd.underlying37
  have HR0 := Aside0.mk hr0
  have HC0 := Aside0.mk hc0
  clear hr0 hc0
  have HB := Aside0.mk (Below.refl w.heap.size w)
  have H : ((weighhouseref02_All.f k l0).bind fun t211 => (if t211 = true then (weighhouseref02_Print.l0 k l0 (⟨#[]⟩ : ByteArray) 0) else (some (⟨#[]⟩ : ByteArray)))) = some r := h
  clear h
  replace H := Option.bind_eq_some_iff.mp H
  obtain ⟨t211, A20, H⟩ := H
  replace H : (if t211 = true then (weighhouseref02_Print.l0 k l0 (⟨#[]⟩ : ByteArray) 0) else (some (⟨#[]⟩ : ByteArray))) = some r := H
  have A2 := Aside0.mk A20
  clear A20
  by_cases c3 : t211 = true
  · subst c3
    have H1 : (weighhouseref02_Print.l0 k l0 (⟨#[]⟩ : ByteArray) 0) = some r := by rw [if_pos rfl] at H; exact H
    clear H
    have H := H1
    clear H1
    have H' := Aside0.mk H
    clear H
    go_enter Tryd.func11, Tryd.ntmps11
    go_wp2_with (first | ((with_reducible refine gate_callee (f := 33) rfl ?_); refine goesL_ (some 6) rfl rfl Tryd.func33 (by kernel_rfl) rfl #[.slice A0 l0.length c0] rfl (by (try simp only [List.map_toArray, List.map_cons, List.map_nil]); first | done | rfl | (simp only [List.length_drop, List.length_take]; rfl)) ?_; (with_reducible refine (weighhouseref02_All.calls k _ _ l0 true _ ?side1 ?side2 A2.out).mono ?_); (case side1 => repeat (first | exact HR0.out | (with_reducible refine Kd.C_alloc ?_ _) | (with_reducible refine Kd.C_drewN ?_ _) | (with_reducible refine Kd.C_drew ?_))); (case side2 => exact HC0.out); rintro e w4 ⟨rfl, hb⟩; refine ⟨_, rfl, ?_⟩; have n0_ := Aside0.mk (below_step (by repeat (first | (with_reducible first | exact HB.out | apply below_alloc | apply pw_below_drewN | apply below_drew1) | exact HB.out)) hb); clear HB; have HB := n0_; clear n0_; (try clear hb); (try clear hb2); (try clear hk); (try clear hi)))
    go_loopg [3, 4] k (fun kq v3 v4 w' => ∃ (x3_1 : ByteArray) (x4_1 : Int), v3 = .string x3_1 ∧ v4 = .int .i64 x4_1 ∧ Aside0 (weighhouseref02_Print.l0 kq l0 x3_1 x4_1 = some r) ∧ Aside0 (kq ≤ k) ∧ Aside0 (Below w.heap.size w w'))
    case atStart => exact ⟨((⟨#[]⟩ : ByteArray)), (0), (by first | rfl | (simp; done) | (simp [*]; done)), (by first | rfl | (simp; done) | (simp [*]; done)), H', ⟨Nat.le_refl _⟩, ⟨by repeat (first | (with_reducible first | exact HB.out | apply below_alloc | apply pw_below_drewN | apply below_drew1) | exact HB.out)⟩⟩
    case round =>
      clear H'
      try clear c1
      try clear p2
      try clear c3
      obtain ⟨x3_1, x4_1, rfl, rfl, HA, HK1, HB⟩ := hrel
      cases gk with
      | zero => exact absurd HA.out (by simp [weighhouseref02_Print.l0])
      | succ k1 =>
        have H := HA.out
        clear HA
        simp only [weighhouseref02_Print.l0] at H
        by_cases c5 : x4_1 < (l0.length : Int)
        · rw [if_pos c5] at H
          have c5b0 : decide (x4_1 < (l0.length : Int)) = true := decide_eq_true c5
          clear c5
          by_cases c6 : x4_1 > 0
          · rw [if_pos c6] at H
            have c6b0 : decide (0 < x4_1) = true := decide_eq_true c6
            clear c6
            by_cases c7 : x3_1.size + 1 ≤ 9223372036854775807
            · rw [if_pos c7] at H
              have c7b0 := eq_true c7
              have c7b1 : decide (x3_1.size + 1 ≤ 9223372036854775807) = true := decide_eq_true c7
              try have c7b2 : (9223372036854775807 < x3_1.size + 1) = False := eq_false (Nat.not_lt.2 c7)
              by_cases c8 : 0 ≤ x4_1
              · rw [if_pos c8] at H
                have c8b0 : decide (0 ≤ x4_1) = true := decide_eq_true c8
                clear c8
                replace H := Option.bind_eq_some_iff.mp H
                obtain ⟨t213, A90, H⟩ := H
                replace H : (if (x3_1 ++ (⟨#[32]⟩ : ByteArray)).size + t213.size ≤ 9223372036854775807 then (weighhouseref02_Print.l0 k1 l0 ((x3_1 ++ (⟨#[32]⟩ : ByteArray)) ++ t213) (wrap64 (x4_1 + 1))) else (none)) = some r := H
                have A9 := Aside0.mk A90
                clear A90
                by_cases c10 : (x3_1 ++ (⟨#[32]⟩ : ByteArray)).size + t213.size ≤ 9223372036854775807
                · rw [if_pos c10] at H
                  have c10b0 := eq_true c10
                  have c10b1 : decide ((x3_1 ++ (⟨#[32]⟩ : ByteArray)).size + t213.size ≤ 9223372036854775807) = true := decide_eq_true c10
                  try have c10b2 : (9223372036854775807 < (x3_1 ++ (⟨#[32]⟩ : ByteArray)).size + t213.size) = False := eq_false (Nat.not_lt.2 c10)
                  try have c10b3 : (9223372036854775807 < x3_1.size + 1 + t213.size) = False := eq_false (by have := c10; rw [ByteArray.size_append] at this; change x3_1.size + 1 + t213.size ≤ 9223372036854775807 at this; omega)
                  have H' := Aside0.mk H
                  clear H
                  have p212 : 0 ≤ (x4_1 : Int) := of_decide_eq_true (by first | (with_reducible assumption) | assumption)
                  have q212 : x4_1 < (l0.length : Int) := of_decide_eq_true (by first | (with_reducible assumption) | assumption)
                  obtain ⟨ad212, e212, hx212_0, hx212_1, hx212_2⟩ := at_T37 HR0.out x4_1 p212 q212
                  cases e212
                  replace hx212_0 := (HB.out.cell (World.block_lt_of_cell? w _ hx212_0)).trans hx212_0
                  replace hx212_1 := (HB.out.cell (World.block_lt_of_cell? w _ hx212_1)).trans hx212_1
                  replace hx212_2 := (HB.out.cell (World.block_lt_of_cell? w _ hx212_2)).trans hx212_2
                  replace p212 := eq_true p212
                  replace q212 := eq_true q212
                  go_wp2_with (first | ((with_reducible refine gate_callee (f := 34) rfl ?_); refine goesL_ (some 23) rfl rfl Tryd.func34 (by kernel_rfl) rfl #[.agg #[.int .i64 ((rd_T37 l0 x4_1).f0), .int .i64 ((rd_T37 l0 x4_1).f1), .string ((rd_T37 l0 x4_1).f2)]] rfl (by (try simp only [List.map_toArray, List.map_cons, List.map_nil]); first | done | rfl | (simp only [List.length_drop, List.length_take]; rfl)) ?_; (with_reducible refine (weighhouseref02_One.calls k1 ((rd_T37 l0 x4_1).f0) ((rd_T37 l0 x4_1).f1) ((rd_T37 l0 x4_1).f2) t213 _ A9.out).mono ?_); rintro e w11 ⟨rfl, hb⟩; refine ⟨_, rfl, ?_⟩; have n0_ := Aside0.mk (below_step (by repeat (first | (with_reducible first | exact HB.out | apply below_alloc | apply pw_below_drewN | apply below_drew1) | exact HB.out)) hb); clear HB; have HB := n0_; clear n0_; (try clear hb); (try clear hb2); (try clear hk); (try clear hi)))
                  go_roundg k1
                  case measure => have := HK1.out; omega
                  case rel => exact ⟨((x3_1 ++ (⟨#[32]⟩ : ByteArray)) ++ t213), (wrap64 (x4_1 + 1)), (by first | rfl | (simp; done) | (simp [*]; done)), (by first | rfl | (simp; done) | (simp [*]; done)), H', ⟨by have := HK1.out; omega⟩, ⟨by repeat (first | (with_reducible first | exact HB.out | apply below_alloc | apply pw_below_drewN | apply below_drew1) | exact HB.out)⟩⟩
                · rw [if_neg c10] at H
                  exact absurd H (by simp)
              · rw [if_neg c8] at H
                exact absurd H (by simp)
            · rw [if_neg c7] at H
              exact absurd H (by simp)
          · rw [if_neg c6] at H
            have c6b0 : decide (0 < x4_1) = false := decide_eq_false c6
            clear c6
            by_cases c12 : 0 ≤ x4_1
            · rw [if_pos c12] at H
              have c12b0 : decide (0 ≤ x4_1) = true := decide_eq_true c12
              clear c12
              replace H := Option.bind_eq_some_iff.mp H
              obtain ⟨t215, A130, H⟩ := H
              replace H : (if x3_1.size + t215.size ≤ 9223372036854775807 then (weighhouseref02_Print.l0 k1 l0 (x3_1 ++ t215) (wrap64 (x4_1 + 1))) else (none)) = some r := H
              have A13 := Aside0.mk A130
              clear A130
              by_cases c14 : x3_1.size + t215.size ≤ 9223372036854775807
              · rw [if_pos c14] at H
                have c14b0 := eq_true c14
                have c14b1 : decide (x3_1.size + t215.size ≤ 9223372036854775807) = true := decide_eq_true c14
                try have c14b2 : (9223372036854775807 < x3_1.size + t215.size) = False := eq_false (Nat.not_lt.2 c14)
                have H' := Aside0.mk H
                clear H
                have p214 : 0 ≤ (x4_1 : Int) := of_decide_eq_true (by first | (with_reducible assumption) | assumption)
                have q214 : x4_1 < (l0.length : Int) := of_decide_eq_true (by first | (with_reducible assumption) | assumption)
                obtain ⟨ad214, e214, hx214_0, hx214_1, hx214_2⟩ := at_T37 HR0.out x4_1 p214 q214
                cases e214
                replace hx214_0 := (HB.out.cell (World.block_lt_of_cell? w _ hx214_0)).trans hx214_0
                replace hx214_1 := (HB.out.cell (World.block_lt_of_cell? w _ hx214_1)).trans hx214_1
                replace hx214_2 := (HB.out.cell (World.block_lt_of_cell? w _ hx214_2)).trans hx214_2
                replace p214 := eq_true p214
                replace q214 := eq_true q214
                go_wp2_with (first | ((with_reducible refine gate_callee (f := 34) rfl ?_); refine goesL_ (some 23) rfl rfl Tryd.func34 (by kernel_rfl) rfl #[.agg #[.int .i64 ((rd_T37 l0 x4_1).f0), .int .i64 ((rd_T37 l0 x4_1).f1), .string ((rd_T37 l0 x4_1).f2)]] rfl (by (try simp only [List.map_toArray, List.map_cons, List.map_nil]); first | done | rfl | (simp only [List.length_drop, List.length_take]; rfl)) ?_; (with_reducible refine (weighhouseref02_One.calls k1 ((rd_T37 l0 x4_1).f0) ((rd_T37 l0 x4_1).f1) ((rd_T37 l0 x4_1).f2) t215 _ A13.out).mono ?_); rintro e w15 ⟨rfl, hb⟩; refine ⟨_, rfl, ?_⟩; have n0_ := Aside0.mk (below_step (by repeat (first | (with_reducible first | exact HB.out | apply below_alloc | apply pw_below_drewN | apply below_drew1) | exact HB.out)) hb); clear HB; have HB := n0_; clear n0_; (try clear hb); (try clear hb2); (try clear hk); (try clear hi)))
                go_roundg k1
                case measure => have := HK1.out; omega
                case rel => exact ⟨(x3_1 ++ t215), (wrap64 (x4_1 + 1)), (by first | rfl | (simp; done) | (simp [*]; done)), (by first | rfl | (simp; done) | (simp [*]; done)), H', ⟨by have := HK1.out; omega⟩, ⟨by repeat (first | (with_reducible first | exact HB.out | apply below_alloc | apply pw_below_drewN | apply below_drew1) | exact HB.out)⟩⟩
              · rw [if_neg c14] at H
                exact absurd H (by simp)
            · rw [if_neg c12] at H
              exact absurd H (by simp)
        · rw [if_neg c5] at H
          have c5b0 : decide (x4_1 < (l0.length : Int)) = false := decide_eq_false c5
          clear c5
          obtain rfl := Option.some.inj H
          go_wp2
          go_ret
          exact ⟨by first | rfl | (simp [errW_none, errW_some] <;> rfl) | (simp [*, errW_none, errW_some] <;> rfl), by repeat (first | (with_reducible first | exact HB.out | apply below_alloc | apply pw_below_drewN | apply below_drew1) | exact HB.out)⟩
  · replace c3 := Bool.eq_false_iff.mpr c3
    subst c3
    have H1 : (some (⟨#[]⟩ : ByteArray)) = some r := by rw [if_neg (show ¬ (false = true) by decide)] at H; exact H
    clear H
    have H := H1
    clear H1
    obtain rfl := Option.some.inj H
    go_enter Tryd.func11, Tryd.ntmps11
    go_wp2_with (first | ((with_reducible refine gate_callee (f := 33) rfl ?_); refine goesL_ (some 6) rfl rfl Tryd.func33 (by kernel_rfl) rfl #[.slice A0 l0.length c0] rfl (by (try simp only [List.map_toArray, List.map_cons, List.map_nil]); first | done | rfl | (simp only [List.length_drop, List.length_take]; rfl)) ?_; (with_reducible refine (weighhouseref02_All.calls k _ _ l0 false _ ?side1 ?side2 A2.out).mono ?_); (case side1 => repeat (first | exact HR0.out | (with_reducible refine Kd.C_alloc ?_ _) | (with_reducible refine Kd.C_drewN ?_ _) | (with_reducible refine Kd.C_drew ?_))); (case side2 => exact HC0.out); rintro e w16 ⟨rfl, hb⟩; refine ⟨_, rfl, ?_⟩; have n0_ := Aside0.mk (below_step (by repeat (first | (with_reducible first | exact HB.out | apply below_alloc | apply pw_below_drewN | apply below_drew1) | exact HB.out)) hb); clear HB; have HB := n0_; clear n0_; (try clear hb); (try clear hb2); (try clear hk); (try clear hi)))
    go_ret
    exact ⟨by first | rfl | (simp [errW_none, errW_some] <;> rfl) | (simp [*, errW_none, errW_some] <;> rfl), by repeat (first | (with_reducible first | exact HB.out | apply below_alloc | apply pw_below_drewN | apply below_drew1) | exact HB.out)⟩

end Go.Proofs.YtblaibigjhlblaaDoor.Q
end

section
-- written by hprint.py (a program of these sessions) out of the translation; Lean checks it
namespace Go.Proofs.YtblaibigjhlblaaDoor.Q
open Go.RowKit Go.Proofs.YtblaibigjhlblaaDoorW.Hb Go.Proofs.YtblaibigjhlblaaDoorW.PrintWords Go.Proofs.YtblaibigjhlblaaDoorW.PrintLast Go.Proofs.YtblaibigjhlblaaDoorW.PrintMore
attribute [local go_sem] max2_int min2_int max_two min_two max_three min_three max_four min_four   -- for this text's walks alone
set_option linter.unusedVariables false
set_option linter.unusedSimpArgs false

/-! ### weighhouselaw02_Same: function 12 -/
def weighhouselaw02_Same.l0 : Nat → List (S37) → List (S37) → Int → Option (Bool)
  | 0, _, _, _ => none
  | k + 1, x0, x1, x5 => if x5 < (x0.length : Int) then (if 0 ≤ x5 then (if x5 < (x1.length : Int) then (if ((rd_T37 x0 x5).f0) = ((rd_T37 x1 x5).f0) then (if ((rd_T37 x0 x5).f1) = ((rd_T37 x1 x5).f1) then (if ((rd_T37 x0 x5).f2).toList = ((rd_T37 x1 x5).f2).toList then (weighhouselaw02_Same.l0 k x0 x1 (wrap64 (x5 + 1))) else (some false)) else (some false)) else (some false)) else (none)) else (none)) else (some true)
def weighhouselaw02_Same.f (k : Nat) (l0 : List (S37)) (l1 : List (S37)) : Option (Bool) := if (l0.length : Int) = (l1.length : Int) then (weighhouselaw02_Same.l0 k l0 l1 0) else (some false)
theorem weighhouselaw02_Same.mono_l : ∀ k, (∀ y0 y1 y2, LeO (weighhouselaw02_Same.l0 k y0 y1 y2) (weighhouselaw02_Same.l0 (k + 1) y0 y1 y2))
  | 0 => fun _ _ _ r h => by simp [weighhouselaw02_Same.l0] at h
  | k + 1 => by
    have ih0 := weighhouselaw02_Same.mono_l k
    · intro y0 y1 y2
      unfold weighhouselaw02_Same.l0
      repeat' first
      | (with_reducible exact ih0 _ _ _)
      | (with_reducible exact LeO.refl _)
      | (with_reducible exact LeO.none _)
      | (with_reducible refine LeO.ite ?_ ?_)
      | (with_reducible refine LeO.bind ?_ (fun _ => ?_))
      | exact ih0 _ _ _
      | exact LeO.none _
      | refine LeO.ite ?_ ?_
      | refine LeO.bind ?_ (fun _ => ?_)
theorem weighhouselaw02_Same.mono : ∀ a0 a1 k, LeO (weighhouselaw02_Same.f k a0 a1) (weighhouselaw02_Same.f (k + 1) a0 a1) := by
  intro a0 a1 k
  have ih0 := weighhouselaw02_Same.mono_l k
  unfold weighhouselaw02_Same.f
  repeat' first
      | (with_reducible exact ih0 _ _ _)
      | (with_reducible exact LeO.refl _)
      | (with_reducible exact LeO.none _)
      | (with_reducible refine LeO.ite ?_ ?_)
      | (with_reducible refine LeO.bind ?_ (fun _ => ?_))
      | exact ih0 _ _ _
      | exact LeO.none _
      | refine LeO.ite ?_ ?_
      | refine LeO.bind ?_ (fun _ => ?_)
set_option maxHeartbeats 8000000 in
set_option maxRecDepth 100000 in
theorem weighhouselaw02_Same.calls (k : Nat) (A0 : Option Addr) (c0 : Nat) (l0 : List (S37)) (A1 : Option Addr) (c1 : Nat) (l1 : List (S37)) (r : Bool) (w : World) (hr0 : Kd.C k37 w A0 l0.length l0) (hc0 : l0.length ≤ c0) (hr1 : Kd.C k37 w A1 l1.length l1) (hc1 : l1.length ≤ c1) (h : weighhouselaw02_Same.f k l0 l1 = some r) :
    Calls Tryd.prog 12 #[.slice A0 l0.length c0, .slice A1 l1.length c1] w fun e w' => e = .returned (.bool r) ∧ Drawn0 w w' := by
  have HR0 := Aside0.mk hr0
  have HC0 := Aside0.mk hc0
  clear hr0 hc0
  have HR1 := Aside0.mk hr1
  have HC1 := Aside0.mk hc1
  clear hr1 hc1
  have H : (if (l0.length : Int) = (l1.length : Int) then (weighhouselaw02_Same.l0 k l0 l1 0) else (some false)) = some r := h
  clear h
  by_cases c3 : (l0.length : Int) = (l1.length : Int)
  · rw [if_pos c3] at H
    have c3b0 : ((l0.length : Int) == (l1.length : Int)) = true := beq_iff_eq.mpr c3
    have c3b1 : ((l0.length : Int) != (l1.length : Int)) = false := bne_eq_false_iff_eq.mpr c3
    have c3b2 : (l0.length == l1.length) = true := by first | simpa using c3 | (simp at c3 ⊢; omega)
    clear c3
    have H' := Aside0.mk H
    clear H
    go_enter Tryd.func12, Tryd.ntmps12
    go_wp2
    repeat (go_quiet (fail); try go_wp2)
    go_loopg [5] k (fun kq v5 w' => ∃ (x5_1 : Int), v5 = .int .i64 x5_1 ∧ Aside0 (weighhouselaw02_Same.l0 kq l0 l1 x5_1 = some r) ∧ Aside0 (kq ≤ k) ∧ Drawn0 w w')
    case atStart => exact ⟨(0), (by first | rfl | (simp; done) | (simp [*]; done)), H', ⟨Nat.le_refl _⟩, by repeat (first | exact Drawn0.refl _ | apply Drawn0.step)⟩
    case round =>
      clear H'
      try clear c1
      try clear p2
      try clear c3
      try clear c3b0
      try clear c3b1
      try clear c3b2
      obtain ⟨x5_1, rfl, HA, HK1, ⟨m1, rfl⟩⟩ := hrel
      cases gk with
      | zero => exact absurd HA.out (by simp [weighhouselaw02_Same.l0])
      | succ k1 =>
        have H := HA.out
        clear HA
        simp only [weighhouselaw02_Same.l0] at H
        by_cases c4 : x5_1 < (l0.length : Int)
        · rw [if_pos c4] at H
          have c4b0 : decide (x5_1 < (l0.length : Int)) = true := decide_eq_true c4
          clear c4
          by_cases c5 : 0 ≤ x5_1
          · rw [if_pos c5] at H
            have c5b0 : decide (0 ≤ x5_1) = true := decide_eq_true c5
            clear c5
            by_cases c6 : x5_1 < (l1.length : Int)
            · rw [if_pos c6] at H
              have c6b0 : decide (x5_1 < (l1.length : Int)) = true := decide_eq_true c6
              clear c6
              by_cases c7 : ((rd_T37 l0 x5_1).f0) = ((rd_T37 l1 x5_1).f0)
              · rw [if_pos c7] at H
                have c7b0 : (((rd_T37 l0 x5_1).f0) == ((rd_T37 l1 x5_1).f0)) = true := beq_iff_eq.mpr c7
                have c7b1 : (((rd_T37 l0 x5_1).f0) != ((rd_T37 l1 x5_1).f0)) = false := bne_eq_false_iff_eq.mpr c7
                clear c7
                by_cases c8 : ((rd_T37 l0 x5_1).f1) = ((rd_T37 l1 x5_1).f1)
                · rw [if_pos c8] at H
                  have c8b0 : (((rd_T37 l0 x5_1).f1) == ((rd_T37 l1 x5_1).f1)) = true := beq_iff_eq.mpr c8
                  have c8b1 : (((rd_T37 l0 x5_1).f1) != ((rd_T37 l1 x5_1).f1)) = false := bne_eq_false_iff_eq.mpr c8
                  clear c8
                  by_cases c9 : ((rd_T37 l0 x5_1).f2).toList = ((rd_T37 l1 x5_1).f2).toList
                  · rw [if_pos c9] at H
                    have c9b0 : (((rd_T37 l0 x5_1).f2).toList == ((rd_T37 l1 x5_1).f2).toList) = true := beq_iff_eq.mpr c9
                    have c9b1 : (((rd_T37 l0 x5_1).f2).toList != ((rd_T37 l1 x5_1).f2).toList) = false := bne_eq_false_iff_eq.mpr c9
                    clear c9
                    have H' := Aside0.mk H
                    clear H
                    have p216 : 0 ≤ (x5_1 : Int) := of_decide_eq_true (by first | (with_reducible assumption) | assumption)
                    have q216 : x5_1 < (l0.length : Int) := of_decide_eq_true (by first | (with_reducible assumption) | assumption)
                    obtain ⟨ad216, e216, hx216_0, hx216_1, hx216_2⟩ := at_T37 HR0.out x5_1 p216 q216
                    cases e216
                    replace p216 := eq_true p216
                    replace q216 := eq_true q216
                    have p217 : 0 ≤ (x5_1 : Int) := of_decide_eq_true (by first | (with_reducible assumption) | assumption)
                    have q217 : x5_1 < (l1.length : Int) := of_decide_eq_true (by first | (with_reducible assumption) | assumption)
                    obtain ⟨ad217, e217, hx217_0, hx217_1, hx217_2⟩ := at_T37 HR1.out x5_1 p217 q217
                    cases e217
                    replace p217 := eq_true p217
                    replace q217 := eq_true q217
                    have p218 : 0 ≤ (x5_1 : Int) := of_decide_eq_true (by first | (with_reducible assumption) | assumption)
                    have q218 : x5_1 < (l0.length : Int) := of_decide_eq_true (by first | (with_reducible assumption) | assumption)
                    obtain ⟨ad218, e218, hx218_0, hx218_1, hx218_2⟩ := at_T37 HR0.out x5_1 p218 q218
                    obtain rfl : ad216 = ad218 := (by injection e218)
                    replace p218 := eq_true p218
                    replace q218 := eq_true q218
                    have p219 : 0 ≤ (x5_1 : Int) := of_decide_eq_true (by first | (with_reducible assumption) | assumption)
                    have q219 : x5_1 < (l1.length : Int) := of_decide_eq_true (by first | (with_reducible assumption) | assumption)
                    obtain ⟨ad219, e219, hx219_0, hx219_1, hx219_2⟩ := at_T37 HR1.out x5_1 p219 q219
                    obtain rfl : ad217 = ad219 := (by injection e219)
                    replace p219 := eq_true p219
                    replace q219 := eq_true q219
                    have p220 : 0 ≤ (x5_1 : Int) := of_decide_eq_true (by first | (with_reducible assumption) | assumption)
                    have q220 : x5_1 < (l0.length : Int) := of_decide_eq_true (by first | (with_reducible assumption) | assumption)
                    obtain ⟨ad220, e220, hx220_0, hx220_1, hx220_2⟩ := at_T37 HR0.out x5_1 p220 q220
                    obtain rfl : ad216 = ad220 := (by injection e220)
                    replace p220 := eq_true p220
                    replace q220 := eq_true q220
                    have p221 : 0 ≤ (x5_1 : Int) := of_decide_eq_true (by first | (with_reducible assumption) | assumption)
                    have q221 : x5_1 < (l1.length : Int) := of_decide_eq_true (by first | (with_reducible assumption) | assumption)
                    obtain ⟨ad221, e221, hx221_0, hx221_1, hx221_2⟩ := at_T37 HR1.out x5_1 p221 q221
                    obtain rfl : ad217 = ad221 := (by injection e221)
                    replace p221 := eq_true p221
                    replace q221 := eq_true q221
                    go_wp2
                    repeat (go_quiet (fail); try go_wp2)
                    go_roundg k1
                    case measure => have := HK1.out; omega
                    case rel => exact ⟨(wrap64 (x5_1 + 1)), (by first | rfl | (simp; done) | (simp [*]; done)), H', ⟨by have := HK1.out; omega⟩, by repeat (first | exact Drawn0.refl _ | apply Drawn0.step)⟩
                  · rw [if_neg c9] at H
                    have c9b0 : (((rd_T37 l0 x5_1).f2).toList == ((rd_T37 l1 x5_1).f2).toList) = false := beq_eq_false_iff_ne.mpr c9
                    have c9b1 : (((rd_T37 l0 x5_1).f2).toList != ((rd_T37 l1 x5_1).f2).toList) = true := bne_iff_ne.mpr c9
                    obtain rfl := Option.some.inj H
                    have p216 : 0 ≤ (x5_1 : Int) := of_decide_eq_true (by first | (with_reducible assumption) | assumption)
                    have q216 : x5_1 < (l0.length : Int) := of_decide_eq_true (by first | (with_reducible assumption) | assumption)
                    obtain ⟨ad216, e216, hx216_0, hx216_1, hx216_2⟩ := at_T37 HR0.out x5_1 p216 q216
                    cases e216
                    replace p216 := eq_true p216
                    replace q216 := eq_true q216
                    have p217 : 0 ≤ (x5_1 : Int) := of_decide_eq_true (by first | (with_reducible assumption) | assumption)
                    have q217 : x5_1 < (l1.length : Int) := of_decide_eq_true (by first | (with_reducible assumption) | assumption)
                    obtain ⟨ad217, e217, hx217_0, hx217_1, hx217_2⟩ := at_T37 HR1.out x5_1 p217 q217
                    cases e217
                    replace p217 := eq_true p217
                    replace q217 := eq_true q217
                    have p218 : 0 ≤ (x5_1 : Int) := of_decide_eq_true (by first | (with_reducible assumption) | assumption)
                    have q218 : x5_1 < (l0.length : Int) := of_decide_eq_true (by first | (with_reducible assumption) | assumption)
                    obtain ⟨ad218, e218, hx218_0, hx218_1, hx218_2⟩ := at_T37 HR0.out x5_1 p218 q218
                    obtain rfl : ad216 = ad218 := (by injection e218)
                    replace p218 := eq_true p218
                    replace q218 := eq_true q218
                    have p219 : 0 ≤ (x5_1 : Int) := of_decide_eq_true (by first | (with_reducible assumption) | assumption)
                    have q219 : x5_1 < (l1.length : Int) := of_decide_eq_true (by first | (with_reducible assumption) | assumption)
                    obtain ⟨ad219, e219, hx219_0, hx219_1, hx219_2⟩ := at_T37 HR1.out x5_1 p219 q219
                    obtain rfl : ad217 = ad219 := (by injection e219)
                    replace p219 := eq_true p219
                    replace q219 := eq_true q219
                    have p220 : 0 ≤ (x5_1 : Int) := of_decide_eq_true (by first | (with_reducible assumption) | assumption)
                    have q220 : x5_1 < (l0.length : Int) := of_decide_eq_true (by first | (with_reducible assumption) | assumption)
                    obtain ⟨ad220, e220, hx220_0, hx220_1, hx220_2⟩ := at_T37 HR0.out x5_1 p220 q220
                    obtain rfl : ad216 = ad220 := (by injection e220)
                    replace p220 := eq_true p220
                    replace q220 := eq_true q220
                    have p221 : 0 ≤ (x5_1 : Int) := of_decide_eq_true (by first | (with_reducible assumption) | assumption)
                    have q221 : x5_1 < (l1.length : Int) := of_decide_eq_true (by first | (with_reducible assumption) | assumption)
                    obtain ⟨ad221, e221, hx221_0, hx221_1, hx221_2⟩ := at_T37 HR1.out x5_1 p221 q221
                    obtain rfl : ad217 = ad221 := (by injection e221)
                    replace p221 := eq_true p221
                    replace q221 := eq_true q221
                    go_wp2
                    repeat (go_quiet (fail); try go_wp2)
                    go_ret
                    exact ⟨by first | rfl | (simp; done) | (simp [*]; done), by repeat (first | exact Drawn0.refl _ | apply Drawn0.step)⟩
                · rw [if_neg c8] at H
                  have c8b0 : (((rd_T37 l0 x5_1).f1) == ((rd_T37 l1 x5_1).f1)) = false := beq_eq_false_iff_ne.mpr c8
                  have c8b1 : (((rd_T37 l0 x5_1).f1) != ((rd_T37 l1 x5_1).f1)) = true := bne_iff_ne.mpr c8
                  obtain rfl := Option.some.inj H
                  have p216 : 0 ≤ (x5_1 : Int) := of_decide_eq_true (by first | (with_reducible assumption) | assumption)
                  have q216 : x5_1 < (l0.length : Int) := of_decide_eq_true (by first | (with_reducible assumption) | assumption)
                  obtain ⟨ad216, e216, hx216_0, hx216_1, hx216_2⟩ := at_T37 HR0.out x5_1 p216 q216
                  cases e216
                  replace p216 := eq_true p216
                  replace q216 := eq_true q216
                  have p217 : 0 ≤ (x5_1 : Int) := of_decide_eq_true (by first | (with_reducible assumption) | assumption)
                  have q217 : x5_1 < (l1.length : Int) := of_decide_eq_true (by first | (with_reducible assumption) | assumption)
                  obtain ⟨ad217, e217, hx217_0, hx217_1, hx217_2⟩ := at_T37 HR1.out x5_1 p217 q217
                  cases e217
                  replace p217 := eq_true p217
                  replace q217 := eq_true q217
                  have p218 : 0 ≤ (x5_1 : Int) := of_decide_eq_true (by first | (with_reducible assumption) | assumption)
                  have q218 : x5_1 < (l0.length : Int) := of_decide_eq_true (by first | (with_reducible assumption) | assumption)
                  obtain ⟨ad218, e218, hx218_0, hx218_1, hx218_2⟩ := at_T37 HR0.out x5_1 p218 q218
                  obtain rfl : ad216 = ad218 := (by injection e218)
                  replace p218 := eq_true p218
                  replace q218 := eq_true q218
                  have p219 : 0 ≤ (x5_1 : Int) := of_decide_eq_true (by first | (with_reducible assumption) | assumption)
                  have q219 : x5_1 < (l1.length : Int) := of_decide_eq_true (by first | (with_reducible assumption) | assumption)
                  obtain ⟨ad219, e219, hx219_0, hx219_1, hx219_2⟩ := at_T37 HR1.out x5_1 p219 q219
                  obtain rfl : ad217 = ad219 := (by injection e219)
                  replace p219 := eq_true p219
                  replace q219 := eq_true q219
                  go_wp2
                  repeat (go_quiet (fail); try go_wp2)
                  go_ret
                  exact ⟨by first | rfl | (simp; done) | (simp [*]; done), by repeat (first | exact Drawn0.refl _ | apply Drawn0.step)⟩
              · rw [if_neg c7] at H
                have c7b0 : (((rd_T37 l0 x5_1).f0) == ((rd_T37 l1 x5_1).f0)) = false := beq_eq_false_iff_ne.mpr c7
                have c7b1 : (((rd_T37 l0 x5_1).f0) != ((rd_T37 l1 x5_1).f0)) = true := bne_iff_ne.mpr c7
                obtain rfl := Option.some.inj H
                have p216 : 0 ≤ (x5_1 : Int) := of_decide_eq_true (by first | (with_reducible assumption) | assumption)
                have q216 : x5_1 < (l0.length : Int) := of_decide_eq_true (by first | (with_reducible assumption) | assumption)
                obtain ⟨ad216, e216, hx216_0, hx216_1, hx216_2⟩ := at_T37 HR0.out x5_1 p216 q216
                cases e216
                replace p216 := eq_true p216
                replace q216 := eq_true q216
                have p217 : 0 ≤ (x5_1 : Int) := of_decide_eq_true (by first | (with_reducible assumption) | assumption)
                have q217 : x5_1 < (l1.length : Int) := of_decide_eq_true (by first | (with_reducible assumption) | assumption)
                obtain ⟨ad217, e217, hx217_0, hx217_1, hx217_2⟩ := at_T37 HR1.out x5_1 p217 q217
                cases e217
                replace p217 := eq_true p217
                replace q217 := eq_true q217
                go_wp2
                repeat (go_quiet (fail); try go_wp2)
                go_ret
                exact ⟨by first | rfl | (simp; done) | (simp [*]; done), by repeat (first | exact Drawn0.refl _ | apply Drawn0.step)⟩
            · rw [if_neg c6] at H
              exact absurd H (by simp)
          · rw [if_neg c5] at H
            exact absurd H (by simp)
        · rw [if_neg c4] at H
          have c4b0 : decide (x5_1 < (l0.length : Int)) = false := decide_eq_false c4
          clear c4
          obtain rfl := Option.some.inj H
          go_wp2
          repeat (go_quiet (fail); try go_wp2)
          go_ret
          exact ⟨by first | rfl | (simp; done) | (simp [*]; done), by repeat (first | exact Drawn0.refl _ | apply Drawn0.step)⟩
  · rw [if_neg c3] at H
    have c3b0 : ((l0.length : Int) == (l1.length : Int)) = false := beq_eq_false_iff_ne.mpr c3
    have c3b1 : ((l0.length : Int) != (l1.length : Int)) = true := bne_iff_ne.mpr c3
    have c3b2 : (l0.length == l1.length) = false := by first | simpa using c3 | (simp at c3 ⊢; omega)
    obtain rfl := Option.some.inj H
    go_enter Tryd.func12, Tryd.ntmps12
    go_wp2
    repeat (go_quiet (fail); try go_wp2)
    go_ret
    exact ⟨by first | rfl | (simp; done) | (simp [*]; done), by repeat (first | exact Drawn0.refl _ | apply Drawn0.step)⟩

end Go.Proofs.YtblaibigjhlblaaDoor.Q
end

section
-- written by hprint.py (a program of these sessions) out of the translation; Lean checks it
namespace Go.Proofs.YtblaibigjhlblaaDoor.Q
open Go.RowKit Go.Proofs.YtblaibigjhlblaaDoorW.Hb Go.Proofs.YtblaibigjhlblaaDoorW.PrintWords Go.Proofs.YtblaibigjhlblaaDoorW.PrintLast Go.Proofs.YtblaibigjhlblaaDoorW.PrintMore
attribute [local go_sem] max2_int min2_int max_two min_two max_three min_three max_four min_four   -- for this text's walks alone
set_option linter.unusedVariables false
set_option linter.unusedSimpArgs false

/-! ### weighhouselaw02_num: function 13 -/
def weighhouselaw02_num.f (a0 : Int) : Option (Int) := some a0
set_option maxHeartbeats 8000000 in
set_option maxRecDepth 100000 in
theorem weighhouselaw02_num.calls (a0 : Int) (r : Int) (w : World) (h : weighhouselaw02_num.f a0 = some r) :
    Calls Tryd.prog 13 #[.int .i64 a0] w fun e w' => e = .returned (.int .i64 r) ∧ Drawn0 w w' := by
  have H : (some a0) = some r := h
  clear h
  obtain rfl := Option.some.inj H
  go_enter Tryd.func13, Tryd.ntmps13
  go_wp2
  go_ret
  exact ⟨by first | rfl | (simp; done) | (simp [*]; done), by repeat (first | exact Drawn0.refl _ | apply Drawn0.step)⟩

end Go.Proofs.YtblaibigjhlblaaDoor.Q
end

section
-- written by hprint.py (a program of these sessions) out of the translation; Lean checks it
namespace Go.Proofs.YtblaibigjhlblaaDoor.Q
open Go.RowKit Go.Proofs.YtblaibigjhlblaaDoorW.Hb Go.Proofs.YtblaibigjhlblaaDoorW.PrintWords Go.Proofs.YtblaibigjhlblaaDoorW.PrintLast Go.Proofs.YtblaibigjhlblaaDoorW.PrintMore
attribute [local go_sem] max2_int min2_int max_two min_two max_three min_three max_four min_four   -- for this text's walks alone
set_option linter.unusedVariables false
set_option linter.unusedSimpArgs false

/-! ### weighhouselaw02_knows: function 14 -/
def weighhouselaw02_knows.f (k : Nat)  : Option (Bool) := (value_Number.f (-5)).bind fun bt222 => ((value_Text.f (⟨#[97]⟩ : ByteArray)).bind fun bt225 => ((value_Truth.f true).bind fun bt228 => ((value_Print.f k (([(⟨bt222.1, bt222.2.1, bt222.2.2⟩ : S37), (⟨bt225.1, bt225.2.1, bt225.2.2⟩ : S37), (⟨bt228.1, bt228.2.1, bt228.2.2⟩ : S37)] : List (S37)))).bind fun t234 => ((value_Parse.f t234).bind fun bt235 => (if t234.toList = ([45, 53, 32, 120, 39, 54, 49, 39, 32, 116, 114, 117, 101] : List UInt8) then ((weighhouselaw02_num.f bt235.2).bind fun t239 => (if t239 = 0 then (if (bt235.1.length : Int) = 3 then (if 0 < (bt235.1.length : Int) then ((value_Right.f ((rd_T37 bt235.1 0).f0) ((rd_T37 bt235.1 0).f1) ((rd_T37 bt235.1 0).f2)).bind fun t241 => (some t241)) else (none)) else (some false)) else (some false))) else (some false))))))
theorem weighhouselaw02_knows.mono : ∀ k, LeO (weighhouselaw02_knows.f k ) (weighhouselaw02_knows.f (k + 1) ) := by
  intro  k
  unfold weighhouselaw02_knows.f
  repeat' first
      | (with_reducible exact value_Print.mono _ _)
      | (with_reducible exact LeO.refl _)
      | (with_reducible exact LeO.none _)
      | (with_reducible refine LeO.ite ?_ ?_)
      | (with_reducible refine LeO.bind ?_ (fun _ => ?_))
      | exact value_Print.mono _ _
      | exact LeO.none _
      | refine LeO.ite ?_ ?_
      | refine LeO.bind ?_ (fun _ => ?_)
set_option maxHeartbeats 8000000 in
set_option maxRecDepth 100000 in
theorem weighhouselaw02_knows.calls (k : Nat)  (r : Bool) (w : World) (h : weighhouselaw02_knows.f k  = some r) (hV : VarsOk w) :
    Calls Tryd.prog 14 #[] w fun e w' => e = .returned (.bool r) ∧ Below w.heap.size w w' := by
  have hu37 := Tryd.underlying37
  have HB := Aside0.mk (Below.refl w.heap.size w)
  have HV := Aside0.mk hV
  clear hV
  have H : ((value_Number.f (-5)).bind fun bt222 => ((value_Text.f (⟨#[97]⟩ : ByteArray)).bind fun bt225 => ((value_Truth.f true).bind fun bt228 => ((value_Print.f k (([(⟨bt222.1, bt222.2.1, bt222.2.2⟩ : S37), (⟨bt225.1, bt225.2.1, bt225.2.2⟩ : S37), (⟨bt228.1, bt228.2.1, bt228.2.2⟩ : S37)] : List (S37)))).bind fun t234 => ((value_Parse.f t234).bind fun bt235 => (if t234.toList = ([45, 53, 32, 120, 39, 54, 49, 39, 32, 116, 114, 117, 101] : List UInt8) then ((weighhouselaw02_num.f bt235.2).bind fun t239 => (if t239 = 0 then (if (bt235.1.length : Int) = 3 then (if 0 < (bt235.1.length : Int) then ((value_Right.f ((rd_T37 bt235.1 0).f0) ((rd_T37 bt235.1 0).f1) ((rd_T37 bt235.1 0).f2)).bind fun t241 => (some t241)) else (none)) else (some false)) else (some false))) else (some false))))))) = some r := h
  clear h
  replace H := Option.bind_eq_some_iff.mp H
  obtain ⟨⟨t222, t223, t224⟩, A10, H⟩ := H
  replace H : ((value_Text.f (⟨#[97]⟩ : ByteArray)).bind fun bt225 => ((value_Truth.f true).bind fun bt228 => ((value_Print.f k (([(⟨t222, t223, t224⟩ : S37), (⟨bt225.1, bt225.2.1, bt225.2.2⟩ : S37), (⟨bt228.1, bt228.2.1, bt228.2.2⟩ : S37)] : List (S37)))).bind fun t234 => ((value_Parse.f t234).bind fun bt235 => (if t234.toList = ([45, 53, 32, 120, 39, 54, 49, 39, 32, 116, 114, 117, 101] : List UInt8) then ((weighhouselaw02_num.f bt235.2).bind fun t239 => (if t239 = 0 then (if (bt235.1.length : Int) = 3 then (if 0 < (bt235.1.length : Int) then ((value_Right.f ((rd_T37 bt235.1 0).f0) ((rd_T37 bt235.1 0).f1) ((rd_T37 bt235.1 0).f2)).bind fun t241 => (some t241)) else (none)) else (some false)) else (some false))) else (some false)))))) = some r := H
  have A1 := Aside0.mk A10
  clear A10
  replace H := Option.bind_eq_some_iff.mp H
  obtain ⟨⟨t225, t226, t227⟩, A20, H⟩ := H
  replace H : ((value_Truth.f true).bind fun bt228 => ((value_Print.f k (([(⟨t222, t223, t224⟩ : S37), (⟨t225, t226, t227⟩ : S37), (⟨bt228.1, bt228.2.1, bt228.2.2⟩ : S37)] : List (S37)))).bind fun t234 => ((value_Parse.f t234).bind fun bt235 => (if t234.toList = ([45, 53, 32, 120, 39, 54, 49, 39, 32, 116, 114, 117, 101] : List UInt8) then ((weighhouselaw02_num.f bt235.2).bind fun t239 => (if t239 = 0 then (if (bt235.1.length : Int) = 3 then (if 0 < (bt235.1.length : Int) then ((value_Right.f ((rd_T37 bt235.1 0).f0) ((rd_T37 bt235.1 0).f1) ((rd_T37 bt235.1 0).f2)).bind fun t241 => (some t241)) else (none)) else (some false)) else (some false))) else (some false))))) = some r := H
  have A2 := Aside0.mk A20
  clear A20
  replace H := Option.bind_eq_some_iff.mp H
  obtain ⟨⟨t228, t229, t230⟩, A30, H⟩ := H
  replace H : ((value_Print.f k (([(⟨t222, t223, t224⟩ : S37), (⟨t225, t226, t227⟩ : S37), (⟨t228, t229, t230⟩ : S37)] : List (S37)))).bind fun t234 => ((value_Parse.f t234).bind fun bt235 => (if t234.toList = ([45, 53, 32, 120, 39, 54, 49, 39, 32, 116, 114, 117, 101] : List UInt8) then ((weighhouselaw02_num.f bt235.2).bind fun t239 => (if t239 = 0 then (if (bt235.1.length : Int) = 3 then (if 0 < (bt235.1.length : Int) then ((value_Right.f ((rd_T37 bt235.1 0).f0) ((rd_T37 bt235.1 0).f1) ((rd_T37 bt235.1 0).f2)).bind fun t241 => (some t241)) else (none)) else (some false)) else (some false))) else (some false)))) = some r := H
  have A3 := Aside0.mk A30
  clear A30
  obtain ⟨y231, hy231⟩ : ∃ y_ : List (S37), y_ = (([(⟨t222, t223, t224⟩ : S37), (⟨t225, t226, t227⟩ : S37), (⟨t228, t229, t230⟩ : S37)] : List (S37))) := ⟨_, rfl⟩
  replace H : ((value_Print.f k y231).bind fun t234 => ((value_Parse.f t234).bind fun bt235 => (if t234.toList = ([45, 53, 32, 120, 39, 54, 49, 39, 32, 116, 114, 117, 101] : List UInt8) then ((weighhouselaw02_num.f bt235.2).bind fun t239 => (if t239 = 0 then (if (bt235.1.length : Int) = 3 then (if 0 < (bt235.1.length : Int) then ((value_Right.f ((rd_T37 bt235.1 0).f0) ((rd_T37 bt235.1 0).f1) ((rd_T37 bt235.1 0).f2)).bind fun t241 => (some t241)) else (none)) else (some false)) else (some false))) else (some false)))) = some r := by first | (rw [hy231]; with_reducible exact H) | (have H2_ := (Option.bind_some _ _).symm.trans H; rw [hy231]; with_reducible exact H2_) | (have H2_ := (Option.bind_some _ _).symm.trans H; with_reducible exact H2_) | with_reducible exact H | (rw [hy231]; exact H) | exact H
  have Ny231 := Aside0.mk hy231
  clear hy231
  replace H := Option.bind_eq_some_iff.mp H
  obtain ⟨t234, A40, H⟩ := H
  replace H : ((value_Parse.f t234).bind fun bt235 => (if t234.toList = ([45, 53, 32, 120, 39, 54, 49, 39, 32, 116, 114, 117, 101] : List UInt8) then ((weighhouselaw02_num.f bt235.2).bind fun t239 => (if t239 = 0 then (if (bt235.1.length : Int) = 3 then (if 0 < (bt235.1.length : Int) then ((value_Right.f ((rd_T37 bt235.1 0).f0) ((rd_T37 bt235.1 0).f1) ((rd_T37 bt235.1 0).f2)).bind fun t241 => (some t241)) else (none)) else (some false)) else (some false))) else (some false))) = some r := H
  have A4 := Aside0.mk A40
  clear A40
  replace H := Option.bind_eq_some_iff.mp H
  obtain ⟨⟨t235, t236⟩, A50, H⟩ := H
  replace H : (if t234.toList = ([45, 53, 32, 120, 39, 54, 49, 39, 32, 116, 114, 117, 101] : List UInt8) then ((weighhouselaw02_num.f t236).bind fun t239 => (if t239 = 0 then (if (t235.length : Int) = 3 then (if 0 < (t235.length : Int) then ((value_Right.f ((rd_T37 t235 0).f0) ((rd_T37 t235 0).f1) ((rd_T37 t235 0).f2)).bind fun t241 => (some t241)) else (none)) else (some false)) else (some false))) else (some false)) = some r := H
  have A5 := Aside0.mk A50
  clear A50
  by_cases c6 : t234.toList = ([45, 53, 32, 120, 39, 54, 49, 39, 32, 116, 114, 117, 101] : List UInt8)
  · rw [if_pos c6] at H
    have c6b0 : (t234.toList == ([45, 53, 32, 120, 39, 54, 49, 39, 32, 116, 114, 117, 101] : List UInt8)) = true := beq_iff_eq.mpr c6
    have c6b1 : (t234.toList != ([45, 53, 32, 120, 39, 54, 49, 39, 32, 116, 114, 117, 101] : List UInt8)) = false := bne_eq_false_iff_eq.mpr c6
    clear c6
    replace H := Option.bind_eq_some_iff.mp H
    obtain ⟨t239, A70, H⟩ := H
    replace H : (if t239 = 0 then (if (t235.length : Int) = 3 then (if 0 < (t235.length : Int) then ((value_Right.f ((rd_T37 t235 0).f0) ((rd_T37 t235 0).f1) ((rd_T37 t235 0).f2)).bind fun t241 => (some t241)) else (none)) else (some false)) else (some false)) = some r := H
    have A7 := Aside0.mk A70
    clear A70
    by_cases c8 : t239 = 0
    · rw [if_pos c8] at H
      have c8b0 : (t239 == 0) = true := beq_iff_eq.mpr c8
      have c8b1 : (t239 != 0) = false := bne_eq_false_iff_eq.mpr c8
      clear c8
      by_cases c9 : (t235.length : Int) = 3
      · rw [if_pos c9] at H
        have c9b0 : ((t235.length : Int) == 3) = true := beq_iff_eq.mpr c9
        have c9b1 : ((t235.length : Int) != 3) = false := bne_eq_false_iff_eq.mpr c9
        clear c9
        by_cases c10 : 0 < (t235.length : Int)
        · rw [if_pos c10] at H
          have c10b0 : decide (0 < (t235.length : Int)) = true := decide_eq_true c10
          have c10b1 : decide (0 < t235.length) = true := decide_eq_true (by omega)
          clear c10
          replace H := Option.bind_eq_some_iff.mp H
          obtain ⟨t241, A110, H⟩ := H
          replace H : (some t241) = some r := H
          have A11 := Aside0.mk A110
          clear A110
          obtain rfl := Option.some.inj H
          go_enter Tryd.func14, Tryd.ntmps14
          go_wp2_with (first | ((with_reducible refine gate_callee (f := 18) rfl ?_); refine goesL_ (some 4) rfl rfl Tryd.func18 (by kernel_rfl) rfl #[.int .i64 (-5)] rfl (by (try simp only [List.map_toArray, List.map_cons, List.map_nil]); first | done | rfl | (simp only [List.length_drop, List.length_take]; rfl)) ?_; (with_reducible refine (value_Number.calls (-5) t222 t223 t224 _ A1.out).mono ?_); rintro e w12 ⟨rfl, hb⟩; refine ⟨_, rfl, ?_⟩; have n0_ := Aside0.mk (below_step (by repeat (first | (with_reducible first | exact HB.out | apply below_alloc | apply pw_below_drewN | apply below_drew1) | exact HB.out)) hb); clear HB; have HB := n0_; clear n0_; (try clear hb); (try clear hb2); (try clear hk); (try clear hi)) | ((with_reducible refine gate_callee (f := 19) rfl ?_); refine goesL_ (some 5) rfl rfl Tryd.func19 (by kernel_rfl) rfl #[.string (⟨#[97]⟩ : ByteArray)] rfl (by (try simp only [List.map_toArray, List.map_cons, List.map_nil]); first | done | rfl | (simp only [List.length_drop, List.length_take]; rfl)) ?_; (with_reducible refine (value_Text.calls (⟨#[97]⟩ : ByteArray) t225 t226 t227 _ A2.out).mono ?_); rintro e w13 ⟨rfl, hb⟩; refine ⟨_, rfl, ?_⟩; have n0_ := Aside0.mk (below_step (by repeat (first | (with_reducible first | exact HB.out | apply below_alloc | apply pw_below_drewN | apply below_drew1) | exact HB.out)) hb); clear HB; have HB := n0_; clear n0_; (try clear hb); (try clear hb2); (try clear hk); (try clear hi)) | ((with_reducible refine gate_callee (f := 20) rfl ?_); refine goesL_ (some 6) rfl rfl Tryd.func20 (by kernel_rfl) rfl #[.bool true] rfl (by (try simp only [List.map_toArray, List.map_cons, List.map_nil]); first | done | rfl | (simp only [List.length_drop, List.length_take]; rfl)) ?_; (with_reducible refine (value_Truth.calls true t228 t229 t230 _ A3.out).mono ?_); rintro e w14 ⟨rfl, hb⟩; refine ⟨_, rfl, ?_⟩; have n0_ := Aside0.mk (below_step (by repeat (first | (with_reducible first | exact HB.out | apply below_alloc | apply pw_below_drewN | apply below_drew1) | exact HB.out)) hb); clear HB; have HB := n0_; clear n0_; (try clear hb); (try clear hb2); (try clear hk); (try clear hi)) | ((with_reducible refine gate_dst (N := 7) rfl ?_); (try (refine gate_guard (by rfl) ?_; dsimp only)); refine Kd.R_lit k37 _ 37 ?hg (N := 7) ?hd (xs := ([(⟨t222, t223, t224⟩ : S37), (⟨t225, t226, t227⟩ : S37), (⟨t228, t229, t230⟩ : S37)] : List (S37))) (inner := [.int .i64 t222, .int .i64 t223, .string t224, .int .i64 t225, .int .i64 t226, .string t227, .int .i64 t228, .int .i64 t229, .string t230]) (ok := fun _ => True) (okp := fun _ => True) ?hr ?hp (fun _ hk => hk) trivial (Below.refl _ _) (Nat.le_refl _) (by simp) ?_; (case hd => rfl); (case hg => rfl); (case hr => first | (go_simp; done) | (go_simp; rfl)); (case hp => exact (Reps.c3 (show Kd.M k37 _ _ _ (⟨t222, t223, t224⟩ : S37) [.int .i64 t222, .int .i64 t223, .string t224] from (k37_mkM _ _ _ (⟨t222, t223, t224⟩ : S37) )) (Reps.c3 (show Kd.M k37 _ _ _ (⟨t225, t226, t227⟩ : S37) [.int .i64 t225, .int .i64 t226, .string t227] from (k37_mkM _ _ _ (⟨t225, t226, t227⟩ : S37) )) (Reps.c3 (show Kd.M k37 _ _ _ (⟨t228, t229, t230⟩ : S37) [.int .i64 t228, .int .i64 t229, .string t230] from (k37_mkM _ _ _ (⟨t228, t229, t230⟩ : S37) )) (Reps.none _ _))))); intro v232 w15 ho16 hb hg_ hnew_; clear hg_ hnew_; (first | rw [← Ny231.out] at ho16 | (simp only [Int.reduceToNat] at ho16; rw [← Ny231.out] at ho16)); have n0_ := Aside0.mk (Kd.R_lower ho16 (below_size (by repeat (first | (with_reducible first | exact HB.out | apply below_alloc | apply pw_below_drewN | apply below_drew1) | exact HB.out)))); have n1_ := Aside0.mk (below_step (by repeat (first | (with_reducible first | exact HB.out | apply below_alloc | apply pw_below_drewN | apply below_drew1) | exact HB.out)) hb); clear HB; have HO233 := n0_; have HB := n1_; clear n0_ n1_; clear hb ho16; obtain ⟨Ao17, co17, eo17⟩ := Kd.R_slice HO233.out; subst eo17) | ((with_reducible refine gate_callee (f := 10) rfl ?_); refine goesL_ (some 8) rfl rfl Tryd.func10 (by kernel_rfl) rfl #[.slice Ao17 y231.length co17] rfl (by (try simp only [List.map_toArray, List.map_cons, List.map_nil]); first | done | rfl | (simp only [List.length_drop, List.length_take]; rfl)) ?_; (with_reducible refine (value_Print.calls k _ _ y231 t234 _ ?side1 ?side2 A4.out ?sideV).mono ?_); (case sideV => exact HV.out.below (by repeat (first | (with_reducible first | exact HB.out | apply below_alloc | apply pw_below_drewN | apply below_drew1) | exact HB.out))); (case side1 => repeat (first | exact (Kd.R_reads' HO233.out).2.2 | (with_reducible refine Kd.C_alloc ?_ _) | (with_reducible refine Kd.C_drewN ?_ _) | (with_reducible refine Kd.C_drew ?_))); (case side2 => exact (Kd.R_reads' HO233.out).2.1); rintro e w18 ⟨rfl, hb⟩; refine ⟨_, rfl, ?_⟩; have n0_ := Aside0.mk (Kd.R_below (by (with_reducible repeat (first | apply Kd.R_alloc | apply Kd.R_drewN | apply Kd.R_drew)); exact HO233.out) hb); have n1_ := Aside0.mk (below_step (by repeat (first | (with_reducible first | exact HB.out | apply below_alloc | apply pw_below_drewN | apply below_drew1) | exact HB.out)) hb); clear HO233; clear HB; have HO233 := n0_; have HB := n1_; clear n0_ n1_; (try clear hb); (try clear hb2); (try clear hk); (try clear hi)) | ((with_reducible refine gate_callee (f := 8) rfl ?_); refine goesL_ (some 11) rfl rfl Tryd.func8 (by kernel_rfl) rfl #[.string t234] rfl (by (try simp only [List.map_toArray, List.map_cons, List.map_nil]); first | done | rfl | (simp only [List.length_drop, List.length_take]; rfl)) ?_; (with_reducible refine (value_Parse.calls t234 t235 t236 _ A5.out ?sideV).mono ?_); (case sideV => exact HV.out.below (by repeat (first | (with_reducible first | exact HB.out | apply below_alloc | apply pw_below_drewN | apply below_drew1) | exact HB.out))); rintro e w19 ⟨v237, rfl, ho0, hb⟩; refine ⟨_, rfl, ?_⟩; have n0_ := Aside0.mk (Kd.R_elder' (by (with_reducible repeat (first | apply Kd.R_alloc | apply Kd.R_drewN | apply Kd.R_drew)); exact HO233.out) (Kd.R_base ho0) hb); have n1_ := Aside0.mk (Kd.R_lower (Kd.R_new' ho0 (Kd.R_lt (by (with_reducible repeat (first | apply Kd.R_alloc | apply Kd.R_drewN | apply Kd.R_drew)); exact HO233.out))) (below_size (by repeat (first | (with_reducible first | exact HB.out | apply below_alloc | apply pw_below_drewN | apply below_drew1) | exact HB.out)))); have n2_ := Aside0.mk (below_step (by repeat (first | (with_reducible first | exact HB.out | apply below_alloc | apply pw_below_drewN | apply below_drew1) | exact HB.out)) hb); clear HO233; clear HB; have HO233 := n0_; have HO238 := n1_; have HB := n2_; clear n0_ n1_ n2_; (try clear hb); (try clear hb2); (try clear hk); (try clear hi); (try clear ho0)) | (go_at_call 13; (with_reducible refine (weighhouselaw02_num.calls t236 t239 _ A7.out).mono ?_); rintro e w' ⟨rfl, ⟨nd, rfl⟩⟩; obtain ⟨Ao20, co20, eo20⟩ := Kd.R_slice HO238.out; subst eo20; have p240 : 0 ≤ (0 : Int) := (by omega); have q240 : 0 < (t235.length : Int) := of_decide_eq_true (by first | (with_reducible assumption) | assumption); obtain ⟨ad240, e240, hx240_0, hx240_1, hx240_2⟩ := at_T37 (Kd.R_reads' HO238.out).2.2 0 p240 q240; cases e240; have qi240 : (0 < t235.length) = True := eq_true (by omega); (try rw [show ((0 : Int)).toNat = 0 from rfl] at hx240_0); (try rw [show 0 * 3 = 0 from rfl] at hx240_0); (try rw [Addr.add_zero'] at hx240_0); (try rw [show ((0 : Int)).toNat = 0 from rfl] at hx240_1); (try rw [show 0 * 3 = 0 from rfl] at hx240_1); (try rw [Addr.add_zero'] at hx240_1); (try rw [show ((0 : Int)).toNat = 0 from rfl] at hx240_2); (try rw [show 0 * 3 = 0 from rfl] at hx240_2); (try rw [Addr.add_zero'] at hx240_2); replace p240 := eq_true p240; replace q240 := eq_true q240) | (go_at_call 15; (with_reducible refine (value_Right.calls ((rd_T37 t235 0).f0) ((rd_T37 t235 0).f1) ((rd_T37 t235 0).f2) t241 _ A11.out).mono ?_); rintro e w21 ⟨rfl, hb⟩; have n0_ := Aside0.mk (Kd.R_below (by (with_reducible repeat (first | apply Kd.R_alloc | apply Kd.R_drewN | apply Kd.R_drew)); exact HO233.out) hb); have n1_ := Aside0.mk (Kd.R_below (by (with_reducible repeat (first | apply Kd.R_alloc | apply Kd.R_drewN | apply Kd.R_drew)); exact HO238.out) hb); have n2_ := Aside0.mk (below_step (by repeat (first | (with_reducible first | exact HB.out | apply below_alloc | apply pw_below_drewN | apply below_drew1) | exact HB.out)) hb); clear HO233; clear HO238; clear HB; have HO233 := n0_; have HO238 := n1_; have HB := n2_; clear n0_ n1_ n2_; (try clear hb); (try clear hb2); (try clear hk); (try clear hi)))
          go_ret
          exact ⟨by first | rfl | (simp [errW_none, errW_some] <;> rfl) | (simp [*, errW_none, errW_some] <;> rfl), by repeat (first | (with_reducible first | exact HB.out | apply below_alloc | apply pw_below_drewN | apply below_drew1) | exact HB.out)⟩
        · rw [if_neg c10] at H
          exact absurd H (by simp)
      · rw [if_neg c9] at H
        have c9b0 : ((t235.length : Int) == 3) = false := beq_eq_false_iff_ne.mpr c9
        have c9b1 : ((t235.length : Int) != 3) = true := bne_iff_ne.mpr c9
        obtain rfl := Option.some.inj H
        go_enter Tryd.func14, Tryd.ntmps14
        go_wp2_with (first | ((with_reducible refine gate_callee (f := 18) rfl ?_); refine goesL_ (some 4) rfl rfl Tryd.func18 (by kernel_rfl) rfl #[.int .i64 (-5)] rfl (by (try simp only [List.map_toArray, List.map_cons, List.map_nil]); first | done | rfl | (simp only [List.length_drop, List.length_take]; rfl)) ?_; (with_reducible refine (value_Number.calls (-5) t222 t223 t224 _ A1.out).mono ?_); rintro e w22 ⟨rfl, hb⟩; refine ⟨_, rfl, ?_⟩; have n0_ := Aside0.mk (below_step (by repeat (first | (with_reducible first | exact HB.out | apply below_alloc | apply pw_below_drewN | apply below_drew1) | exact HB.out)) hb); clear HB; have HB := n0_; clear n0_; (try clear hb); (try clear hb2); (try clear hk); (try clear hi)) | ((with_reducible refine gate_callee (f := 19) rfl ?_); refine goesL_ (some 5) rfl rfl Tryd.func19 (by kernel_rfl) rfl #[.string (⟨#[97]⟩ : ByteArray)] rfl (by (try simp only [List.map_toArray, List.map_cons, List.map_nil]); first | done | rfl | (simp only [List.length_drop, List.length_take]; rfl)) ?_; (with_reducible refine (value_Text.calls (⟨#[97]⟩ : ByteArray) t225 t226 t227 _ A2.out).mono ?_); rintro e w23 ⟨rfl, hb⟩; refine ⟨_, rfl, ?_⟩; have n0_ := Aside0.mk (below_step (by repeat (first | (with_reducible first | exact HB.out | apply below_alloc | apply pw_below_drewN | apply below_drew1) | exact HB.out)) hb); clear HB; have HB := n0_; clear n0_; (try clear hb); (try clear hb2); (try clear hk); (try clear hi)) | ((with_reducible refine gate_callee (f := 20) rfl ?_); refine goesL_ (some 6) rfl rfl Tryd.func20 (by kernel_rfl) rfl #[.bool true] rfl (by (try simp only [List.map_toArray, List.map_cons, List.map_nil]); first | done | rfl | (simp only [List.length_drop, List.length_take]; rfl)) ?_; (with_reducible refine (value_Truth.calls true t228 t229 t230 _ A3.out).mono ?_); rintro e w24 ⟨rfl, hb⟩; refine ⟨_, rfl, ?_⟩; have n0_ := Aside0.mk (below_step (by repeat (first | (with_reducible first | exact HB.out | apply below_alloc | apply pw_below_drewN | apply below_drew1) | exact HB.out)) hb); clear HB; have HB := n0_; clear n0_; (try clear hb); (try clear hb2); (try clear hk); (try clear hi)) | ((with_reducible refine gate_dst (N := 7) rfl ?_); (try (refine gate_guard (by rfl) ?_; dsimp only)); refine Kd.R_lit k37 _ 37 ?hg (N := 7) ?hd (xs := ([(⟨t222, t223, t224⟩ : S37), (⟨t225, t226, t227⟩ : S37), (⟨t228, t229, t230⟩ : S37)] : List (S37))) (inner := [.int .i64 t222, .int .i64 t223, .string t224, .int .i64 t225, .int .i64 t226, .string t227, .int .i64 t228, .int .i64 t229, .string t230]) (ok := fun _ => True) (okp := fun _ => True) ?hr ?hp (fun _ hk => hk) trivial (Below.refl _ _) (Nat.le_refl _) (by simp) ?_; (case hd => rfl); (case hg => rfl); (case hr => first | (go_simp; done) | (go_simp; rfl)); (case hp => exact (Reps.c3 (show Kd.M k37 _ _ _ (⟨t222, t223, t224⟩ : S37) [.int .i64 t222, .int .i64 t223, .string t224] from (k37_mkM _ _ _ (⟨t222, t223, t224⟩ : S37) )) (Reps.c3 (show Kd.M k37 _ _ _ (⟨t225, t226, t227⟩ : S37) [.int .i64 t225, .int .i64 t226, .string t227] from (k37_mkM _ _ _ (⟨t225, t226, t227⟩ : S37) )) (Reps.c3 (show Kd.M k37 _ _ _ (⟨t228, t229, t230⟩ : S37) [.int .i64 t228, .int .i64 t229, .string t230] from (k37_mkM _ _ _ (⟨t228, t229, t230⟩ : S37) )) (Reps.none _ _))))); intro v232 w25 ho26 hb hg_ hnew_; clear hg_ hnew_; (first | rw [← Ny231.out] at ho26 | (simp only [Int.reduceToNat] at ho26; rw [← Ny231.out] at ho26)); have n0_ := Aside0.mk (Kd.R_lower ho26 (below_size (by repeat (first | (with_reducible first | exact HB.out | apply below_alloc | apply pw_below_drewN | apply below_drew1) | exact HB.out)))); have n1_ := Aside0.mk (below_step (by repeat (first | (with_reducible first | exact HB.out | apply below_alloc | apply pw_below_drewN | apply below_drew1) | exact HB.out)) hb); clear HB; have HO233 := n0_; have HB := n1_; clear n0_ n1_; clear hb ho26; obtain ⟨Ao27, co27, eo27⟩ := Kd.R_slice HO233.out; subst eo27) | ((with_reducible refine gate_callee (f := 10) rfl ?_); refine goesL_ (some 8) rfl rfl Tryd.func10 (by kernel_rfl) rfl #[.slice Ao27 y231.length co27] rfl (by (try simp only [List.map_toArray, List.map_cons, List.map_nil]); first | done | rfl | (simp only [List.length_drop, List.length_take]; rfl)) ?_; (with_reducible refine (value_Print.calls k _ _ y231 t234 _ ?side1 ?side2 A4.out ?sideV).mono ?_); (case sideV => exact HV.out.below (by repeat (first | (with_reducible first | exact HB.out | apply below_alloc | apply pw_below_drewN | apply below_drew1) | exact HB.out))); (case side1 => repeat (first | exact (Kd.R_reads' HO233.out).2.2 | (with_reducible refine Kd.C_alloc ?_ _) | (with_reducible refine Kd.C_drewN ?_ _) | (with_reducible refine Kd.C_drew ?_))); (case side2 => exact (Kd.R_reads' HO233.out).2.1); rintro e w28 ⟨rfl, hb⟩; refine ⟨_, rfl, ?_⟩; have n0_ := Aside0.mk (Kd.R_below (by (with_reducible repeat (first | apply Kd.R_alloc | apply Kd.R_drewN | apply Kd.R_drew)); exact HO233.out) hb); have n1_ := Aside0.mk (below_step (by repeat (first | (with_reducible first | exact HB.out | apply below_alloc | apply pw_below_drewN | apply below_drew1) | exact HB.out)) hb); clear HO233; clear HB; have HO233 := n0_; have HB := n1_; clear n0_ n1_; (try clear hb); (try clear hb2); (try clear hk); (try clear hi)) | ((with_reducible refine gate_callee (f := 8) rfl ?_); refine goesL_ (some 11) rfl rfl Tryd.func8 (by kernel_rfl) rfl #[.string t234] rfl (by (try simp only [List.map_toArray, List.map_cons, List.map_nil]); first | done | rfl | (simp only [List.length_drop, List.length_take]; rfl)) ?_; (with_reducible refine (value_Parse.calls t234 t235 t236 _ A5.out ?sideV).mono ?_); (case sideV => exact HV.out.below (by repeat (first | (with_reducible first | exact HB.out | apply below_alloc | apply pw_below_drewN | apply below_drew1) | exact HB.out))); rintro e w29 ⟨v237, rfl, ho0, hb⟩; refine ⟨_, rfl, ?_⟩; have n0_ := Aside0.mk (Kd.R_elder' (by (with_reducible repeat (first | apply Kd.R_alloc | apply Kd.R_drewN | apply Kd.R_drew)); exact HO233.out) (Kd.R_base ho0) hb); have n1_ := Aside0.mk (Kd.R_lower (Kd.R_new' ho0 (Kd.R_lt (by (with_reducible repeat (first | apply Kd.R_alloc | apply Kd.R_drewN | apply Kd.R_drew)); exact HO233.out))) (below_size (by repeat (first | (with_reducible first | exact HB.out | apply below_alloc | apply pw_below_drewN | apply below_drew1) | exact HB.out)))); have n2_ := Aside0.mk (below_step (by repeat (first | (with_reducible first | exact HB.out | apply below_alloc | apply pw_below_drewN | apply below_drew1) | exact HB.out)) hb); clear HO233; clear HB; have HO233 := n0_; have HO238 := n1_; have HB := n2_; clear n0_ n1_ n2_; (try clear hb); (try clear hb2); (try clear hk); (try clear hi); (try clear ho0)) | (go_at_call 13; (with_reducible refine (weighhouselaw02_num.calls t236 t239 _ A7.out).mono ?_); rintro e w' ⟨rfl, ⟨nd, rfl⟩⟩; obtain ⟨Ao30, co30, eo30⟩ := Kd.R_slice HO238.out; subst eo30))
        go_ret
        exact ⟨by first | rfl | (simp [errW_none, errW_some] <;> rfl) | (simp [*, errW_none, errW_some] <;> rfl), by repeat (first | (with_reducible first | exact HB.out | apply below_alloc | apply pw_below_drewN | apply below_drew1) | exact HB.out)⟩
    · rw [if_neg c8] at H
      have c8b0 : (t239 == 0) = false := beq_eq_false_iff_ne.mpr c8
      have c8b1 : (t239 != 0) = true := bne_iff_ne.mpr c8
      obtain rfl := Option.some.inj H
      go_enter Tryd.func14, Tryd.ntmps14
      go_wp2_with (first | ((with_reducible refine gate_callee (f := 18) rfl ?_); refine goesL_ (some 4) rfl rfl Tryd.func18 (by kernel_rfl) rfl #[.int .i64 (-5)] rfl (by (try simp only [List.map_toArray, List.map_cons, List.map_nil]); first | done | rfl | (simp only [List.length_drop, List.length_take]; rfl)) ?_; (with_reducible refine (value_Number.calls (-5) t222 t223 t224 _ A1.out).mono ?_); rintro e w31 ⟨rfl, hb⟩; refine ⟨_, rfl, ?_⟩; have n0_ := Aside0.mk (below_step (by repeat (first | (with_reducible first | exact HB.out | apply below_alloc | apply pw_below_drewN | apply below_drew1) | exact HB.out)) hb); clear HB; have HB := n0_; clear n0_; (try clear hb); (try clear hb2); (try clear hk); (try clear hi)) | ((with_reducible refine gate_callee (f := 19) rfl ?_); refine goesL_ (some 5) rfl rfl Tryd.func19 (by kernel_rfl) rfl #[.string (⟨#[97]⟩ : ByteArray)] rfl (by (try simp only [List.map_toArray, List.map_cons, List.map_nil]); first | done | rfl | (simp only [List.length_drop, List.length_take]; rfl)) ?_; (with_reducible refine (value_Text.calls (⟨#[97]⟩ : ByteArray) t225 t226 t227 _ A2.out).mono ?_); rintro e w32 ⟨rfl, hb⟩; refine ⟨_, rfl, ?_⟩; have n0_ := Aside0.mk (below_step (by repeat (first | (with_reducible first | exact HB.out | apply below_alloc | apply pw_below_drewN | apply below_drew1) | exact HB.out)) hb); clear HB; have HB := n0_; clear n0_; (try clear hb); (try clear hb2); (try clear hk); (try clear hi)) | ((with_reducible refine gate_callee (f := 20) rfl ?_); refine goesL_ (some 6) rfl rfl Tryd.func20 (by kernel_rfl) rfl #[.bool true] rfl (by (try simp only [List.map_toArray, List.map_cons, List.map_nil]); first | done | rfl | (simp only [List.length_drop, List.length_take]; rfl)) ?_; (with_reducible refine (value_Truth.calls true t228 t229 t230 _ A3.out).mono ?_); rintro e w33 ⟨rfl, hb⟩; refine ⟨_, rfl, ?_⟩; have n0_ := Aside0.mk (below_step (by repeat (first | (with_reducible first | exact HB.out | apply below_alloc | apply pw_below_drewN | apply below_drew1) | exact HB.out)) hb); clear HB; have HB := n0_; clear n0_; (try clear hb); (try clear hb2); (try clear hk); (try clear hi)) | ((with_reducible refine gate_dst (N := 7) rfl ?_); (try (refine gate_guard (by rfl) ?_; dsimp only)); refine Kd.R_lit k37 _ 37 ?hg (N := 7) ?hd (xs := ([(⟨t222, t223, t224⟩ : S37), (⟨t225, t226, t227⟩ : S37), (⟨t228, t229, t230⟩ : S37)] : List (S37))) (inner := [.int .i64 t222, .int .i64 t223, .string t224, .int .i64 t225, .int .i64 t226, .string t227, .int .i64 t228, .int .i64 t229, .string t230]) (ok := fun _ => True) (okp := fun _ => True) ?hr ?hp (fun _ hk => hk) trivial (Below.refl _ _) (Nat.le_refl _) (by simp) ?_; (case hd => rfl); (case hg => rfl); (case hr => first | (go_simp; done) | (go_simp; rfl)); (case hp => exact (Reps.c3 (show Kd.M k37 _ _ _ (⟨t222, t223, t224⟩ : S37) [.int .i64 t222, .int .i64 t223, .string t224] from (k37_mkM _ _ _ (⟨t222, t223, t224⟩ : S37) )) (Reps.c3 (show Kd.M k37 _ _ _ (⟨t225, t226, t227⟩ : S37) [.int .i64 t225, .int .i64 t226, .string t227] from (k37_mkM _ _ _ (⟨t225, t226, t227⟩ : S37) )) (Reps.c3 (show Kd.M k37 _ _ _ (⟨t228, t229, t230⟩ : S37) [.int .i64 t228, .int .i64 t229, .string t230] from (k37_mkM _ _ _ (⟨t228, t229, t230⟩ : S37) )) (Reps.none _ _))))); intro v232 w34 ho35 hb hg_ hnew_; clear hg_ hnew_; (first | rw [← Ny231.out] at ho35 | (simp only [Int.reduceToNat] at ho35; rw [← Ny231.out] at ho35)); have n0_ := Aside0.mk (Kd.R_lower ho35 (below_size (by repeat (first | (with_reducible first | exact HB.out | apply below_alloc | apply pw_below_drewN | apply below_drew1) | exact HB.out)))); have n1_ := Aside0.mk (below_step (by repeat (first | (with_reducible first | exact HB.out | apply below_alloc | apply pw_below_drewN | apply below_drew1) | exact HB.out)) hb); clear HB; have HO233 := n0_; have HB := n1_; clear n0_ n1_; clear hb ho35; obtain ⟨Ao36, co36, eo36⟩ := Kd.R_slice HO233.out; subst eo36) | ((with_reducible refine gate_callee (f := 10) rfl ?_); refine goesL_ (some 8) rfl rfl Tryd.func10 (by kernel_rfl) rfl #[.slice Ao36 y231.length co36] rfl (by (try simp only [List.map_toArray, List.map_cons, List.map_nil]); first | done | rfl | (simp only [List.length_drop, List.length_take]; rfl)) ?_; (with_reducible refine (value_Print.calls k _ _ y231 t234 _ ?side1 ?side2 A4.out ?sideV).mono ?_); (case sideV => exact HV.out.below (by repeat (first | (with_reducible first | exact HB.out | apply below_alloc | apply pw_below_drewN | apply below_drew1) | exact HB.out))); (case side1 => repeat (first | exact (Kd.R_reads' HO233.out).2.2 | (with_reducible refine Kd.C_alloc ?_ _) | (with_reducible refine Kd.C_drewN ?_ _) | (with_reducible refine Kd.C_drew ?_))); (case side2 => exact (Kd.R_reads' HO233.out).2.1); rintro e w37 ⟨rfl, hb⟩; refine ⟨_, rfl, ?_⟩; have n0_ := Aside0.mk (Kd.R_below (by (with_reducible repeat (first | apply Kd.R_alloc | apply Kd.R_drewN | apply Kd.R_drew)); exact HO233.out) hb); have n1_ := Aside0.mk (below_step (by repeat (first | (with_reducible first | exact HB.out | apply below_alloc | apply pw_below_drewN | apply below_drew1) | exact HB.out)) hb); clear HO233; clear HB; have HO233 := n0_; have HB := n1_; clear n0_ n1_; (try clear hb); (try clear hb2); (try clear hk); (try clear hi)) | ((with_reducible refine gate_callee (f := 8) rfl ?_); refine goesL_ (some 11) rfl rfl Tryd.func8 (by kernel_rfl) rfl #[.string t234] rfl (by (try simp only [List.map_toArray, List.map_cons, List.map_nil]); first | done | rfl | (simp only [List.length_drop, List.length_take]; rfl)) ?_; (with_reducible refine (value_Parse.calls t234 t235 t236 _ A5.out ?sideV).mono ?_); (case sideV => exact HV.out.below (by repeat (first | (with_reducible first | exact HB.out | apply below_alloc | apply pw_below_drewN | apply below_drew1) | exact HB.out))); rintro e w38 ⟨v237, rfl, ho0, hb⟩; refine ⟨_, rfl, ?_⟩; have n0_ := Aside0.mk (Kd.R_elder' (by (with_reducible repeat (first | apply Kd.R_alloc | apply Kd.R_drewN | apply Kd.R_drew)); exact HO233.out) (Kd.R_base ho0) hb); have n1_ := Aside0.mk (Kd.R_lower (Kd.R_new' ho0 (Kd.R_lt (by (with_reducible repeat (first | apply Kd.R_alloc | apply Kd.R_drewN | apply Kd.R_drew)); exact HO233.out))) (below_size (by repeat (first | (with_reducible first | exact HB.out | apply below_alloc | apply pw_below_drewN | apply below_drew1) | exact HB.out)))); have n2_ := Aside0.mk (below_step (by repeat (first | (with_reducible first | exact HB.out | apply below_alloc | apply pw_below_drewN | apply below_drew1) | exact HB.out)) hb); clear HO233; clear HB; have HO233 := n0_; have HO238 := n1_; have HB := n2_; clear n0_ n1_ n2_; (try clear hb); (try clear hb2); (try clear hk); (try clear hi); (try clear ho0)) | (go_at_call 13; (with_reducible refine (weighhouselaw02_num.calls t236 t239 _ A7.out).mono ?_); rintro e w' ⟨rfl, ⟨nd, rfl⟩⟩))
      go_ret
      exact ⟨by first | rfl | (simp [errW_none, errW_some] <;> rfl) | (simp [*, errW_none, errW_some] <;> rfl), by repeat (first | (with_reducible first | exact HB.out | apply below_alloc | apply pw_below_drewN | apply below_drew1) | exact HB.out)⟩
  · rw [if_neg c6] at H
    have c6b0 : (t234.toList == ([45, 53, 32, 120, 39, 54, 49, 39, 32, 116, 114, 117, 101] : List UInt8)) = false := beq_eq_false_iff_ne.mpr c6
    have c6b1 : (t234.toList != ([45, 53, 32, 120, 39, 54, 49, 39, 32, 116, 114, 117, 101] : List UInt8)) = true := bne_iff_ne.mpr c6
    obtain rfl := Option.some.inj H
    go_enter Tryd.func14, Tryd.ntmps14
    go_wp2_with (first | ((with_reducible refine gate_callee (f := 18) rfl ?_); refine goesL_ (some 4) rfl rfl Tryd.func18 (by kernel_rfl) rfl #[.int .i64 (-5)] rfl (by (try simp only [List.map_toArray, List.map_cons, List.map_nil]); first | done | rfl | (simp only [List.length_drop, List.length_take]; rfl)) ?_; (with_reducible refine (value_Number.calls (-5) t222 t223 t224 _ A1.out).mono ?_); rintro e w39 ⟨rfl, hb⟩; refine ⟨_, rfl, ?_⟩; have n0_ := Aside0.mk (below_step (by repeat (first | (with_reducible first | exact HB.out | apply below_alloc | apply pw_below_drewN | apply below_drew1) | exact HB.out)) hb); clear HB; have HB := n0_; clear n0_; (try clear hb); (try clear hb2); (try clear hk); (try clear hi)) | ((with_reducible refine gate_callee (f := 19) rfl ?_); refine goesL_ (some 5) rfl rfl Tryd.func19 (by kernel_rfl) rfl #[.string (⟨#[97]⟩ : ByteArray)] rfl (by (try simp only [List.map_toArray, List.map_cons, List.map_nil]); first | done | rfl | (simp only [List.length_drop, List.length_take]; rfl)) ?_; (with_reducible refine (value_Text.calls (⟨#[97]⟩ : ByteArray) t225 t226 t227 _ A2.out).mono ?_); rintro e w40 ⟨rfl, hb⟩; refine ⟨_, rfl, ?_⟩; have n0_ := Aside0.mk (below_step (by repeat (first | (with_reducible first | exact HB.out | apply below_alloc | apply pw_below_drewN | apply below_drew1) | exact HB.out)) hb); clear HB; have HB := n0_; clear n0_; (try clear hb); (try clear hb2); (try clear hk); (try clear hi)) | ((with_reducible refine gate_callee (f := 20) rfl ?_); refine goesL_ (some 6) rfl rfl Tryd.func20 (by kernel_rfl) rfl #[.bool true] rfl (by (try simp only [List.map_toArray, List.map_cons, List.map_nil]); first | done | rfl | (simp only [List.length_drop, List.length_take]; rfl)) ?_; (with_reducible refine (value_Truth.calls true t228 t229 t230 _ A3.out).mono ?_); rintro e w41 ⟨rfl, hb⟩; refine ⟨_, rfl, ?_⟩; have n0_ := Aside0.mk (below_step (by repeat (first | (with_reducible first | exact HB.out | apply below_alloc | apply pw_below_drewN | apply below_drew1) | exact HB.out)) hb); clear HB; have HB := n0_; clear n0_; (try clear hb); (try clear hb2); (try clear hk); (try clear hi)) | ((with_reducible refine gate_dst (N := 7) rfl ?_); (try (refine gate_guard (by rfl) ?_; dsimp only)); refine Kd.R_lit k37 _ 37 ?hg (N := 7) ?hd (xs := ([(⟨t222, t223, t224⟩ : S37), (⟨t225, t226, t227⟩ : S37), (⟨t228, t229, t230⟩ : S37)] : List (S37))) (inner := [.int .i64 t222, .int .i64 t223, .string t224, .int .i64 t225, .int .i64 t226, .string t227, .int .i64 t228, .int .i64 t229, .string t230]) (ok := fun _ => True) (okp := fun _ => True) ?hr ?hp (fun _ hk => hk) trivial (Below.refl _ _) (Nat.le_refl _) (by simp) ?_; (case hd => rfl); (case hg => rfl); (case hr => first | (go_simp; done) | (go_simp; rfl)); (case hp => exact (Reps.c3 (show Kd.M k37 _ _ _ (⟨t222, t223, t224⟩ : S37) [.int .i64 t222, .int .i64 t223, .string t224] from (k37_mkM _ _ _ (⟨t222, t223, t224⟩ : S37) )) (Reps.c3 (show Kd.M k37 _ _ _ (⟨t225, t226, t227⟩ : S37) [.int .i64 t225, .int .i64 t226, .string t227] from (k37_mkM _ _ _ (⟨t225, t226, t227⟩ : S37) )) (Reps.c3 (show Kd.M k37 _ _ _ (⟨t228, t229, t230⟩ : S37) [.int .i64 t228, .int .i64 t229, .string t230] from (k37_mkM _ _ _ (⟨t228, t229, t230⟩ : S37) )) (Reps.none _ _))))); intro v232 w42 ho43 hb hg_ hnew_; clear hg_ hnew_; (first | rw [← Ny231.out] at ho43 | (simp only [Int.reduceToNat] at ho43; rw [← Ny231.out] at ho43)); have n0_ := Aside0.mk (Kd.R_lower ho43 (below_size (by repeat (first | (with_reducible first | exact HB.out | apply below_alloc | apply pw_below_drewN | apply below_drew1) | exact HB.out)))); have n1_ := Aside0.mk (below_step (by repeat (first | (with_reducible first | exact HB.out | apply below_alloc | apply pw_below_drewN | apply below_drew1) | exact HB.out)) hb); clear HB; have HO233 := n0_; have HB := n1_; clear n0_ n1_; clear hb ho43; obtain ⟨Ao44, co44, eo44⟩ := Kd.R_slice HO233.out; subst eo44) | ((with_reducible refine gate_callee (f := 10) rfl ?_); refine goesL_ (some 8) rfl rfl Tryd.func10 (by kernel_rfl) rfl #[.slice Ao44 y231.length co44] rfl (by (try simp only [List.map_toArray, List.map_cons, List.map_nil]); first | done | rfl | (simp only [List.length_drop, List.length_take]; rfl)) ?_; (with_reducible refine (value_Print.calls k _ _ y231 t234 _ ?side1 ?side2 A4.out ?sideV).mono ?_); (case sideV => exact HV.out.below (by repeat (first | (with_reducible first | exact HB.out | apply below_alloc | apply pw_below_drewN | apply below_drew1) | exact HB.out))); (case side1 => repeat (first | exact (Kd.R_reads' HO233.out).2.2 | (with_reducible refine Kd.C_alloc ?_ _) | (with_reducible refine Kd.C_drewN ?_ _) | (with_reducible refine Kd.C_drew ?_))); (case side2 => exact (Kd.R_reads' HO233.out).2.1); rintro e w45 ⟨rfl, hb⟩; refine ⟨_, rfl, ?_⟩; have n0_ := Aside0.mk (Kd.R_below (by (with_reducible repeat (first | apply Kd.R_alloc | apply Kd.R_drewN | apply Kd.R_drew)); exact HO233.out) hb); have n1_ := Aside0.mk (below_step (by repeat (first | (with_reducible first | exact HB.out | apply below_alloc | apply pw_below_drewN | apply below_drew1) | exact HB.out)) hb); clear HO233; clear HB; have HO233 := n0_; have HB := n1_; clear n0_ n1_; (try clear hb); (try clear hb2); (try clear hk); (try clear hi)) | ((with_reducible refine gate_callee (f := 8) rfl ?_); refine goesL_ (some 11) rfl rfl Tryd.func8 (by kernel_rfl) rfl #[.string t234] rfl (by (try simp only [List.map_toArray, List.map_cons, List.map_nil]); first | done | rfl | (simp only [List.length_drop, List.length_take]; rfl)) ?_; (with_reducible refine (value_Parse.calls t234 t235 t236 _ A5.out ?sideV).mono ?_); (case sideV => exact HV.out.below (by repeat (first | (with_reducible first | exact HB.out | apply below_alloc | apply pw_below_drewN | apply below_drew1) | exact HB.out))); rintro e w46 ⟨v237, rfl, ho0, hb⟩; refine ⟨_, rfl, ?_⟩; have n0_ := Aside0.mk (Kd.R_elder' (by (with_reducible repeat (first | apply Kd.R_alloc | apply Kd.R_drewN | apply Kd.R_drew)); exact HO233.out) (Kd.R_base ho0) hb); have n1_ := Aside0.mk (Kd.R_lower (Kd.R_new' ho0 (Kd.R_lt (by (with_reducible repeat (first | apply Kd.R_alloc | apply Kd.R_drewN | apply Kd.R_drew)); exact HO233.out))) (below_size (by repeat (first | (with_reducible first | exact HB.out | apply below_alloc | apply pw_below_drewN | apply below_drew1) | exact HB.out)))); have n2_ := Aside0.mk (below_step (by repeat (first | (with_reducible first | exact HB.out | apply below_alloc | apply pw_below_drewN | apply below_drew1) | exact HB.out)) hb); clear HO233; clear HB; have HO233 := n0_; have HO238 := n1_; have HB := n2_; clear n0_ n1_ n2_; (try clear hb); (try clear hb2); (try clear hk); (try clear hi); (try clear ho0)))
    go_ret
    exact ⟨by first | rfl | (simp [errW_none, errW_some] <;> rfl) | (simp [*, errW_none, errW_some] <;> rfl), by repeat (first | (with_reducible first | exact HB.out | apply below_alloc | apply pw_below_drewN | apply below_drew1) | exact HB.out)⟩

end Go.Proofs.YtblaibigjhlblaaDoor.Q
end

section
-- written by hprint.py (a program of these sessions) out of the translation; Lean checks it
namespace Go.Proofs.YtblaibigjhlblaaDoor.Q
open Go.RowKit Go.Proofs.YtblaibigjhlblaaDoorW.Hb Go.Proofs.YtblaibigjhlblaaDoorW.PrintWords Go.Proofs.YtblaibigjhlblaaDoorW.PrintLast Go.Proofs.YtblaibigjhlblaaDoorW.PrintMore
attribute [local go_sem] max2_int min2_int max_two min_two max_three min_three max_four min_four   -- for this text's walks alone
set_option linter.unusedVariables false
set_option linter.unusedSimpArgs false

/-! ### weighhouselaw02_ValueTexts: function 3 -/
def weighhouselaw02_ValueTexts.f (k : Nat) (l0 : List (S37)) (a1 : ByteArray) : Option (Bool) := (weighhouselaw02_Own.f l0).bind fun t242 => ((value_Parse.f a1).bind fun bt245 => ((weighhouseref02_Parse.f k a1).bind fun bt249 => ((value_Print.f k t242).bind fun t253 => ((weighhouseref02_Print.f k l0).bind fun t254 => (if t253.toList = t254.toList then ((weighhouselaw02_Same.f k bt245.1 bt249.1).bind fun t255 => (if t255 = true then ((weighhouselaw02_num.f bt245.2).bind fun t256 => (if t256 = bt249.2 then ((weighhouselaw02_Same.f k t242 l0).bind fun t257 => (if t257 = true then ((weighhouselaw02_knows.f k).bind fun t258 => (some t258)) else (some false))) else (some false))) else (some false))) else (some false))))))
theorem weighhouselaw02_ValueTexts.mono : ∀ a0 a1 k, LeO (weighhouselaw02_ValueTexts.f k a0 a1) (weighhouselaw02_ValueTexts.f (k + 1) a0 a1) := by
  intro a0 a1 k
  unfold weighhouselaw02_ValueTexts.f
  repeat' first
      | (with_reducible exact value_Print.mono _ _)
      | (with_reducible exact weighhouselaw02_Same.mono _ _ _)
      | (with_reducible exact weighhouselaw02_knows.mono _)
      | (with_reducible exact weighhouseref02_Parse.mono _ _)
      | (with_reducible exact weighhouseref02_Print.mono _ _)
      | (with_reducible exact LeO.refl _)
      | (with_reducible exact LeO.none _)
      | (with_reducible refine LeO.ite ?_ ?_)
      | (with_reducible refine LeO.bind ?_ (fun _ => ?_))
      | exact value_Print.mono _ _
      | exact weighhouselaw02_Same.mono _ _ _
      | exact weighhouselaw02_knows.mono _
      | exact weighhouseref02_Parse.mono _ _
      | exact weighhouseref02_Print.mono _ _
      | exact LeO.none _
      | refine LeO.ite ?_ ?_
      | refine LeO.bind ?_ (fun _ => ?_)
set_option maxHeartbeats 8000000 in
set_option maxRecDepth 100000 in
theorem weighhouselaw02_ValueTexts.calls (k : Nat) (A0 : Option Addr) (c0 : Nat) (l0 : List (S37)) (a1 : ByteArray) (r : Bool) (w : World) (hr0 : Kd.C k37 w A0 l0.length l0) (hc0 : l0.length ≤ c0) (h : weighhouselaw02_ValueTexts.f k l0 a1 = some r) (hV : VarsOk w) :
    Calls Tryd.prog 3 #[.slice A0 l0.length c0, .string a1] w fun e w' => e = .returned (.bool r) ∧ Below w.heap.size w w' := by
  have HR0 := Aside0.mk hr0
  have HC0 := Aside0.mk hc0
  clear hr0 hc0
  have HB := Aside0.mk (Below.refl w.heap.size w)
  have HV := Aside0.mk hV
  clear hV
  have H : ((weighhouselaw02_Own.f l0).bind fun t242 => ((value_Parse.f a1).bind fun bt245 => ((weighhouseref02_Parse.f k a1).bind fun bt249 => ((value_Print.f k t242).bind fun t253 => ((weighhouseref02_Print.f k l0).bind fun t254 => (if t253.toList = t254.toList then ((weighhouselaw02_Same.f k bt245.1 bt249.1).bind fun t255 => (if t255 = true then ((weighhouselaw02_num.f bt245.2).bind fun t256 => (if t256 = bt249.2 then ((weighhouselaw02_Same.f k t242 l0).bind fun t257 => (if t257 = true then ((weighhouselaw02_knows.f k).bind fun t258 => (some t258)) else (some false))) else (some false))) else (some false))) else (some false))))))) = some r := h
  clear h
  replace H := Option.bind_eq_some_iff.mp H
  obtain ⟨t242, A30, H⟩ := H
  replace H : ((value_Parse.f a1).bind fun bt245 => ((weighhouseref02_Parse.f k a1).bind fun bt249 => ((value_Print.f k t242).bind fun t253 => ((weighhouseref02_Print.f k l0).bind fun t254 => (if t253.toList = t254.toList then ((weighhouselaw02_Same.f k bt245.1 bt249.1).bind fun t255 => (if t255 = true then ((weighhouselaw02_num.f bt245.2).bind fun t256 => (if t256 = bt249.2 then ((weighhouselaw02_Same.f k t242 l0).bind fun t257 => (if t257 = true then ((weighhouselaw02_knows.f k).bind fun t258 => (some t258)) else (some false))) else (some false))) else (some false))) else (some false)))))) = some r := H
  have A3 := Aside0.mk A30
  clear A30
  replace H := Option.bind_eq_some_iff.mp H
  obtain ⟨⟨t245, t246⟩, A40, H⟩ := H
  replace H : ((weighhouseref02_Parse.f k a1).bind fun bt249 => ((value_Print.f k t242).bind fun t253 => ((weighhouseref02_Print.f k l0).bind fun t254 => (if t253.toList = t254.toList then ((weighhouselaw02_Same.f k t245 bt249.1).bind fun t255 => (if t255 = true then ((weighhouselaw02_num.f t246).bind fun t256 => (if t256 = bt249.2 then ((weighhouselaw02_Same.f k t242 l0).bind fun t257 => (if t257 = true then ((weighhouselaw02_knows.f k).bind fun t258 => (some t258)) else (some false))) else (some false))) else (some false))) else (some false))))) = some r := H
  have A4 := Aside0.mk A40
  clear A40
  replace H := Option.bind_eq_some_iff.mp H
  obtain ⟨⟨t249, t250⟩, A50, H⟩ := H
  replace H : ((value_Print.f k t242).bind fun t253 => ((weighhouseref02_Print.f k l0).bind fun t254 => (if t253.toList = t254.toList then ((weighhouselaw02_Same.f k t245 t249).bind fun t255 => (if t255 = true then ((weighhouselaw02_num.f t246).bind fun t256 => (if t256 = t250 then ((weighhouselaw02_Same.f k t242 l0).bind fun t257 => (if t257 = true then ((weighhouselaw02_knows.f k).bind fun t258 => (some t258)) else (some false))) else (some false))) else (some false))) else (some false)))) = some r := H
  have A5 := Aside0.mk A50
  clear A50
  replace H := Option.bind_eq_some_iff.mp H
  obtain ⟨t253, A60, H⟩ := H
  replace H : ((weighhouseref02_Print.f k l0).bind fun t254 => (if t253.toList = t254.toList then ((weighhouselaw02_Same.f k t245 t249).bind fun t255 => (if t255 = true then ((weighhouselaw02_num.f t246).bind fun t256 => (if t256 = t250 then ((weighhouselaw02_Same.f k t242 l0).bind fun t257 => (if t257 = true then ((weighhouselaw02_knows.f k).bind fun t258 => (some t258)) else (some false))) else (some false))) else (some false))) else (some false))) = some r := H
  have A6 := Aside0.mk A60
  clear A60
  replace H := Option.bind_eq_some_iff.mp H
  obtain ⟨t254, A70, H⟩ := H
  replace H : (if t253.toList = t254.toList then ((weighhouselaw02_Same.f k t245 t249).bind fun t255 => (if t255 = true then ((weighhouselaw02_num.f t246).bind fun t256 => (if t256 = t250 then ((weighhouselaw02_Same.f k t242 l0).bind fun t257 => (if t257 = true then ((weighhouselaw02_knows.f k).bind fun t258 => (some t258)) else (some false))) else (some false))) else (some false))) else (some false)) = some r := H
  have A7 := Aside0.mk A70
  clear A70
  by_cases c8 : t253.toList = t254.toList
  · rw [if_pos c8] at H
    have c8b0 : (t253.toList == t254.toList) = true := beq_iff_eq.mpr c8
    have c8b1 : (t253.toList != t254.toList) = false := bne_eq_false_iff_eq.mpr c8
    clear c8
    replace H := Option.bind_eq_some_iff.mp H
    obtain ⟨t255, A90, H⟩ := H
    replace H : (if t255 = true then ((weighhouselaw02_num.f t246).bind fun t256 => (if t256 = t250 then ((weighhouselaw02_Same.f k t242 l0).bind fun t257 => (if t257 = true then ((weighhouselaw02_knows.f k).bind fun t258 => (some t258)) else (some false))) else (some false))) else (some false)) = some r := H
    have A9 := Aside0.mk A90
    clear A90
    by_cases c10 : t255 = true
    · subst c10
      have H1 : ((weighhouselaw02_num.f t246).bind fun t256 => (if t256 = t250 then ((weighhouselaw02_Same.f k t242 l0).bind fun t257 => (if t257 = true then ((weighhouselaw02_knows.f k).bind fun t258 => (some t258)) else (some false))) else (some false))) = some r := by rw [if_pos rfl] at H; exact H
      clear H
      have H := H1
      clear H1
      replace H := Option.bind_eq_some_iff.mp H
      obtain ⟨t256, A110, H⟩ := H
      replace H : (if t256 = t250 then ((weighhouselaw02_Same.f k t242 l0).bind fun t257 => (if t257 = true then ((weighhouselaw02_knows.f k).bind fun t258 => (some t258)) else (some false))) else (some false)) = some r := H
      have A11 := Aside0.mk A110
      clear A110
      by_cases c12 : t256 = t250
      · rw [if_pos c12] at H
        have c12b0 : (t256 == t250) = true := beq_iff_eq.mpr c12
        have c12b1 : (t256 != t250) = false := bne_eq_false_iff_eq.mpr c12
        clear c12
        replace H := Option.bind_eq_some_iff.mp H
        obtain ⟨t257, A130, H⟩ := H
        replace H : (if t257 = true then ((weighhouselaw02_knows.f k).bind fun t258 => (some t258)) else (some false)) = some r := H
        have A13 := Aside0.mk A130
        clear A130
        by_cases c14 : t257 = true
        · subst c14
          have H1 : ((weighhouselaw02_knows.f k).bind fun t258 => (some t258)) = some r := by rw [if_pos rfl] at H; exact H
          clear H
          have H := H1
          clear H1
          replace H := Option.bind_eq_some_iff.mp H
          obtain ⟨t258, A150, H⟩ := H
          replace H : (some t258) = some r := H
          have A15 := Aside0.mk A150
          clear A150
          obtain rfl := Option.some.inj H
          go_enter Tryd.func3, Tryd.ntmps3
          go_wp2_with (first | ((with_reducible refine gate_callee (f := 7) rfl ?_); refine goesL_ (some 11) rfl rfl Tryd.func7 (by kernel_rfl) rfl #[.slice A0 l0.length c0] rfl (by (try simp only [List.map_toArray, List.map_cons, List.map_nil]); first | done | rfl | (simp only [List.length_drop, List.length_take]; rfl)) ?_; (with_reducible refine (weighhouselaw02_Own.calls _ _ l0 t242 _ ?side1 ?side2 A3.out).mono ?_); (case side1 => repeat (first | exact HR0.out | (with_reducible refine Kd.C_alloc ?_ _) | (with_reducible refine Kd.C_drewN ?_ _) | (with_reducible refine Kd.C_drew ?_))); (case side2 => exact HC0.out); rintro e w16 ⟨v243, rfl, ho0, hb⟩; refine ⟨_, rfl, ?_⟩; have n0_ := Aside0.mk (Kd.R_lower ho0 (below_size (by repeat (first | (with_reducible first | exact HB.out | apply below_alloc | apply pw_below_drewN | apply below_drew1) | exact HB.out)))); have n1_ := Aside0.mk (below_step (by repeat (first | (with_reducible first | exact HB.out | apply below_alloc | apply pw_below_drewN | apply below_drew1) | exact HB.out)) hb); clear HB; have HO244 := n0_; have HB := n1_; clear n0_ n1_; (try clear hb); (try clear hb2); (try clear hk); (try clear hi); (try clear ho0)) | ((with_reducible refine gate_callee (f := 8) rfl ?_); refine goesL_ (some 14) rfl rfl Tryd.func8 (by kernel_rfl) rfl #[.string a1] rfl (by (try simp only [List.map_toArray, List.map_cons, List.map_nil]); first | done | rfl | (simp only [List.length_drop, List.length_take]; rfl)) ?_; (with_reducible refine (value_Parse.calls a1 t245 t246 _ A4.out ?sideV).mono ?_); (case sideV => exact HV.out.below (by repeat (first | (with_reducible first | exact HB.out | apply below_alloc | apply pw_below_drewN | apply below_drew1) | exact HB.out))); rintro e w17 ⟨v247, rfl, ho0, hb⟩; refine ⟨_, rfl, ?_⟩; have n0_ := Aside0.mk (Kd.R_elder' (by (with_reducible repeat (first | apply Kd.R_alloc | apply Kd.R_drewN | apply Kd.R_drew)); exact HO244.out) (Kd.R_base ho0) hb); have n1_ := Aside0.mk (Kd.R_lower (Kd.R_new' ho0 (Kd.R_lt (by (with_reducible repeat (first | apply Kd.R_alloc | apply Kd.R_drewN | apply Kd.R_drew)); exact HO244.out))) (below_size (by repeat (first | (with_reducible first | exact HB.out | apply below_alloc | apply pw_below_drewN | apply below_drew1) | exact HB.out)))); have n2_ := Aside0.mk (below_step (by repeat (first | (with_reducible first | exact HB.out | apply below_alloc | apply pw_below_drewN | apply below_drew1) | exact HB.out)) hb); clear HO244; clear HB; have HO244 := n0_; have HO248 := n1_; have HB := n2_; clear n0_ n1_ n2_; (try clear hb); (try clear hb2); (try clear hk); (try clear hi); (try clear ho0)) | ((with_reducible refine gate_callee (f := 9) rfl ?_); refine goesL_ (some 19) rfl rfl Tryd.func9 (by kernel_rfl) rfl #[.string a1] rfl (by (try simp only [List.map_toArray, List.map_cons, List.map_nil]); first | done | rfl | (simp only [List.length_drop, List.length_take]; rfl)) ?_; (with_reducible refine (weighhouseref02_Parse.calls k a1 t249 t250 _ A5.out).mono ?_); rintro e w18 ⟨v251, rfl, ho0, hb⟩; refine ⟨_, rfl, ?_⟩; have n0_ := Aside0.mk (Kd.R_elder' (by (with_reducible repeat (first | apply Kd.R_alloc | apply Kd.R_drewN | apply Kd.R_drew)); exact HO244.out) (Kd.R_base ho0) hb); have n1_ := Aside0.mk (Kd.R_elder' (by (with_reducible repeat (first | apply Kd.R_alloc | apply Kd.R_drewN | apply Kd.R_drew)); exact HO248.out) (Kd.R_base ho0) hb); have n2_ := Aside0.mk (Kd.R_lower (Kd.R_new' (Kd.R_new' ho0 (Kd.R_lt (by (with_reducible repeat (first | apply Kd.R_alloc | apply Kd.R_drewN | apply Kd.R_drew)); exact HO244.out))) (Kd.R_lt (by (with_reducible repeat (first | apply Kd.R_alloc | apply Kd.R_drewN | apply Kd.R_drew)); exact HO248.out))) (below_size (by repeat (first | (with_reducible first | exact HB.out | apply below_alloc | apply pw_below_drewN | apply below_drew1) | exact HB.out)))); have n3_ := Aside0.mk (below_step (by repeat (first | (with_reducible first | exact HB.out | apply below_alloc | apply pw_below_drewN | apply below_drew1) | exact HB.out)) hb); clear HO244; clear HO248; clear HB; have HO244 := n0_; have HO248 := n1_; have HO252 := n2_; have HB := n3_; clear n0_ n1_ n2_ n3_; (try clear hb); (try clear hb2); (try clear hk); (try clear hi); (try clear ho0); obtain ⟨Ao19, co19, eo19⟩ := Kd.R_slice HO244.out; subst eo19) | ((with_reducible refine gate_callee (f := 10) rfl ?_); refine goesL_ (some 23) rfl rfl Tryd.func10 (by kernel_rfl) rfl #[.slice Ao19 t242.length co19] rfl (by (try simp only [List.map_toArray, List.map_cons, List.map_nil]); first | done | rfl | (simp only [List.length_drop, List.length_take]; rfl)) ?_; (with_reducible refine (value_Print.calls k _ _ t242 t253 _ ?side1 ?side2 A6.out ?sideV).mono ?_); (case sideV => exact HV.out.below (by repeat (first | (with_reducible first | exact HB.out | apply below_alloc | apply pw_below_drewN | apply below_drew1) | exact HB.out))); (case side1 => repeat (first | exact (Kd.R_reads' HO244.out).2.2 | (with_reducible refine Kd.C_alloc ?_ _) | (with_reducible refine Kd.C_drewN ?_ _) | (with_reducible refine Kd.C_drew ?_))); (case side2 => exact (Kd.R_reads' HO244.out).2.1); rintro e w20 ⟨rfl, hb⟩; refine ⟨_, rfl, ?_⟩; have n0_ := Aside0.mk (Kd.R_below (by (with_reducible repeat (first | apply Kd.R_alloc | apply Kd.R_drewN | apply Kd.R_drew)); exact HO244.out) hb); have n1_ := Aside0.mk (Kd.R_below (by (with_reducible repeat (first | apply Kd.R_alloc | apply Kd.R_drewN | apply Kd.R_drew)); exact HO248.out) hb); have n2_ := Aside0.mk (Kd.R_below (by (with_reducible repeat (first | apply Kd.R_alloc | apply Kd.R_drewN | apply Kd.R_drew)); exact HO252.out) hb); have n3_ := Aside0.mk (below_step (by repeat (first | (with_reducible first | exact HB.out | apply below_alloc | apply pw_below_drewN | apply below_drew1) | exact HB.out)) hb); clear HO244; clear HO248; clear HO252; clear HB; have HO244 := n0_; have HO248 := n1_; have HO252 := n2_; have HB := n3_; clear n0_ n1_ n2_ n3_; (try clear hb); (try clear hb2); (try clear hk); (try clear hi)) | ((with_reducible refine gate_callee (f := 11) rfl ?_); refine goesL_ (some 25) rfl rfl Tryd.func11 (by kernel_rfl) rfl #[.slice A0 l0.length c0] rfl (by (try simp only [List.map_toArray, List.map_cons, List.map_nil]); first | done | rfl | (simp only [List.length_drop, List.length_take]; rfl)) ?_; (with_reducible refine (weighhouseref02_Print.calls k _ _ l0 t254 _ ?side1 ?side2 A7.out).mono ?_); (case side1 => repeat (first | exact (Kd.C_below HR0.out HB.out) | (with_reducible refine Kd.C_alloc ?_ _) | (with_reducible refine Kd.C_drewN ?_ _) | (with_reducible refine Kd.C_drew ?_))); (case side2 => exact HC0.out); rintro e w21 ⟨rfl, hb⟩; refine ⟨_, rfl, ?_⟩; have n0_ := Aside0.mk (Kd.R_below (by (with_reducible repeat (first | apply Kd.R_alloc | apply Kd.R_drewN | apply Kd.R_drew)); exact HO244.out) hb); have n1_ := Aside0.mk (Kd.R_below (by (with_reducible repeat (first | apply Kd.R_alloc | apply Kd.R_drewN | apply Kd.R_drew)); exact HO248.out) hb); have n2_ := Aside0.mk (Kd.R_below (by (with_reducible repeat (first | apply Kd.R_alloc | apply Kd.R_drewN | apply Kd.R_drew)); exact HO252.out) hb); have n3_ := Aside0.mk (below_step (by repeat (first | (with_reducible first | exact HB.out | apply below_alloc | apply pw_below_drewN | apply below_drew1) | exact HB.out)) hb); clear HO244; clear HO248; clear HO252; clear HB; have HO244 := n0_; have HO248 := n1_; have HO252 := n2_; have HB := n3_; clear n0_ n1_ n2_ n3_; (try clear hb); (try clear hb2); (try clear hk); (try clear hi); obtain ⟨Ao22, co22, eo22⟩ := Kd.R_slice HO248.out; subst eo22; obtain ⟨Ao23, co23, eo23⟩ := Kd.R_slice HO252.out; subst eo23) | (go_at_call 12; (with_reducible refine (weighhouselaw02_Same.calls k _ _ t245 _ _ t249 true _ ?side1 ?side2 ?side3 ?side4 A9.out).mono ?_); (case side1 => repeat (first | exact (Kd.R_reads' HO248.out).2.2 | (with_reducible refine Kd.C_alloc ?_ _) | (with_reducible refine Kd.C_drewN ?_ _) | (with_reducible refine Kd.C_drew ?_))); (case side2 => exact (Kd.R_reads' HO248.out).2.1); (case side3 => repeat (first | exact (Kd.R_reads' HO252.out).2.2 | (with_reducible refine Kd.C_alloc ?_ _) | (with_reducible refine Kd.C_drewN ?_ _) | (with_reducible refine Kd.C_drew ?_))); (case side4 => exact (Kd.R_reads' HO252.out).2.1); rintro e w' ⟨rfl, ⟨nd, rfl⟩⟩) | (go_at_call 13; (with_reducible refine (weighhouselaw02_num.calls t246 t256 _ A11.out).mono ?_); rintro e w' ⟨rfl, ⟨nd, rfl⟩⟩) | (go_at_call 12; (with_reducible refine (weighhouselaw02_Same.calls k _ _ t242 _ _ l0 true _ ?side1 ?side2 ?side3 ?side4 A13.out).mono ?_); (case side1 => repeat (first | exact (Kd.R_reads' HO244.out).2.2 | (with_reducible refine Kd.C_alloc ?_ _) | (with_reducible refine Kd.C_drewN ?_ _) | (with_reducible refine Kd.C_drew ?_))); (case side2 => exact (Kd.R_reads' HO244.out).2.1); (case side3 => repeat (first | exact (Kd.C_below HR0.out (by repeat (first | (with_reducible first | exact HB.out | apply below_alloc | apply pw_below_drewN | apply below_drew1) | exact HB.out))) | (with_reducible refine Kd.C_alloc ?_ _) | (with_reducible refine Kd.C_drewN ?_ _) | (with_reducible refine Kd.C_drew ?_))); (case side4 => exact HC0.out); rintro e w' ⟨rfl, ⟨nd, rfl⟩⟩) | (go_at_call 14; (with_reducible refine (weighhouselaw02_knows.calls k  t258 _ A15.out ?sideV).mono ?_); (case sideV => exact HV.out.below (by repeat (first | (with_reducible first | exact HB.out | apply below_alloc | apply pw_below_drewN | apply below_drew1) | exact HB.out))); rintro e w24 ⟨rfl, hb⟩; have n0_ := Aside0.mk (Kd.R_below (by (with_reducible repeat (first | apply Kd.R_alloc | apply Kd.R_drewN | apply Kd.R_drew)); exact HO244.out) hb); have n1_ := Aside0.mk (Kd.R_below (by (with_reducible repeat (first | apply Kd.R_alloc | apply Kd.R_drewN | apply Kd.R_drew)); exact HO248.out) hb); have n2_ := Aside0.mk (Kd.R_below (by (with_reducible repeat (first | apply Kd.R_alloc | apply Kd.R_drewN | apply Kd.R_drew)); exact HO252.out) hb); have n3_ := Aside0.mk (below_step (by repeat (first | (with_reducible first | exact HB.out | apply below_alloc | apply pw_below_drewN | apply below_drew1) | exact HB.out)) hb); clear HO244; clear HO248; clear HO252; clear HB; have HO244 := n0_; have HO248 := n1_; have HO252 := n2_; have HB := n3_; clear n0_ n1_ n2_ n3_; (try clear hb); (try clear hb2); (try clear hk); (try clear hi)))
          go_ret
          exact ⟨by first | rfl | (simp [errW_none, errW_some] <;> rfl) | (simp [*, errW_none, errW_some] <;> rfl), by repeat (first | (with_reducible first | exact HB.out | apply below_alloc | apply pw_below_drewN | apply below_drew1) | exact HB.out)⟩
        · replace c14 := Bool.eq_false_iff.mpr c14
          subst c14
          have H1 : (some false) = some r := by rw [if_neg (show ¬ (false = true) by decide)] at H; exact H
          clear H
          have H := H1
          clear H1
          obtain rfl := Option.some.inj H
          go_enter Tryd.func3, Tryd.ntmps3
          go_wp2_with (first | ((with_reducible refine gate_callee (f := 7) rfl ?_); refine goesL_ (some 11) rfl rfl Tryd.func7 (by kernel_rfl) rfl #[.slice A0 l0.length c0] rfl (by (try simp only [List.map_toArray, List.map_cons, List.map_nil]); first | done | rfl | (simp only [List.length_drop, List.length_take]; rfl)) ?_; (with_reducible refine (weighhouselaw02_Own.calls _ _ l0 t242 _ ?side1 ?side2 A3.out).mono ?_); (case side1 => repeat (first | exact HR0.out | (with_reducible refine Kd.C_alloc ?_ _) | (with_reducible refine Kd.C_drewN ?_ _) | (with_reducible refine Kd.C_drew ?_))); (case side2 => exact HC0.out); rintro e w25 ⟨v243, rfl, ho0, hb⟩; refine ⟨_, rfl, ?_⟩; have n0_ := Aside0.mk (Kd.R_lower ho0 (below_size (by repeat (first | (with_reducible first | exact HB.out | apply below_alloc | apply pw_below_drewN | apply below_drew1) | exact HB.out)))); have n1_ := Aside0.mk (below_step (by repeat (first | (with_reducible first | exact HB.out | apply below_alloc | apply pw_below_drewN | apply below_drew1) | exact HB.out)) hb); clear HB; have HO244 := n0_; have HB := n1_; clear n0_ n1_; (try clear hb); (try clear hb2); (try clear hk); (try clear hi); (try clear ho0)) | ((with_reducible refine gate_callee (f := 8) rfl ?_); refine goesL_ (some 14) rfl rfl Tryd.func8 (by kernel_rfl) rfl #[.string a1] rfl (by (try simp only [List.map_toArray, List.map_cons, List.map_nil]); first | done | rfl | (simp only [List.length_drop, List.length_take]; rfl)) ?_; (with_reducible refine (value_Parse.calls a1 t245 t246 _ A4.out ?sideV).mono ?_); (case sideV => exact HV.out.below (by repeat (first | (with_reducible first | exact HB.out | apply below_alloc | apply pw_below_drewN | apply below_drew1) | exact HB.out))); rintro e w26 ⟨v247, rfl, ho0, hb⟩; refine ⟨_, rfl, ?_⟩; have n0_ := Aside0.mk (Kd.R_elder' (by (with_reducible repeat (first | apply Kd.R_alloc | apply Kd.R_drewN | apply Kd.R_drew)); exact HO244.out) (Kd.R_base ho0) hb); have n1_ := Aside0.mk (Kd.R_lower (Kd.R_new' ho0 (Kd.R_lt (by (with_reducible repeat (first | apply Kd.R_alloc | apply Kd.R_drewN | apply Kd.R_drew)); exact HO244.out))) (below_size (by repeat (first | (with_reducible first | exact HB.out | apply below_alloc | apply pw_below_drewN | apply below_drew1) | exact HB.out)))); have n2_ := Aside0.mk (below_step (by repeat (first | (with_reducible first | exact HB.out | apply below_alloc | apply pw_below_drewN | apply below_drew1) | exact HB.out)) hb); clear HO244; clear HB; have HO244 := n0_; have HO248 := n1_; have HB := n2_; clear n0_ n1_ n2_; (try clear hb); (try clear hb2); (try clear hk); (try clear hi); (try clear ho0)) | ((with_reducible refine gate_callee (f := 9) rfl ?_); refine goesL_ (some 19) rfl rfl Tryd.func9 (by kernel_rfl) rfl #[.string a1] rfl (by (try simp only [List.map_toArray, List.map_cons, List.map_nil]); first | done | rfl | (simp only [List.length_drop, List.length_take]; rfl)) ?_; (with_reducible refine (weighhouseref02_Parse.calls k a1 t249 t250 _ A5.out).mono ?_); rintro e w27 ⟨v251, rfl, ho0, hb⟩; refine ⟨_, rfl, ?_⟩; have n0_ := Aside0.mk (Kd.R_elder' (by (with_reducible repeat (first | apply Kd.R_alloc | apply Kd.R_drewN | apply Kd.R_drew)); exact HO244.out) (Kd.R_base ho0) hb); have n1_ := Aside0.mk (Kd.R_elder' (by (with_reducible repeat (first | apply Kd.R_alloc | apply Kd.R_drewN | apply Kd.R_drew)); exact HO248.out) (Kd.R_base ho0) hb); have n2_ := Aside0.mk (Kd.R_lower (Kd.R_new' (Kd.R_new' ho0 (Kd.R_lt (by (with_reducible repeat (first | apply Kd.R_alloc | apply Kd.R_drewN | apply Kd.R_drew)); exact HO244.out))) (Kd.R_lt (by (with_reducible repeat (first | apply Kd.R_alloc | apply Kd.R_drewN | apply Kd.R_drew)); exact HO248.out))) (below_size (by repeat (first | (with_reducible first | exact HB.out | apply below_alloc | apply pw_below_drewN | apply below_drew1) | exact HB.out)))); have n3_ := Aside0.mk (below_step (by repeat (first | (with_reducible first | exact HB.out | apply below_alloc | apply pw_below_drewN | apply below_drew1) | exact HB.out)) hb); clear HO244; clear HO248; clear HB; have HO244 := n0_; have HO248 := n1_; have HO252 := n2_; have HB := n3_; clear n0_ n1_ n2_ n3_; (try clear hb); (try clear hb2); (try clear hk); (try clear hi); (try clear ho0); obtain ⟨Ao28, co28, eo28⟩ := Kd.R_slice HO244.out; subst eo28) | ((with_reducible refine gate_callee (f := 10) rfl ?_); refine goesL_ (some 23) rfl rfl Tryd.func10 (by kernel_rfl) rfl #[.slice Ao28 t242.length co28] rfl (by (try simp only [List.map_toArray, List.map_cons, List.map_nil]); first | done | rfl | (simp only [List.length_drop, List.length_take]; rfl)) ?_; (with_reducible refine (value_Print.calls k _ _ t242 t253 _ ?side1 ?side2 A6.out ?sideV).mono ?_); (case sideV => exact HV.out.below (by repeat (first | (with_reducible first | exact HB.out | apply below_alloc | apply pw_below_drewN | apply below_drew1) | exact HB.out))); (case side1 => repeat (first | exact (Kd.R_reads' HO244.out).2.2 | (with_reducible refine Kd.C_alloc ?_ _) | (with_reducible refine Kd.C_drewN ?_ _) | (with_reducible refine Kd.C_drew ?_))); (case side2 => exact (Kd.R_reads' HO244.out).2.1); rintro e w29 ⟨rfl, hb⟩; refine ⟨_, rfl, ?_⟩; have n0_ := Aside0.mk (Kd.R_below (by (with_reducible repeat (first | apply Kd.R_alloc | apply Kd.R_drewN | apply Kd.R_drew)); exact HO244.out) hb); have n1_ := Aside0.mk (Kd.R_below (by (with_reducible repeat (first | apply Kd.R_alloc | apply Kd.R_drewN | apply Kd.R_drew)); exact HO248.out) hb); have n2_ := Aside0.mk (Kd.R_below (by (with_reducible repeat (first | apply Kd.R_alloc | apply Kd.R_drewN | apply Kd.R_drew)); exact HO252.out) hb); have n3_ := Aside0.mk (below_step (by repeat (first | (with_reducible first | exact HB.out | apply below_alloc | apply pw_below_drewN | apply below_drew1) | exact HB.out)) hb); clear HO244; clear HO248; clear HO252; clear HB; have HO244 := n0_; have HO248 := n1_; have HO252 := n2_; have HB := n3_; clear n0_ n1_ n2_ n3_; (try clear hb); (try clear hb2); (try clear hk); (try clear hi)) | ((with_reducible refine gate_callee (f := 11) rfl ?_); refine goesL_ (some 25) rfl rfl Tryd.func11 (by kernel_rfl) rfl #[.slice A0 l0.length c0] rfl (by (try simp only [List.map_toArray, List.map_cons, List.map_nil]); first | done | rfl | (simp only [List.length_drop, List.length_take]; rfl)) ?_; (with_reducible refine (weighhouseref02_Print.calls k _ _ l0 t254 _ ?side1 ?side2 A7.out).mono ?_); (case side1 => repeat (first | exact (Kd.C_below HR0.out HB.out) | (with_reducible refine Kd.C_alloc ?_ _) | (with_reducible refine Kd.C_drewN ?_ _) | (with_reducible refine Kd.C_drew ?_))); (case side2 => exact HC0.out); rintro e w30 ⟨rfl, hb⟩; refine ⟨_, rfl, ?_⟩; have n0_ := Aside0.mk (Kd.R_below (by (with_reducible repeat (first | apply Kd.R_alloc | apply Kd.R_drewN | apply Kd.R_drew)); exact HO244.out) hb); have n1_ := Aside0.mk (Kd.R_below (by (with_reducible repeat (first | apply Kd.R_alloc | apply Kd.R_drewN | apply Kd.R_drew)); exact HO248.out) hb); have n2_ := Aside0.mk (Kd.R_below (by (with_reducible repeat (first | apply Kd.R_alloc | apply Kd.R_drewN | apply Kd.R_drew)); exact HO252.out) hb); have n3_ := Aside0.mk (below_step (by repeat (first | (with_reducible first | exact HB.out | apply below_alloc | apply pw_below_drewN | apply below_drew1) | exact HB.out)) hb); clear HO244; clear HO248; clear HO252; clear HB; have HO244 := n0_; have HO248 := n1_; have HO252 := n2_; have HB := n3_; clear n0_ n1_ n2_ n3_; (try clear hb); (try clear hb2); (try clear hk); (try clear hi); obtain ⟨Ao31, co31, eo31⟩ := Kd.R_slice HO248.out; subst eo31; obtain ⟨Ao32, co32, eo32⟩ := Kd.R_slice HO252.out; subst eo32) | (go_at_call 12; (with_reducible refine (weighhouselaw02_Same.calls k _ _ t245 _ _ t249 true _ ?side1 ?side2 ?side3 ?side4 A9.out).mono ?_); (case side1 => repeat (first | exact (Kd.R_reads' HO248.out).2.2 | (with_reducible refine Kd.C_alloc ?_ _) | (with_reducible refine Kd.C_drewN ?_ _) | (with_reducible refine Kd.C_drew ?_))); (case side2 => exact (Kd.R_reads' HO248.out).2.1); (case side3 => repeat (first | exact (Kd.R_reads' HO252.out).2.2 | (with_reducible refine Kd.C_alloc ?_ _) | (with_reducible refine Kd.C_drewN ?_ _) | (with_reducible refine Kd.C_drew ?_))); (case side4 => exact (Kd.R_reads' HO252.out).2.1); rintro e w' ⟨rfl, ⟨nd, rfl⟩⟩) | (go_at_call 13; (with_reducible refine (weighhouselaw02_num.calls t246 t256 _ A11.out).mono ?_); rintro e w' ⟨rfl, ⟨nd, rfl⟩⟩) | (go_at_call 12; (with_reducible refine (weighhouselaw02_Same.calls k _ _ t242 _ _ l0 false _ ?side1 ?side2 ?side3 ?side4 A13.out).mono ?_); (case side1 => repeat (first | exact (Kd.R_reads' HO244.out).2.2 | (with_reducible refine Kd.C_alloc ?_ _) | (with_reducible refine Kd.C_drewN ?_ _) | (with_reducible refine Kd.C_drew ?_))); (case side2 => exact (Kd.R_reads' HO244.out).2.1); (case side3 => repeat (first | exact (Kd.C_below HR0.out (by repeat (first | (with_reducible first | exact HB.out | apply below_alloc | apply pw_below_drewN | apply below_drew1) | exact HB.out))) | (with_reducible refine Kd.C_alloc ?_ _) | (with_reducible refine Kd.C_drewN ?_ _) | (with_reducible refine Kd.C_drew ?_))); (case side4 => exact HC0.out); rintro e w' ⟨rfl, ⟨nd, rfl⟩⟩))
          go_ret
          exact ⟨by first | rfl | (simp [errW_none, errW_some] <;> rfl) | (simp [*, errW_none, errW_some] <;> rfl), by repeat (first | (with_reducible first | exact HB.out | apply below_alloc | apply pw_below_drewN | apply below_drew1) | exact HB.out)⟩
      · rw [if_neg c12] at H
        have c12b0 : (t256 == t250) = false := beq_eq_false_iff_ne.mpr c12
        have c12b1 : (t256 != t250) = true := bne_iff_ne.mpr c12
        obtain rfl := Option.some.inj H
        go_enter Tryd.func3, Tryd.ntmps3
        go_wp2_with (first | ((with_reducible refine gate_callee (f := 7) rfl ?_); refine goesL_ (some 11) rfl rfl Tryd.func7 (by kernel_rfl) rfl #[.slice A0 l0.length c0] rfl (by (try simp only [List.map_toArray, List.map_cons, List.map_nil]); first | done | rfl | (simp only [List.length_drop, List.length_take]; rfl)) ?_; (with_reducible refine (weighhouselaw02_Own.calls _ _ l0 t242 _ ?side1 ?side2 A3.out).mono ?_); (case side1 => repeat (first | exact HR0.out | (with_reducible refine Kd.C_alloc ?_ _) | (with_reducible refine Kd.C_drewN ?_ _) | (with_reducible refine Kd.C_drew ?_))); (case side2 => exact HC0.out); rintro e w33 ⟨v243, rfl, ho0, hb⟩; refine ⟨_, rfl, ?_⟩; have n0_ := Aside0.mk (Kd.R_lower ho0 (below_size (by repeat (first | (with_reducible first | exact HB.out | apply below_alloc | apply pw_below_drewN | apply below_drew1) | exact HB.out)))); have n1_ := Aside0.mk (below_step (by repeat (first | (with_reducible first | exact HB.out | apply below_alloc | apply pw_below_drewN | apply below_drew1) | exact HB.out)) hb); clear HB; have HO244 := n0_; have HB := n1_; clear n0_ n1_; (try clear hb); (try clear hb2); (try clear hk); (try clear hi); (try clear ho0)) | ((with_reducible refine gate_callee (f := 8) rfl ?_); refine goesL_ (some 14) rfl rfl Tryd.func8 (by kernel_rfl) rfl #[.string a1] rfl (by (try simp only [List.map_toArray, List.map_cons, List.map_nil]); first | done | rfl | (simp only [List.length_drop, List.length_take]; rfl)) ?_; (with_reducible refine (value_Parse.calls a1 t245 t246 _ A4.out ?sideV).mono ?_); (case sideV => exact HV.out.below (by repeat (first | (with_reducible first | exact HB.out | apply below_alloc | apply pw_below_drewN | apply below_drew1) | exact HB.out))); rintro e w34 ⟨v247, rfl, ho0, hb⟩; refine ⟨_, rfl, ?_⟩; have n0_ := Aside0.mk (Kd.R_elder' (by (with_reducible repeat (first | apply Kd.R_alloc | apply Kd.R_drewN | apply Kd.R_drew)); exact HO244.out) (Kd.R_base ho0) hb); have n1_ := Aside0.mk (Kd.R_lower (Kd.R_new' ho0 (Kd.R_lt (by (with_reducible repeat (first | apply Kd.R_alloc | apply Kd.R_drewN | apply Kd.R_drew)); exact HO244.out))) (below_size (by repeat (first | (with_reducible first | exact HB.out | apply below_alloc | apply pw_below_drewN | apply below_drew1) | exact HB.out)))); have n2_ := Aside0.mk (below_step (by repeat (first | (with_reducible first | exact HB.out | apply below_alloc | apply pw_below_drewN | apply below_drew1) | exact HB.out)) hb); clear HO244; clear HB; have HO244 := n0_; have HO248 := n1_; have HB := n2_; clear n0_ n1_ n2_; (try clear hb); (try clear hb2); (try clear hk); (try clear hi); (try clear ho0)) | ((with_reducible refine gate_callee (f := 9) rfl ?_); refine goesL_ (some 19) rfl rfl Tryd.func9 (by kernel_rfl) rfl #[.string a1] rfl (by (try simp only [List.map_toArray, List.map_cons, List.map_nil]); first | done | rfl | (simp only [List.length_drop, List.length_take]; rfl)) ?_; (with_reducible refine (weighhouseref02_Parse.calls k a1 t249 t250 _ A5.out).mono ?_); rintro e w35 ⟨v251, rfl, ho0, hb⟩; refine ⟨_, rfl, ?_⟩; have n0_ := Aside0.mk (Kd.R_elder' (by (with_reducible repeat (first | apply Kd.R_alloc | apply Kd.R_drewN | apply Kd.R_drew)); exact HO244.out) (Kd.R_base ho0) hb); have n1_ := Aside0.mk (Kd.R_elder' (by (with_reducible repeat (first | apply Kd.R_alloc | apply Kd.R_drewN | apply Kd.R_drew)); exact HO248.out) (Kd.R_base ho0) hb); have n2_ := Aside0.mk (Kd.R_lower (Kd.R_new' (Kd.R_new' ho0 (Kd.R_lt (by (with_reducible repeat (first | apply Kd.R_alloc | apply Kd.R_drewN | apply Kd.R_drew)); exact HO244.out))) (Kd.R_lt (by (with_reducible repeat (first | apply Kd.R_alloc | apply Kd.R_drewN | apply Kd.R_drew)); exact HO248.out))) (below_size (by repeat (first | (with_reducible first | exact HB.out | apply below_alloc | apply pw_below_drewN | apply below_drew1) | exact HB.out)))); have n3_ := Aside0.mk (below_step (by repeat (first | (with_reducible first | exact HB.out | apply below_alloc | apply pw_below_drewN | apply below_drew1) | exact HB.out)) hb); clear HO244; clear HO248; clear HB; have HO244 := n0_; have HO248 := n1_; have HO252 := n2_; have HB := n3_; clear n0_ n1_ n2_ n3_; (try clear hb); (try clear hb2); (try clear hk); (try clear hi); (try clear ho0); obtain ⟨Ao36, co36, eo36⟩ := Kd.R_slice HO244.out; subst eo36) | ((with_reducible refine gate_callee (f := 10) rfl ?_); refine goesL_ (some 23) rfl rfl Tryd.func10 (by kernel_rfl) rfl #[.slice Ao36 t242.length co36] rfl (by (try simp only [List.map_toArray, List.map_cons, List.map_nil]); first | done | rfl | (simp only [List.length_drop, List.length_take]; rfl)) ?_; (with_reducible refine (value_Print.calls k _ _ t242 t253 _ ?side1 ?side2 A6.out ?sideV).mono ?_); (case sideV => exact HV.out.below (by repeat (first | (with_reducible first | exact HB.out | apply below_alloc | apply pw_below_drewN | apply below_drew1) | exact HB.out))); (case side1 => repeat (first | exact (Kd.R_reads' HO244.out).2.2 | (with_reducible refine Kd.C_alloc ?_ _) | (with_reducible refine Kd.C_drewN ?_ _) | (with_reducible refine Kd.C_drew ?_))); (case side2 => exact (Kd.R_reads' HO244.out).2.1); rintro e w37 ⟨rfl, hb⟩; refine ⟨_, rfl, ?_⟩; have n0_ := Aside0.mk (Kd.R_below (by (with_reducible repeat (first | apply Kd.R_alloc | apply Kd.R_drewN | apply Kd.R_drew)); exact HO244.out) hb); have n1_ := Aside0.mk (Kd.R_below (by (with_reducible repeat (first | apply Kd.R_alloc | apply Kd.R_drewN | apply Kd.R_drew)); exact HO248.out) hb); have n2_ := Aside0.mk (Kd.R_below (by (with_reducible repeat (first | apply Kd.R_alloc | apply Kd.R_drewN | apply Kd.R_drew)); exact HO252.out) hb); have n3_ := Aside0.mk (below_step (by repeat (first | (with_reducible first | exact HB.out | apply below_alloc | apply pw_below_drewN | apply below_drew1) | exact HB.out)) hb); clear HO244; clear HO248; clear HO252; clear HB; have HO244 := n0_; have HO248 := n1_; have HO252 := n2_; have HB := n3_; clear n0_ n1_ n2_ n3_; (try clear hb); (try clear hb2); (try clear hk); (try clear hi)) | ((with_reducible refine gate_callee (f := 11) rfl ?_); refine goesL_ (some 25) rfl rfl Tryd.func11 (by kernel_rfl) rfl #[.slice A0 l0.length c0] rfl (by (try simp only [List.map_toArray, List.map_cons, List.map_nil]); first | done | rfl | (simp only [List.length_drop, List.length_take]; rfl)) ?_; (with_reducible refine (weighhouseref02_Print.calls k _ _ l0 t254 _ ?side1 ?side2 A7.out).mono ?_); (case side1 => repeat (first | exact (Kd.C_below HR0.out HB.out) | (with_reducible refine Kd.C_alloc ?_ _) | (with_reducible refine Kd.C_drewN ?_ _) | (with_reducible refine Kd.C_drew ?_))); (case side2 => exact HC0.out); rintro e w38 ⟨rfl, hb⟩; refine ⟨_, rfl, ?_⟩; have n0_ := Aside0.mk (Kd.R_below (by (with_reducible repeat (first | apply Kd.R_alloc | apply Kd.R_drewN | apply Kd.R_drew)); exact HO244.out) hb); have n1_ := Aside0.mk (Kd.R_below (by (with_reducible repeat (first | apply Kd.R_alloc | apply Kd.R_drewN | apply Kd.R_drew)); exact HO248.out) hb); have n2_ := Aside0.mk (Kd.R_below (by (with_reducible repeat (first | apply Kd.R_alloc | apply Kd.R_drewN | apply Kd.R_drew)); exact HO252.out) hb); have n3_ := Aside0.mk (below_step (by repeat (first | (with_reducible first | exact HB.out | apply below_alloc | apply pw_below_drewN | apply below_drew1) | exact HB.out)) hb); clear HO244; clear HO248; clear HO252; clear HB; have HO244 := n0_; have HO248 := n1_; have HO252 := n2_; have HB := n3_; clear n0_ n1_ n2_ n3_; (try clear hb); (try clear hb2); (try clear hk); (try clear hi); obtain ⟨Ao39, co39, eo39⟩ := Kd.R_slice HO248.out; subst eo39; obtain ⟨Ao40, co40, eo40⟩ := Kd.R_slice HO252.out; subst eo40) | (go_at_call 12; (with_reducible refine (weighhouselaw02_Same.calls k _ _ t245 _ _ t249 true _ ?side1 ?side2 ?side3 ?side4 A9.out).mono ?_); (case side1 => repeat (first | exact (Kd.R_reads' HO248.out).2.2 | (with_reducible refine Kd.C_alloc ?_ _) | (with_reducible refine Kd.C_drewN ?_ _) | (with_reducible refine Kd.C_drew ?_))); (case side2 => exact (Kd.R_reads' HO248.out).2.1); (case side3 => repeat (first | exact (Kd.R_reads' HO252.out).2.2 | (with_reducible refine Kd.C_alloc ?_ _) | (with_reducible refine Kd.C_drewN ?_ _) | (with_reducible refine Kd.C_drew ?_))); (case side4 => exact (Kd.R_reads' HO252.out).2.1); rintro e w' ⟨rfl, ⟨nd, rfl⟩⟩) | (go_at_call 13; (with_reducible refine (weighhouselaw02_num.calls t246 t256 _ A11.out).mono ?_); rintro e w' ⟨rfl, ⟨nd, rfl⟩⟩))
        go_ret
        exact ⟨by first | rfl | (simp [errW_none, errW_some] <;> rfl) | (simp [*, errW_none, errW_some] <;> rfl), by repeat (first | (with_reducible first | exact HB.out | apply below_alloc | apply pw_below_drewN | apply below_drew1) | exact HB.out)⟩
    · replace c10 := Bool.eq_false_iff.mpr c10
      subst c10
      have H1 : (some false) = some r := by rw [if_neg (show ¬ (false = true) by decide)] at H; exact H
      clear H
      have H := H1
      clear H1
      obtain rfl := Option.some.inj H
      go_enter Tryd.func3, Tryd.ntmps3
      go_wp2_with (first | ((with_reducible refine gate_callee (f := 7) rfl ?_); refine goesL_ (some 11) rfl rfl Tryd.func7 (by kernel_rfl) rfl #[.slice A0 l0.length c0] rfl (by (try simp only [List.map_toArray, List.map_cons, List.map_nil]); first | done | rfl | (simp only [List.length_drop, List.length_take]; rfl)) ?_; (with_reducible refine (weighhouselaw02_Own.calls _ _ l0 t242 _ ?side1 ?side2 A3.out).mono ?_); (case side1 => repeat (first | exact HR0.out | (with_reducible refine Kd.C_alloc ?_ _) | (with_reducible refine Kd.C_drewN ?_ _) | (with_reducible refine Kd.C_drew ?_))); (case side2 => exact HC0.out); rintro e w41 ⟨v243, rfl, ho0, hb⟩; refine ⟨_, rfl, ?_⟩; have n0_ := Aside0.mk (Kd.R_lower ho0 (below_size (by repeat (first | (with_reducible first | exact HB.out | apply below_alloc | apply pw_below_drewN | apply below_drew1) | exact HB.out)))); have n1_ := Aside0.mk (below_step (by repeat (first | (with_reducible first | exact HB.out | apply below_alloc | apply pw_below_drewN | apply below_drew1) | exact HB.out)) hb); clear HB; have HO244 := n0_; have HB := n1_; clear n0_ n1_; (try clear hb); (try clear hb2); (try clear hk); (try clear hi); (try clear ho0)) | ((with_reducible refine gate_callee (f := 8) rfl ?_); refine goesL_ (some 14) rfl rfl Tryd.func8 (by kernel_rfl) rfl #[.string a1] rfl (by (try simp only [List.map_toArray, List.map_cons, List.map_nil]); first | done | rfl | (simp only [List.length_drop, List.length_take]; rfl)) ?_; (with_reducible refine (value_Parse.calls a1 t245 t246 _ A4.out ?sideV).mono ?_); (case sideV => exact HV.out.below (by repeat (first | (with_reducible first | exact HB.out | apply below_alloc | apply pw_below_drewN | apply below_drew1) | exact HB.out))); rintro e w42 ⟨v247, rfl, ho0, hb⟩; refine ⟨_, rfl, ?_⟩; have n0_ := Aside0.mk (Kd.R_elder' (by (with_reducible repeat (first | apply Kd.R_alloc | apply Kd.R_drewN | apply Kd.R_drew)); exact HO244.out) (Kd.R_base ho0) hb); have n1_ := Aside0.mk (Kd.R_lower (Kd.R_new' ho0 (Kd.R_lt (by (with_reducible repeat (first | apply Kd.R_alloc | apply Kd.R_drewN | apply Kd.R_drew)); exact HO244.out))) (below_size (by repeat (first | (with_reducible first | exact HB.out | apply below_alloc | apply pw_below_drewN | apply below_drew1) | exact HB.out)))); have n2_ := Aside0.mk (below_step (by repeat (first | (with_reducible first | exact HB.out | apply below_alloc | apply pw_below_drewN | apply below_drew1) | exact HB.out)) hb); clear HO244; clear HB; have HO244 := n0_; have HO248 := n1_; have HB := n2_; clear n0_ n1_ n2_; (try clear hb); (try clear hb2); (try clear hk); (try clear hi); (try clear ho0)) | ((with_reducible refine gate_callee (f := 9) rfl ?_); refine goesL_ (some 19) rfl rfl Tryd.func9 (by kernel_rfl) rfl #[.string a1] rfl (by (try simp only [List.map_toArray, List.map_cons, List.map_nil]); first | done | rfl | (simp only [List.length_drop, List.length_take]; rfl)) ?_; (with_reducible refine (weighhouseref02_Parse.calls k a1 t249 t250 _ A5.out).mono ?_); rintro e w43 ⟨v251, rfl, ho0, hb⟩; refine ⟨_, rfl, ?_⟩; have n0_ := Aside0.mk (Kd.R_elder' (by (with_reducible repeat (first | apply Kd.R_alloc | apply Kd.R_drewN | apply Kd.R_drew)); exact HO244.out) (Kd.R_base ho0) hb); have n1_ := Aside0.mk (Kd.R_elder' (by (with_reducible repeat (first | apply Kd.R_alloc | apply Kd.R_drewN | apply Kd.R_drew)); exact HO248.out) (Kd.R_base ho0) hb); have n2_ := Aside0.mk (Kd.R_lower (Kd.R_new' (Kd.R_new' ho0 (Kd.R_lt (by (with_reducible repeat (first | apply Kd.R_alloc | apply Kd.R_drewN | apply Kd.R_drew)); exact HO244.out))) (Kd.R_lt (by (with_reducible repeat (first | apply Kd.R_alloc | apply Kd.R_drewN | apply Kd.R_drew)); exact HO248.out))) (below_size (by repeat (first | (with_reducible first | exact HB.out | apply below_alloc | apply pw_below_drewN | apply below_drew1) | exact HB.out)))); have n3_ := Aside0.mk (below_step (by repeat (first | (with_reducible first | exact HB.out | apply below_alloc | apply pw_below_drewN | apply below_drew1) | exact HB.out)) hb); clear HO244; clear HO248; clear HB; have HO244 := n0_; have HO248 := n1_; have HO252 := n2_; have HB := n3_; clear n0_ n1_ n2_ n3_; (try clear hb); (try clear hb2); (try clear hk); (try clear hi); (try clear ho0); obtain ⟨Ao44, co44, eo44⟩ := Kd.R_slice HO244.out; subst eo44) | ((with_reducible refine gate_callee (f := 10) rfl ?_); refine goesL_ (some 23) rfl rfl Tryd.func10 (by kernel_rfl) rfl #[.slice Ao44 t242.length co44] rfl (by (try simp only [List.map_toArray, List.map_cons, List.map_nil]); first | done | rfl | (simp only [List.length_drop, List.length_take]; rfl)) ?_; (with_reducible refine (value_Print.calls k _ _ t242 t253 _ ?side1 ?side2 A6.out ?sideV).mono ?_); (case sideV => exact HV.out.below (by repeat (first | (with_reducible first | exact HB.out | apply below_alloc | apply pw_below_drewN | apply below_drew1) | exact HB.out))); (case side1 => repeat (first | exact (Kd.R_reads' HO244.out).2.2 | (with_reducible refine Kd.C_alloc ?_ _) | (with_reducible refine Kd.C_drewN ?_ _) | (with_reducible refine Kd.C_drew ?_))); (case side2 => exact (Kd.R_reads' HO244.out).2.1); rintro e w45 ⟨rfl, hb⟩; refine ⟨_, rfl, ?_⟩; have n0_ := Aside0.mk (Kd.R_below (by (with_reducible repeat (first | apply Kd.R_alloc | apply Kd.R_drewN | apply Kd.R_drew)); exact HO244.out) hb); have n1_ := Aside0.mk (Kd.R_below (by (with_reducible repeat (first | apply Kd.R_alloc | apply Kd.R_drewN | apply Kd.R_drew)); exact HO248.out) hb); have n2_ := Aside0.mk (Kd.R_below (by (with_reducible repeat (first | apply Kd.R_alloc | apply Kd.R_drewN | apply Kd.R_drew)); exact HO252.out) hb); have n3_ := Aside0.mk (below_step (by repeat (first | (with_reducible first | exact HB.out | apply below_alloc | apply pw_below_drewN | apply below_drew1) | exact HB.out)) hb); clear HO244; clear HO248; clear HO252; clear HB; have HO244 := n0_; have HO248 := n1_; have HO252 := n2_; have HB := n3_; clear n0_ n1_ n2_ n3_; (try clear hb); (try clear hb2); (try clear hk); (try clear hi)) | ((with_reducible refine gate_callee (f := 11) rfl ?_); refine goesL_ (some 25) rfl rfl Tryd.func11 (by kernel_rfl) rfl #[.slice A0 l0.length c0] rfl (by (try simp only [List.map_toArray, List.map_cons, List.map_nil]); first | done | rfl | (simp only [List.length_drop, List.length_take]; rfl)) ?_; (with_reducible refine (weighhouseref02_Print.calls k _ _ l0 t254 _ ?side1 ?side2 A7.out).mono ?_); (case side1 => repeat (first | exact (Kd.C_below HR0.out HB.out) | (with_reducible refine Kd.C_alloc ?_ _) | (with_reducible refine Kd.C_drewN ?_ _) | (with_reducible refine Kd.C_drew ?_))); (case side2 => exact HC0.out); rintro e w46 ⟨rfl, hb⟩; refine ⟨_, rfl, ?_⟩; have n0_ := Aside0.mk (Kd.R_below (by (with_reducible repeat (first | apply Kd.R_alloc | apply Kd.R_drewN | apply Kd.R_drew)); exact HO244.out) hb); have n1_ := Aside0.mk (Kd.R_below (by (with_reducible repeat (first | apply Kd.R_alloc | apply Kd.R_drewN | apply Kd.R_drew)); exact HO248.out) hb); have n2_ := Aside0.mk (Kd.R_below (by (with_reducible repeat (first | apply Kd.R_alloc | apply Kd.R_drewN | apply Kd.R_drew)); exact HO252.out) hb); have n3_ := Aside0.mk (below_step (by repeat (first | (with_reducible first | exact HB.out | apply below_alloc | apply pw_below_drewN | apply below_drew1) | exact HB.out)) hb); clear HO244; clear HO248; clear HO252; clear HB; have HO244 := n0_; have HO248 := n1_; have HO252 := n2_; have HB := n3_; clear n0_ n1_ n2_ n3_; (try clear hb); (try clear hb2); (try clear hk); (try clear hi); obtain ⟨Ao47, co47, eo47⟩ := Kd.R_slice HO248.out; subst eo47; obtain ⟨Ao48, co48, eo48⟩ := Kd.R_slice HO252.out; subst eo48) | (go_at_call 12; (with_reducible refine (weighhouselaw02_Same.calls k _ _ t245 _ _ t249 false _ ?side1 ?side2 ?side3 ?side4 A9.out).mono ?_); (case side1 => repeat (first | exact (Kd.R_reads' HO248.out).2.2 | (with_reducible refine Kd.C_alloc ?_ _) | (with_reducible refine Kd.C_drewN ?_ _) | (with_reducible refine Kd.C_drew ?_))); (case side2 => exact (Kd.R_reads' HO248.out).2.1); (case side3 => repeat (first | exact (Kd.R_reads' HO252.out).2.2 | (with_reducible refine Kd.C_alloc ?_ _) | (with_reducible refine Kd.C_drewN ?_ _) | (with_reducible refine Kd.C_drew ?_))); (case side4 => exact (Kd.R_reads' HO252.out).2.1); rintro e w' ⟨rfl, ⟨nd, rfl⟩⟩))
      go_ret
      exact ⟨by first | rfl | (simp [errW_none, errW_some] <;> rfl) | (simp [*, errW_none, errW_some] <;> rfl), by repeat (first | (with_reducible first | exact HB.out | apply below_alloc | apply pw_below_drewN | apply below_drew1) | exact HB.out)⟩
  · rw [if_neg c8] at H
    have c8b0 : (t253.toList == t254.toList) = false := beq_eq_false_iff_ne.mpr c8
    have c8b1 : (t253.toList != t254.toList) = true := bne_iff_ne.mpr c8
    obtain rfl := Option.some.inj H
    go_enter Tryd.func3, Tryd.ntmps3
    go_wp2_with (first | ((with_reducible refine gate_callee (f := 7) rfl ?_); refine goesL_ (some 11) rfl rfl Tryd.func7 (by kernel_rfl) rfl #[.slice A0 l0.length c0] rfl (by (try simp only [List.map_toArray, List.map_cons, List.map_nil]); first | done | rfl | (simp only [List.length_drop, List.length_take]; rfl)) ?_; (with_reducible refine (weighhouselaw02_Own.calls _ _ l0 t242 _ ?side1 ?side2 A3.out).mono ?_); (case side1 => repeat (first | exact HR0.out | (with_reducible refine Kd.C_alloc ?_ _) | (with_reducible refine Kd.C_drewN ?_ _) | (with_reducible refine Kd.C_drew ?_))); (case side2 => exact HC0.out); rintro e w49 ⟨v243, rfl, ho0, hb⟩; refine ⟨_, rfl, ?_⟩; have n0_ := Aside0.mk (Kd.R_lower ho0 (below_size (by repeat (first | (with_reducible first | exact HB.out | apply below_alloc | apply pw_below_drewN | apply below_drew1) | exact HB.out)))); have n1_ := Aside0.mk (below_step (by repeat (first | (with_reducible first | exact HB.out | apply below_alloc | apply pw_below_drewN | apply below_drew1) | exact HB.out)) hb); clear HB; have HO244 := n0_; have HB := n1_; clear n0_ n1_; (try clear hb); (try clear hb2); (try clear hk); (try clear hi); (try clear ho0)) | ((with_reducible refine gate_callee (f := 8) rfl ?_); refine goesL_ (some 14) rfl rfl Tryd.func8 (by kernel_rfl) rfl #[.string a1] rfl (by (try simp only [List.map_toArray, List.map_cons, List.map_nil]); first | done | rfl | (simp only [List.length_drop, List.length_take]; rfl)) ?_; (with_reducible refine (value_Parse.calls a1 t245 t246 _ A4.out ?sideV).mono ?_); (case sideV => exact HV.out.below (by repeat (first | (with_reducible first | exact HB.out | apply below_alloc | apply pw_below_drewN | apply below_drew1) | exact HB.out))); rintro e w50 ⟨v247, rfl, ho0, hb⟩; refine ⟨_, rfl, ?_⟩; have n0_ := Aside0.mk (Kd.R_elder' (by (with_reducible repeat (first | apply Kd.R_alloc | apply Kd.R_drewN | apply Kd.R_drew)); exact HO244.out) (Kd.R_base ho0) hb); have n1_ := Aside0.mk (Kd.R_lower (Kd.R_new' ho0 (Kd.R_lt (by (with_reducible repeat (first | apply Kd.R_alloc | apply Kd.R_drewN | apply Kd.R_drew)); exact HO244.out))) (below_size (by repeat (first | (with_reducible first | exact HB.out | apply below_alloc | apply pw_below_drewN | apply below_drew1) | exact HB.out)))); have n2_ := Aside0.mk (below_step (by repeat (first | (with_reducible first | exact HB.out | apply below_alloc | apply pw_below_drewN | apply below_drew1) | exact HB.out)) hb); clear HO244; clear HB; have HO244 := n0_; have HO248 := n1_; have HB := n2_; clear n0_ n1_ n2_; (try clear hb); (try clear hb2); (try clear hk); (try clear hi); (try clear ho0)) | ((with_reducible refine gate_callee (f := 9) rfl ?_); refine goesL_ (some 19) rfl rfl Tryd.func9 (by kernel_rfl) rfl #[.string a1] rfl (by (try simp only [List.map_toArray, List.map_cons, List.map_nil]); first | done | rfl | (simp only [List.length_drop, List.length_take]; rfl)) ?_; (with_reducible refine (weighhouseref02_Parse.calls k a1 t249 t250 _ A5.out).mono ?_); rintro e w51 ⟨v251, rfl, ho0, hb⟩; refine ⟨_, rfl, ?_⟩; have n0_ := Aside0.mk (Kd.R_elder' (by (with_reducible repeat (first | apply Kd.R_alloc | apply Kd.R_drewN | apply Kd.R_drew)); exact HO244.out) (Kd.R_base ho0) hb); have n1_ := Aside0.mk (Kd.R_elder' (by (with_reducible repeat (first | apply Kd.R_alloc | apply Kd.R_drewN | apply Kd.R_drew)); exact HO248.out) (Kd.R_base ho0) hb); have n2_ := Aside0.mk (Kd.R_lower (Kd.R_new' (Kd.R_new' ho0 (Kd.R_lt (by (with_reducible repeat (first | apply Kd.R_alloc | apply Kd.R_drewN | apply Kd.R_drew)); exact HO244.out))) (Kd.R_lt (by (with_reducible repeat (first | apply Kd.R_alloc | apply Kd.R_drewN | apply Kd.R_drew)); exact HO248.out))) (below_size (by repeat (first | (with_reducible first | exact HB.out | apply below_alloc | apply pw_below_drewN | apply below_drew1) | exact HB.out)))); have n3_ := Aside0.mk (below_step (by repeat (first | (with_reducible first | exact HB.out | apply below_alloc | apply pw_below_drewN | apply below_drew1) | exact HB.out)) hb); clear HO244; clear HO248; clear HB; have HO244 := n0_; have HO248 := n1_; have HO252 := n2_; have HB := n3_; clear n0_ n1_ n2_ n3_; (try clear hb); (try clear hb2); (try clear hk); (try clear hi); (try clear ho0); obtain ⟨Ao52, co52, eo52⟩ := Kd.R_slice HO244.out; subst eo52) | ((with_reducible refine gate_callee (f := 10) rfl ?_); refine goesL_ (some 23) rfl rfl Tryd.func10 (by kernel_rfl) rfl #[.slice Ao52 t242.length co52] rfl (by (try simp only [List.map_toArray, List.map_cons, List.map_nil]); first | done | rfl | (simp only [List.length_drop, List.length_take]; rfl)) ?_; (with_reducible refine (value_Print.calls k _ _ t242 t253 _ ?side1 ?side2 A6.out ?sideV).mono ?_); (case sideV => exact HV.out.below (by repeat (first | (with_reducible first | exact HB.out | apply below_alloc | apply pw_below_drewN | apply below_drew1) | exact HB.out))); (case side1 => repeat (first | exact (Kd.R_reads' HO244.out).2.2 | (with_reducible refine Kd.C_alloc ?_ _) | (with_reducible refine Kd.C_drewN ?_ _) | (with_reducible refine Kd.C_drew ?_))); (case side2 => exact (Kd.R_reads' HO244.out).2.1); rintro e w53 ⟨rfl, hb⟩; refine ⟨_, rfl, ?_⟩; have n0_ := Aside0.mk (Kd.R_below (by (with_reducible repeat (first | apply Kd.R_alloc | apply Kd.R_drewN | apply Kd.R_drew)); exact HO244.out) hb); have n1_ := Aside0.mk (Kd.R_below (by (with_reducible repeat (first | apply Kd.R_alloc | apply Kd.R_drewN | apply Kd.R_drew)); exact HO248.out) hb); have n2_ := Aside0.mk (Kd.R_below (by (with_reducible repeat (first | apply Kd.R_alloc | apply Kd.R_drewN | apply Kd.R_drew)); exact HO252.out) hb); have n3_ := Aside0.mk (below_step (by repeat (first | (with_reducible first | exact HB.out | apply below_alloc | apply pw_below_drewN | apply below_drew1) | exact HB.out)) hb); clear HO244; clear HO248; clear HO252; clear HB; have HO244 := n0_; have HO248 := n1_; have HO252 := n2_; have HB := n3_; clear n0_ n1_ n2_ n3_; (try clear hb); (try clear hb2); (try clear hk); (try clear hi)) | ((with_reducible refine gate_callee (f := 11) rfl ?_); refine goesL_ (some 25) rfl rfl Tryd.func11 (by kernel_rfl) rfl #[.slice A0 l0.length c0] rfl (by (try simp only [List.map_toArray, List.map_cons, List.map_nil]); first | done | rfl | (simp only [List.length_drop, List.length_take]; rfl)) ?_; (with_reducible refine (weighhouseref02_Print.calls k _ _ l0 t254 _ ?side1 ?side2 A7.out).mono ?_); (case side1 => repeat (first | exact (Kd.C_below HR0.out HB.out) | (with_reducible refine Kd.C_alloc ?_ _) | (with_reducible refine Kd.C_drewN ?_ _) | (with_reducible refine Kd.C_drew ?_))); (case side2 => exact HC0.out); rintro e w54 ⟨rfl, hb⟩; refine ⟨_, rfl, ?_⟩; have n0_ := Aside0.mk (Kd.R_below (by (with_reducible repeat (first | apply Kd.R_alloc | apply Kd.R_drewN | apply Kd.R_drew)); exact HO244.out) hb); have n1_ := Aside0.mk (Kd.R_below (by (with_reducible repeat (first | apply Kd.R_alloc | apply Kd.R_drewN | apply Kd.R_drew)); exact HO248.out) hb); have n2_ := Aside0.mk (Kd.R_below (by (with_reducible repeat (first | apply Kd.R_alloc | apply Kd.R_drewN | apply Kd.R_drew)); exact HO252.out) hb); have n3_ := Aside0.mk (below_step (by repeat (first | (with_reducible first | exact HB.out | apply below_alloc | apply pw_below_drewN | apply below_drew1) | exact HB.out)) hb); clear HO244; clear HO248; clear HO252; clear HB; have HO244 := n0_; have HO248 := n1_; have HO252 := n2_; have HB := n3_; clear n0_ n1_ n2_ n3_; (try clear hb); (try clear hb2); (try clear hk); (try clear hi)))
    go_ret
    exact ⟨by first | rfl | (simp [errW_none, errW_some] <;> rfl) | (simp [*, errW_none, errW_some] <;> rfl), by repeat (first | (with_reducible first | exact HB.out | apply below_alloc | apply pw_below_drewN | apply below_drew1) | exact HB.out)⟩

end Go.Proofs.YtblaibigjhlblaaDoor.Q
end

section
/- what the readings of the parameters of ValueTexts give -/
set_option linter.unusedVariables false
set_option linter.unusedSimpArgs false
namespace Go.Proofs.YtblaibigjhlblaaDoor.OpValueTexts
open Go.RowKit Go.Proofs.YtblaibigjhlblaaDoorW.PrintWords Go.Proofs.YtblaibigjhlblaaDoorW.Hb Go.Proofs.YtblaibigjhlblaaDoorW.Ho Go.Proofs.YtblaibigjhlblaaDoorW.Hu Go.Proofs.YtblaibigjhlblaaDoor.Q

theorem opens_slice' {P : Program} {t : TypeId} {α : Type} {d : Kd α} {e B : Nat} {Q : α → Prop} (ht : P.underlying t = some (.slice e)) (hs : P.cellsOf e = d.sz) (hB : P.bytesOf e = B) (hp : Opens P d e Q) :
    Opens P (Kd.slice e d) t (fun xs => xs.length * B ≤ reachBytes ∧ xs.length ≤ maxLen ∧ ∀ x ∈ xs, Q x) := by
  subst hB
  exact opens_slice ht hs hp
def QS37 (x : S37) : Prop := ((Lit.int .i64 (x.f0)).wf = true) ∧ ((Lit.int .i64 (x.f1)).wf = true) ∧ ((x.f2).size ≤ reachBytes)
def BK37 (x : S37) : Nat := 1 + 1 + ((x.f2).size + 1) + 1
theorem open_S37 : OpensU Tryd.prog k37 37 QS37 BK37 := by
  intro H enc w base spare held fuel cs x h hw
  obtain ⟨xs, n, _, hx, hl, hxl, hf⟩ := DataW.trod_struct Tryd.underlying37 h
  rw [show Tryd.prog.cellsOf 37 = 3 from by kernel_rfl] at hl
  obtain ⟨c0, c1, c2, rfl⟩ : ∃ c0 c1 c2, cs = [c0, c1, c2] := by
    clear hf hx h
    match cs, hl with
    | [c0, c1, c2], _ => exact ⟨c0, c1, c2, rfl⟩
  obtain ⟨y0, y1, y2, rfl⟩ : ∃ y0 y1 y2, xs = [y0, y1, y2] := by
    have hxl2 : xs.length = 3 := hxl
    clear hxl hf hx
    match xs, hxl2 with
    | [y0, y1, y2], _ => exact ⟨y0, y1, y2, rfl⟩
  subst hx
  have g0 : DataW.trod enc Tryd.prog w base spare held n 3 (([c0, c1, c2].drop 0).take (Tryd.prog.cellsOf 3)) = some y0 := hf 0 _ rfl
  rw [show Tryd.prog.cellsOf 3 = 1 from by kernel_rfl] at g0
  replace g0 : DataW.trod enc Tryd.prog w base spare held n 3 [c0] = some y0 := g0
  obtain ⟨v0, K0, q0, b0⟩ := (opensU_int Tryd.underlying3) enc w base spare held n _ _ g0 (fun m hm => hw m (weights_field (j := 0) (tj := 3) Tryd.underlying37 rfl rfl m hm))
  have g1 : DataW.trod enc Tryd.prog w base spare held n 3 (([c0, c1, c2].drop 1).take (Tryd.prog.cellsOf 3)) = some y1 := hf 1 _ rfl
  rw [show Tryd.prog.cellsOf 3 = 1 from by kernel_rfl] at g1
  replace g1 : DataW.trod enc Tryd.prog w base spare held n 3 [c1] = some y1 := g1
  obtain ⟨v1, K1, q1, b1⟩ := (opensU_int Tryd.underlying3) enc w base spare held n _ _ g1 (fun m hm => hw m (weights_field (j := 1) (tj := 3) Tryd.underlying37 rfl rfl m hm))
  have g2 : DataW.trod enc Tryd.prog w base spare held n 9 (([c0, c1, c2].drop 2).take (Tryd.prog.cellsOf 9)) = some y2 := hf 2 _ rfl
  rw [show Tryd.prog.cellsOf 9 = 1 from by kernel_rfl] at g2
  replace g2 : DataW.trod enc Tryd.prog w base spare held n 9 [c2] = some y2 := g2
  obtain ⟨v2, K2, q2, b2⟩ := (opensU_string Tryd.underlying9) enc w base spare held n _ _ g2 (fun m hm => hw m (weights_field (j := 2) (tj := 9) Tryd.underlying37 rfl rfl m hm))
  exact ⟨⟨v0, v1, v2⟩, ⟨[c0], [c1, c2], rfl, K0, ⟨[c1], [c2], rfl, K1, K2⟩⟩, ⟨q0, q1, q2⟩, by dsimp only at b0 b1 b2; simp only [BK37, Rows.uptoBulk, Rows.uptoBulkAll, List.map_cons, List.map_nil]; omega⟩
end Go.Proofs.YtblaibigjhlblaaDoor.OpValueTexts
end

section
/- the pure statement of ValueTexts -/
namespace Go.Proofs.YtblaibigjhlblaaDoor.PuValueTexts
open Go.RowKit Go.Proofs.YtblaibigjhlblaaDoorW.PrintWords Go.Proofs.YtblaibigjhlblaaDoorW.Hb Go.Proofs.YtblaibigjhlblaaDoorW.Ho Go.Proofs.YtblaibigjhlblaaDoor.Q Go.Proofs.YtblaibigjhlblaaDoor.OpValueTexts
def Pure : Prop := ∀ (x0 : List (S37)) (x1 : ByteArray), ((x0).length * 32 ≤ reachBytes ∧ (x0).length ≤ maxLen ∧ ∀ y ∈ (x0), QS37 (y)) → (x1).size ≤ reachBytes → (((x0).map BK37).sum + 1) + ((x1).size + 1) ≤ 1048576 → ∃ k, weighhouselaw02_ValueTexts.f k x0 x1 = some true
end Go.Proofs.YtblaibigjhlblaaDoor.PuValueTexts
end

section
/- layer 2: the document's digits are strconv's -/
set_option linter.unusedVariables false
set_option linter.unusedSimpArgs false
namespace Go.Proofs.YtblaibigjhlblaaDoor.Th
open Go.RowKit Go.Proofs.YtblaibigjhlblaaDoorW.PrintWords Go.Proofs.YtblaibigjhlblaaDoorW.Hb Go.Proofs.YtblaibigjhlblaaDoor.Q

theorem wm (x : Int) : IntKind.u64.wrap x = x % 18446744073709551616 := by simp [IntKind.wrap, IntKind.signed, IntKind.bits]
theorem wu {x : Int} (h0 : 0 ≤ x) (h1 : x < 18446744073709551616) : IntKind.u64.wrap x = x := by rw [wm]; omega
theorem wun {x : Int} (h0 : x < 0) (h1 : -18446744073709551616 ≤ x) : IntKind.u64.wrap x = x + 18446744073709551616 := by rw [wm]; omega
theorem wun2 {x : Int} (h0 : x < 0) (h1 : -18446744073709551616 < x) : IntKind.u64.wrap (-(x + 18446744073709551616)) = -x := by rw [wm]; omega
theorem cat_one (x : Int) (s : ByteArray) : strOfNums [x] ++ s = ⟨(UInt8.ofNat x.toNat :: s.data.toList).toArray⟩ := by
  apply ByteArray.ext
  rw [ByteArray.data_append]
  simp [strOfNums]
theorem size_one (x : Int) : (strOfNums [x]).size = 1 := rfl
/-- The sign ahead. -/
def signL (n : Int) (l : List UInt8) : ByteArray := ⟨(if n < 0 then 45 :: l else l).toArray⟩
theorem sign_neg (s : ByteArray) : (⟨#[45]⟩ : ByteArray) ++ s = ⟨(45 :: s.data.toList).toArray⟩ := by
  apply ByteArray.ext
  rw [ByteArray.data_append]
  simp
theorem dig_ev (n : Int) : ∀ (m u : Nat) (s : ByteArray), u < 10 ^ m → u < 18446744073709551616 → s.size + m ≤ 1000 → Ev (fun k => weighhouseref02_Digits.l0 k n (u : Int) s) (signL n (Lib.decDigits u ++ s.data.toList)) := by
  intro m
  induction m with
  | zero =>
    intro u s h1 h2 h3
    obtain rfl : u = 0 := by omega
    refine Ev.step (f := fun _ => some (signL n (Lib.decDigits 0 ++ s.data.toList))) (fun k => ?_) (Ev.now _)
    simp only [weighhouseref02_Digits.l0]
    rw [if_neg (by omega), Option.bind_some, size_one, if_pos (by omega)]
    have e : strOfNums [IntKind.u64.wrap (48 + ((0 : Nat) : Int)) % 256] ++ s = ⟨(Lib.decDigits 0 ++ s.data.toList).toArray⟩ := by
      rw [wu (by omega) (by omega), cat_one, Lib.decDigits, dif_pos (by omega)]
      rfl
    rw [e]
    unfold signL
    split
    · rename_i hn
      rw [if_pos (by rw [← e, ByteArray.size_append, size_one]; omega), sign_neg]
    · rfl
  | succ m ih =>
    intro u s h1 h2 h3
    by_cases hu : u < 10
    · refine Ev.step (f := fun _ => some (signL n (Lib.decDigits u ++ s.data.toList))) (fun k => ?_) (Ev.now _)
      simp only [weighhouseref02_Digits.l0]
      rw [if_neg (by omega), Option.bind_some, size_one, if_pos (by omega)]
      have e : strOfNums [IntKind.u64.wrap (48 + (u : Int)) % 256] ++ s = ⟨(Lib.decDigits u ++ s.data.toList).toArray⟩ := by
        rw [wu (by omega) (by omega), cat_one, Lib.decDigits, dif_pos hu, show ((48 + (u : Int)) % 256).toNat = 48 + u by omega]
        rfl
      rw [e]
      unfold signL
      split
      · rename_i hn
        rw [if_pos (by rw [← e, ByteArray.size_append, size_one]; omega), sign_neg]
      · rfl
    · have e : strOfNums [IntKind.u64.wrap (48 + (u : Int).tmod 10) % 256] ++ s = ⟨(UInt8.ofNat (48 + u % 10) :: s.data.toList).toArray⟩ := by
        have t : (u : Int).tmod 10 = ((u % 10 : Nat) : Int) := by rw [Int.tmod_eq_emod_of_nonneg (by omega)]; omega
        rw [t, wu (by omega) (by omega), cat_one, show ((48 + ((u % 10 : Nat) : Int)) % 256).toNat = 48 + u % 10 by omega]
      have sz : (⟨(UInt8.ofNat (48 + u % 10) :: s.data.toList).toArray⟩ : ByteArray).size = s.size + 1 := by rw [← e, ByteArray.size_append, size_one]; omega
      have pw : 10 ^ (m + 1) = 10 * 10 ^ m := by rw [Nat.pow_succ, Nat.mul_comm]
      have v := ih (u / 10) ⟨(UInt8.ofNat (48 + u % 10) :: s.data.toList).toArray⟩ (by omega) (by omega) (by rw [sz]; omega)
      have el : Lib.decDigits (u / 10) ++ (UInt8.ofNat (48 + u % 10) :: s.data.toList) = Lib.decDigits u ++ s.data.toList := by
        rw [Lib.decDigits.eq_1 u, dif_neg hu]
        simp
      have v' : Ev (fun k => weighhouseref02_Digits.l0 k n ((u / 10 : Nat) : Int) ⟨(UInt8.ofNat (48 + u % 10) :: s.data.toList).toArray⟩) (signL n (Lib.decDigits u ++ s.data.toList)) := by rw [← el]; exact v
      refine Ev.step (f := fun k => weighhouseref02_Digits.l0 k n ((u / 10 : Nat) : Int) ⟨(UInt8.ofNat (48 + u % 10) :: s.data.toList).toArray⟩) (fun k => ?_) v'
      have td : (u : Int).tdiv 10 = ((u / 10 : Nat) : Int) := by rw [Int.tdiv_eq_ediv_of_nonneg (by omega)]; omega
      simp only [weighhouseref02_Digits.l0]
      rw [if_pos (by omega), Option.bind_some, size_one, if_pos (by omega), e, td, wu (by omega) (by omega)]
theorem digits_ev (n : Int) (h0 : -9223372036854775808 ≤ n) (h1 : n ≤ 9223372036854775807) : Ev (fun k => weighhouseref02_Digits.f k n) ⟨(Lib.itoa n).toArray⟩ := by
  by_cases hn : n < 0
  · have e : (⟨(Lib.itoa n).toArray⟩ : ByteArray) = signL n (Lib.decDigits n.natAbs ++ (⟨#[]⟩ : ByteArray).data.toList) := by
      unfold signL Lib.itoa
      rw [if_pos hn, if_pos hn]
      simp
    rw [e]
    refine Ev.congr (f := fun k => weighhouseref02_Digits.j0 k n ((n.natAbs : Nat) : Int) ⟨#[]⟩) (fun k => ?_) (Ev.step (f := fun k => weighhouseref02_Digits.l0 k n ((n.natAbs : Nat) : Int) ⟨#[]⟩) (fun k => by simp only [weighhouseref02_Digits.j0]) (dig_ev n 20 n.natAbs ⟨#[]⟩ (by omega) (by omega) (by decide)))
    unfold weighhouseref02_Digits.f
    rw [if_pos hn, wun hn (by omega), wun2 hn (by omega), show -n = ((n.natAbs : Nat) : Int) by omega]
  · have e : (⟨(Lib.itoa n).toArray⟩ : ByteArray) = signL n (Lib.decDigits n.toNat ++ (⟨#[]⟩ : ByteArray).data.toList) := by
      unfold signL Lib.itoa
      rw [if_neg hn, if_neg hn]
      simp
    rw [e]
    refine Ev.congr (f := fun k => weighhouseref02_Digits.j0 k n ((n.toNat : Nat) : Int) ⟨#[]⟩) (fun k => ?_) (Ev.step (f := fun k => weighhouseref02_Digits.l0 k n ((n.toNat : Nat) : Int) ⟨#[]⟩) (fun k => by simp only [weighhouseref02_Digits.j0]) (dig_ev n 20 n.toNat ⟨#[]⟩ (by omega) (by omega) (by decide)))
    unfold weighhouseref02_Digits.f
    rw [if_neg hn, wu (by omega) (by omega), show ((n.toNat : Nat) : Int) = n by omega]
end Go.Proofs.YtblaibigjhlblaaDoor.Th
end

section
/- layer 2: a value's text, and the document's -/
set_option linter.unusedVariables false
set_option linter.unusedSimpArgs false
namespace Go.Proofs.YtblaibigjhlblaaDoor.Th
open Go.RowKit Go.Proofs.YtblaibigjhlblaaDoorW.PrintWords Go.Proofs.YtblaibigjhlblaaDoorW.Hb Go.Proofs.YtblaibigjhlblaaDoor.Q

theorem w64 {x : Int} (h0 : -9223372036854775808 ≤ x) (h1 : x ≤ 9223372036854775807) : wrap64 x = x := by unfold wrap64; omega
theorem bt_get (s : ByteArray) (i : Nat) (h : i < s.data.toList.length) : bt s (i : Int) = ((s.data.toList[i]'h).toNat : Int) := by
  have h' : i < s.size := by rw [Lib.size_eq]; exact h
  unfold bt
  rw [dif_pos (by simpa using h')]
  simp [ByteArray.getElem_eq_getElem_data]
theorem strOf_nat8 (l : List UInt8) : strOfNums (nat8 l) = ⟨l.toArray⟩ := by
  unfold strOfNums nat8
  congr 2
  rw [List.map_map]
  have : ((fun n : Int => UInt8.ofNat n.toNat) ∘ fun b : UInt8 => ((b.toNat : Nat) : Int)) = id := by
    funext b
    simp
  rw [this, List.map_id]
theorem dgHex : ∀ j : Nat, j < 16 → bt (⟨#[48, 49, 50, 51, 52, 53, 54, 55, 56, 57, 97, 98, 99, 100, 101, 102]⟩ : ByteArray) (j : Int) = ((hexC j).toNat : Int) := by decide +kernel
theorem hexU_take (l : List UInt8) (i : Nat) (h : i < l.length) : nat8 (hexU (l.take (i + 1))) = nat8 (hexU (l.take i)) ++ [((hexC (l[i].toNat / 16)).toNat : Int), ((hexC (l[i].toNat % 16)).toNat : Int)] := by
  unfold hexU nat8
  rw [List.take_succ_eq_append_getElem h, List.flatMap_append, List.map_append]
  rfl
theorem hexU_len (l : List UInt8) : (hexU l).length = 2 * l.length := by
  induction l with
  | nil => rfl
  | cons a l ih =>
    have : (hexU (a :: l)).length = 2 + (hexU l).length := by simp [hexU]; omega
    rw [this, ih, List.length_cons]; omega
theorem nat8_len (l : List UInt8) : (nat8 l).length = l.length := by simp [nat8]
theorem hex_ev (s : ByteArray) (hs : s.data.toList.length ≤ 4398046511104) : Ev (fun k => weighhouseref02_Hex.f k s) ⟨(hexU s.data.toList).toArray⟩ := by
  have loop : ∀ d i : Nat, i + d = s.data.toList.length → Ev (fun k => weighhouseref02_Hex.l0 k s (⟨#[48, 49, 50, 51, 52, 53, 54, 55, 56, 57, 97, 98, 99, 100, 101, 102]⟩ : ByteArray) (nat8 (hexU (s.data.toList.take i))) (i : Int)) ⟨(hexU s.data.toList).toArray⟩ := by
    intro d
    induction d with
    | zero =>
      intro i hi
      refine Ev.step (f := fun _ => some ⟨(hexU s.data.toList).toArray⟩) (fun k => ?_) (Ev.now _)
      simp only [weighhouseref02_Hex.l0]
      rw [if_neg (by rw [Lib.size_eq]; omega), strOf_nat8, List.take_of_length_le (by omega)]
    | succ d ih =>
      intro i hi
      have hl : i < s.data.toList.length := by omega
      refine Ev.step (f := fun k => weighhouseref02_Hex.l0 k s (⟨#[48, 49, 50, 51, 52, 53, 54, 55, 56, 57, 97, 98, 99, 100, 101, 102]⟩ : ByteArray) (nat8 (hexU (s.data.toList.take (i + 1)))) ((i + 1 : Nat) : Int)) (fun k => ?_) (ih (i + 1) (by omega))
      have c0 : s.data.toList[i].toNat < 256 := s.data.toList[i].toNat_lt
      have e1 : (Int.tdiv ((s.data.toList[i].toNat : Nat) : Int) 16) % 256 = ((s.data.toList[i].toNat / 16 : Nat) : Int) := by rw [Int.tdiv_eq_ediv_of_nonneg (by omega)]; omega
      have e2 : Int.tmod ((s.data.toList[i].toNat : Nat) : Int) 16 = ((s.data.toList[i].toNat % 16 : Nat) : Int) := by rw [Int.tmod_eq_emod_of_nonneg (by omega)]; omega
      have z16 : ((⟨#[48, 49, 50, 51, 52, 53, 54, 55, 56, 57, 97, 98, 99, 100, 101, 102]⟩ : ByteArray).size : Int) = 16 := rfl
      have lh := hexU_len (s.data.toList.take i)
      simp only [weighhouseref02_Hex.l0]
      rw [if_pos (by rw [Lib.size_eq]; omega), if_pos (by omega), bt_get s i hl, e1, e2, z16, if_pos (by omega), if_pos (by omega), if_pos (by omega), if_pos (by omega), Option.bind_some, dgHex _ (by omega), dgHex _ (by omega), ← hexU_take _ i hl, if_pos (by rw [nat8_len, lh, List.length_take]; simp; omega), w64 (by omega) (by omega)]
      rfl
  refine Ev.congr (fun k => ?_) (loop s.data.toList.length 0 (by omega))
  rfl
theorem emptyL : (⟨#[]⟩ : ByteArray).toList = [] := by rw [ByteArray.toList_eq]
/-- A value is in order. -/
def okv (a b : Int) (s : ByteArray) : Bool :=
  if a = 1 then s.toList == [] else if a = 2 then (if b = 0 then decide ((s.size : Int) ≤ 256) else false) else if a = 3 then (if b = 0 then s.toList == [] else if b = 1 then s.toList == [] else false) else false
theorem one_ev (a b : Int) (s : ByteArray) (h : okv a b s = true) (h0 : -9223372036854775808 ≤ b) (h1 : b ≤ 9223372036854775807) : ∃ t, value_text.f a b s = some t ∧ Ev (fun k => weighhouseref02_One.f k a b s) t ∧ t.size ≤ 600 := by
  unfold okv at h
  unfold value_text.f
  by_cases a1 : a = 1
  · refine ⟨_, by rw [if_pos a1, if_pos ⟨h0, h1⟩], Ev.congr (fun k => ?_) (Ev.bind (digits_ev b h0 h1) (Ev.now _)), ?_⟩
    · unfold weighhouseref02_One.f
      rw [if_pos a1]
    · have := Lib.itoa_length_le b h0 h1
      rw [Lib.size_eq]
      simpa using (by omega : (Lib.itoa b).length ≤ 600)
  · rw [if_neg a1] at h ⊢
    by_cases a2 : a = 2
    · rw [if_pos a2] at h
      have hs : s.size ≤ 256 := by
        split at h
        · have := of_decide_eq_true h; omega
        · cases h
      have hs' : s.data.toList.length ≤ 256 := by rw [← Lib.size_eq]; exact hs
      have hl := hexU_len s.data.toList
      refine ⟨_, by rw [if_neg (by omega), if_pos (by omega)], Ev.congr (f := fun k => (weighhouseref02_Hex.f k s).bind fun t => if 2 + t.size ≤ 9223372036854775807 then (if ((⟨#[120, 39]⟩ : ByteArray) ++ t).size + 1 ≤ 9223372036854775807 then some (((⟨#[120, 39]⟩ : ByteArray) ++ t) ++ (⟨#[39]⟩ : ByteArray)) else none) else none) (fun k => ?_) (Ev.bind (hex_ev s (by omega)) (Ev.congr (f := fun _ => some ⟨(textU s).toArray⟩) (fun k => ?_) (Ev.now _))), ?_⟩
      · unfold weighhouseref02_One.f
        rw [if_neg a1, if_pos a2]
      · have z : (⟨(hexU s.data.toList).toArray⟩ : ByteArray).size = (hexU s.data.toList).length := by rw [Lib.size_eq]
        rw [if_pos (by omega), if_pos (by rw [ByteArray.size_append, z]; show 2 + _ + 1 ≤ _; omega)]
        refine congrArg some (ByteArray.ext ?_)
        rw [ByteArray.data_append, ByteArray.data_append]
        simp [textU]
      · rw [Lib.size_eq]
        show (textU s).length ≤ 600
        simp only [textU, List.length_cons, List.length_append, List.length_nil]
        omega
    · rw [if_neg a2] at h
      by_cases a3 : a = 3
      · rw [if_pos a3]
        by_cases b1 : b = 1
        · refine ⟨_, rfl, Ev.congr (f := fun _ => some _) (fun k => ?_) (Ev.now _), ?_⟩
          · unfold weighhouseref02_One.f
            rw [if_neg a1, if_neg a2, if_pos b1, b1]
            rfl
          · rw [b1]; decide
        · have hb : (b == 1) = false := by simp [b1]
          refine ⟨_, rfl, Ev.congr (f := fun _ => some _) (fun k => ?_) (Ev.now _), ?_⟩
          · unfold weighhouseref02_One.f
            rw [if_neg a1, if_neg a2, if_neg b1, hb]
            rfl
          · rw [hb]; decide
      · rw [if_neg a3] at h
        cases h
end Go.Proofs.YtblaibigjhlblaaDoor.Th
end

section
/- layer 2: digits of the base 16, read back by the document as by the program -/
set_option linter.unusedVariables false
set_option linter.unusedSimpArgs false
namespace Go.Proofs.YtblaibigjhlblaaDoor.Th
open Go.RowKit Go.Proofs.YtblaibigjhlblaaDoorW.PrintWords Go.Proofs.YtblaibigjhlblaaDoorW.Hb Go.Proofs.YtblaibigjhlblaaDoor.Q

def dgt (x : Nat) : Int := if 48 ≤ x ∧ x ≤ 57 then (x : Int) - 48 else if 97 ≤ x ∧ x ≤ 102 then (x : Int) - 87 else -1
theorem ix_dgt : ∀ n : Nat, n < 256 → ixB (UInt8.ofNat n) = dgt n := by decide +kernel
theorem ixB_dgt (c : UInt8) : ixB c = dgt c.toNat := by
  have := ix_dgt c.toNat c.toNat_lt
  simpa using this
theorem dgt_le (x : Nat) : -1 ≤ dgt x ∧ dgt x ≤ 15 := by unfold dgt; split <;> (try split) <;> omega
theorem digit_ev (x : Nat) (hx : x < 256) : Ev (fun k => weighhouseref02_Digit.f k (x : Int)) (dgt x) := by
  by_cases h : 48 ≤ x
  · refine Ev.congr (f := fun k => weighhouseref02_Digit.j0 k (x : Int) (decide ((x : Int) ≤ 57))) (fun k => ?_) ?_
    · unfold weighhouseref02_Digit.f
      rw [if_pos (by omega)]
    · refine Ev.step (f := fun _ => some (dgt x)) (fun k => ?_) (Ev.now _)
      simp only [weighhouseref02_Digit.j0]
      unfold dgt
      by_cases h2 : x ≤ 57
      · rw [if_pos (by simp; omega), if_pos ⟨h, h2⟩]
        congr 1
        omega
      · rw [if_neg (by simp; omega)]
        by_cases h3 : 97 ≤ x
        · rw [if_pos (by omega)]
          by_cases h4 : x ≤ 102
          · rw [if_pos (by omega), if_neg (by omega), if_pos ⟨h3, h4⟩]
            congr 1
            omega
          · rw [if_neg (by omega), if_neg (by omega), if_neg (by omega)]
        · rw [if_neg (by omega), if_neg (by omega), if_neg (by omega)]
  · refine Ev.congr (f := fun k => weighhouseref02_Digit.j0 k (x : Int) false) (fun k => ?_) ?_
    · unfold weighhouseref02_Digit.f
      rw [if_neg (by omega)]
    · refine Ev.step (f := fun _ => some (dgt x)) (fun k => ?_) (Ev.now _)
      simp only [weighhouseref02_Digit.j0]
      unfold dgt
      rw [if_neg (by simp), if_neg (by omega), if_neg (by omega), if_neg (by omega)]
def unhEnd (s : ByteArray) : Option (List UInt8) → ByteArray × Bool
  | none => (⟨#[]⟩, false)
  | some b => (⟨b.toArray⟩, ((s.size : Int) % 2) == 0)
theorem unhEnd_none (s : ByteArray) : unhEnd s none = (⟨#[]⟩, false) := by unfold unhEnd; rfl
theorem unhEnd_some (s : ByteArray) (b : List UInt8) : unhEnd s (some b) = (⟨b.toArray⟩, ((s.size : Int) % 2) == 0) := by unfold unhEnd; rfl
theorem unhexU_two (a b : UInt8) (r acc : List UInt8) : unhexU (a :: b :: r) acc = if ixB a < 0 ∨ ixB b < 0 then none else unhexU r (acc ++ [(ixB a * 16 + ixB b).toNat.toUInt8]) := by rw [unhexU]
theorem unhex_loop (s : ByteArray) (hs : s.data.toList.length ≤ 4398046511104) (d : Nat) : ∀ (i : Nat) (acc : List UInt8), i + d = s.data.toList.length → acc.length ≤ i → Ev (fun k => weighhouseref02_Unhex.l0 k s (nat8 acc) (i : Int)) (unhEnd s (unhexU (s.data.toList.drop i) acc)) := by
  induction d using Nat.strongRecOn with
  | ind d ih =>
    intro i acc hi hacc
    by_cases h2 : i + 1 < s.data.toList.length
    · have g1 : i < s.data.toList.length := by omega
      have a0 := s.data.toList[i].toNat_lt
      have b0 := s.data.toList[i + 1].toNat_lt
      have da := dgt_le s.data.toList[i].toNat
      have db := dgt_le s.data.toList[i + 1].toNat
      have ea := digit_ev s.data.toList[i].toNat a0
      have eb := digit_ev s.data.toList[i + 1].toNat b0
      have bi : bt s (i : Int) = (s.data.toList[i].toNat : Int) := bt_get s i g1
      have bj : bt s ((i : Int) + 1) = (s.data.toList[i + 1].toNat : Int) := by
        have := bt_get s (i + 1) h2
        rw [show ((i + 1 : Nat) : Int) = (i : Int) + 1 by omega] at this
        exact this
      rw [List.drop_eq_getElem_cons g1, List.drop_eq_getElem_cons h2, unhexU_two, ixB_dgt, ixB_dgt]
      have st : ∀ k, weighhouseref02_Unhex.l0 (k + 1) s (nat8 acc) (i : Int) = (weighhouseref02_Digit.f k ((s.data.toList[i].toNat : Nat) : Int)).bind fun t => if t < 0 then weighhouseref02_Unhex.j1 k s (nat8 acc) (i : Int) true else (weighhouseref02_Digit.f k ((s.data.toList[i + 1].toNat : Nat) : Int)).bind fun u => weighhouseref02_Unhex.j1 k s (nat8 acc) (i : Int) (decide (u < 0)) := by
        intro k
        simp only [weighhouseref02_Unhex.l0]
        rw [w64 (by omega) (by omega), if_pos (by rw [Lib.size_eq]; omega), if_pos (by omega), if_pos (by rw [Lib.size_eq]; omega), if_pos (by omega), bi, bj]
      have bad : Ev (fun k => weighhouseref02_Unhex.j1 k s (nat8 acc) (i : Int) true) (⟨#[]⟩, false) := Ev.step (f := fun _ => some (⟨#[]⟩, false)) (fun k => by simp only [weighhouseref02_Unhex.j1]; rw [if_pos True.intro]) (Ev.now _)
      by_cases ha : dgt s.data.toList[i].toNat < 0
      · rw [if_pos (Or.inl ha), unhEnd_none]
        exact Ev.step st (Ev.bind ea (Ev.congr (fun k => if_pos ha) bad))
      · by_cases hb : dgt s.data.toList[i + 1].toNat < 0
        · rw [if_pos (Or.inr hb), unhEnd_none]
          exact Ev.step st (Ev.bind ea (Ev.congr (fun k => if_neg ha) (Ev.bind eb (Ev.congr (fun k => by rw [decide_eq_true hb]) bad))))
        · rw [if_neg (by omega)]
          have nx := ih (d - 2) (by omega) (i + 2) (acc ++ [(dgt s.data.toList[i].toNat * 16 + dgt s.data.toList[i + 1].toNat).toNat.toUInt8]) (by omega) (by simp; omega)
          refine Ev.step st (Ev.bind ea (Ev.congr (fun k => if_neg ha) (Ev.bind eb (Ev.congr (fun k => by rw [decide_eq_false hb]) (Ev.step (f := fun k => (weighhouseref02_Digit.f k ((s.data.toList[i].toNat : Nat) : Int)).bind fun t => (weighhouseref02_Digit.f k ((s.data.toList[i + 1].toNat : Nat) : Int)).bind fun u => weighhouseref02_Unhex.l0 k s (nat8 acc ++ [wrap64 (wrap64 (16 * t) + u) % 256]) (wrap64 ((i : Int) + 2))) (fun k => ?_) (Ev.bind ea (Ev.bind eb (Ev.congr (fun k => ?_) nx))))))))
          · simp only [weighhouseref02_Unhex.j1]
            rw [if_neg (by simp), w64 (by omega : -9223372036854775808 ≤ (i : Int) + 1) (by omega), if_pos (by omega), if_pos (by rw [Lib.size_eq]; omega), bi, bj]
            simp only [if_pos (show (0 : Int) ≤ (i : Int) + 1 by omega), if_pos (show (i : Int) + 1 < (s.size : Int) by rw [Lib.size_eq]; omega), if_pos (show (nat8 acc).length < 140737488355328 by rw [nat8_len]; omega)]
          · have e : nat8 acc ++ [wrap64 (wrap64 (16 * dgt s.data.toList[i].toNat) + dgt s.data.toList[i + 1].toNat) % 256] = nat8 (acc ++ [(dgt s.data.toList[i].toNat * 16 + dgt s.data.toList[i + 1].toNat).toNat.toUInt8]) := by
              rw [w64 (x := 16 * dgt s.data.toList[i].toNat) (by omega) (by omega), w64 (by omega) (by omega)]
              unfold nat8
              rw [List.map_append, List.map_cons, List.map_nil]
              congr 2
              rw [Nat.toUInt8, UInt8.toNat_ofNat']
              omega
            rw [e, w64 (by omega) (by omega)]
            rfl
    · have hd : unhexU (s.data.toList.drop i) acc = some acc := by
        have hl : (s.data.toList.drop i).length ≤ 1 := by rw [List.length_drop]; omega
        match h : s.data.toList.drop i, hl with
        | [], _ => rw [unhexU]; simp
        | [a], _ => rw [unhexU]; simp
      rw [hd, unhEnd_some]
      refine Ev.step (f := fun _ => some _) (fun k => ?_) (Ev.now _)
      simp only [weighhouseref02_Unhex.l0]
      rw [w64 (by omega) (by omega), if_neg (by rw [Lib.size_eq]; omega), strOf_nat8]
theorem unhex_ev (s : ByteArray) (hs : s.data.toList.length ≤ 4398046511104) : Ev (fun k => weighhouseref02_Unhex.f k s) (unhEnd s (unhexU s.data.toList [])) := unhex_loop s hs s.data.toList.length 0 [] (by omega) (by simp)
end Go.Proofs.YtblaibigjhlblaaDoor.Th
end

section
/- layer 2: a number's text read back, by strconv and by the document -/
set_option linter.unusedVariables false
set_option linter.unusedSimpArgs false
namespace Go.Proofs.YtblaibigjhlblaaDoor.Th
open Go.RowKit Go.Proofs.YtblaibigjhlblaaDoorW.PrintWords Go.Proofs.YtblaibigjhlblaaDoorW.Hb Go.Proofs.YtblaibigjhlblaaDoor.Q

theorem dd_small {u : Nat} (h : u < 10) : Lib.decDigits u = [UInt8.ofNat (48 + u)] := by rw [Lib.decDigits, dif_pos h]
theorem dd_big {u : Nat} (h : ¬ u < 10) : Lib.decDigits u = Lib.decDigits (u / 10) ++ [UInt8.ofNat (48 + u % 10)] := by rw [Lib.decDigits, dif_neg h]
theorem dg_nat (d : Nat) (h : d < 10) : (UInt8.ofNat (48 + d)).toNat = 48 + d := by
  rw [UInt8.toNat_ofNat']
  omega
theorem dd_head (u : Nat) : ∃ c r, Lib.decDigits u = c :: r ∧ 48 ≤ c.toNat ∧ c.toNat ≤ 57 := by
  induction u using Nat.strongRecOn with
  | ind u ih =>
    by_cases h : u < 10
    · exact ⟨_, [], dd_small h, by rw [dg_nat u h]; omega, by rw [dg_nat u h]; omega⟩
    · obtain ⟨c, r, e, h1, h2⟩ := ih (u / 10) (by omega)
      exact ⟨c, r ++ [UInt8.ofNat (48 + u % 10)], by rw [dd_big h, e]; rfl, h1, h2⟩
theorem dd_len : ∀ (m u : Nat), u < 10 ^ (m + 1) → (Lib.decDigits u).length ≤ m + 1 := by
  intro m
  induction m with
  | zero => intro u h; rw [dd_small (by omega)]; simp
  | succ m ih =>
    intro u h
    by_cases hu : u < 10
    · rw [dd_small hu]; simp
    · have pw : 10 ^ (m + 1 + 1) = 10 * 10 ^ (m + 1) := by rw [Nat.pow_succ, Nat.mul_comm]
      have := ih (u / 10) (by omega)
      rw [dd_big hu, List.length_append]
      simp
      omega
theorem pu_dd (u : Nat) : ∀ r : List UInt8, u < 18446744073709551616 → Lib.parseUint10 0 (Lib.decDigits u ++ r) = Lib.parseUint10 u r := by
  induction u using Nat.strongRecOn with
  | ind u ih =>
    intro r hu
    by_cases h : u < 10
    · rw [dd_small h]
      show Lib.parseUint10 0 (UInt8.ofNat (48 + u) :: r) = _
      simp only [Lib.parseUint10]
      rw [dg_nat u h, if_pos (by omega), if_neg (by omega), if_neg (by omega), show 0 * 10 + (48 + u - 48) = u by omega]
    · rw [dd_big h, List.append_assoc, ih (u / 10) (by omega) _ (by omega)]
      show Lib.parseUint10 (u / 10) (UInt8.ofNat (48 + u % 10) :: r) = _
      simp only [Lib.parseUint10]
      rw [dg_nat _ (by omega), if_pos (by omega), if_neg (by omega), if_neg (by omega), show u / 10 * 10 + (48 + u % 10 - 48) = u by omega]
theorem pm_dd (u : Nat) (hu : u < 18446744073709551616) : Lib.parseMag (Lib.decDigits u) = .ok u := by
  obtain ⟨c, r, e, _⟩ := dd_head u
  have := pu_dd u [] hu
  rw [List.append_nil] at this
  unfold Lib.parseMag
  rw [if_neg (by rw [e]; simp), this]
  rfl
theorem atoi_itoa (n : Int) (h0 : -9223372036854775808 ≤ n) (h1 : n ≤ 9223372036854775807) : Lib.atoiAll (Lib.itoa n) = .ok n := by
  unfold Lib.itoa
  by_cases hn : n < 0
  · rw [if_pos hn, Lib.atoiAll_minus, pm_dd _ (by omega)]
    simp only [Lib.signed]
    rw [if_neg (by omega)]
    congr 1
    omega
  · rw [if_neg hn]
    obtain ⟨c, r, e, g1, g2⟩ := dd_head n.toNat
    rw [e, Lib.atoiAll_plain c r (by omega) (by omega), ← e, pm_dd _ (by omega)]
    simp only [Lib.signless]
    rw [if_neg (by omega)]
    congr 1
    omega
/-- The document's reading of digits. -/
def decL : Nat → Nat → List UInt8 → Option Nat
  | _, acc, [] => some acc
  | i, acc, c :: r => if c.toNat < 48 ∨ 57 < c.toNat ∨ 19 < i ∨ 1844674407370955161 < acc then none else decL (i + 1) ((10 * acc + (c.toNat - 48)) % 18446744073709551616) r
theorem decL_lt : ∀ (l : List UInt8) (i acc u : Nat), acc < 18446744073709551616 → decL i acc l = some u → u < 18446744073709551616
  | [], i, acc, u, ha, h => by obtain rfl := Option.some.inj h; exact ha
  | c :: r, i, acc, u, ha, h => by
    unfold decL at h
    split at h
    · cases h
    · exact decL_lt r _ _ u (by omega) h
theorem decL_dd (u : Nat) : ∀ (i : Nat) (r : List UInt8), u < 18446744073709551616 → i + (Lib.decDigits u).length ≤ 20 → decL i 0 (Lib.decDigits u ++ r) = decL (i + (Lib.decDigits u).length) u r := by
  induction u using Nat.strongRecOn with
  | ind u ih =>
    intro i r hu hl
    by_cases h : u < 10
    · rw [dd_small h] at hl ⊢
      show decL i 0 (UInt8.ofNat (48 + u) :: r) = _
      simp only [List.length_cons, List.length_nil] at hl ⊢
      rw [decL, dg_nat u h, if_neg (by omega), show (10 * 0 + (48 + u - 48)) % 18446744073709551616 = u by omega]
    · rw [dd_big h, List.length_append] at hl ⊢
      simp only [List.length_cons, List.length_nil] at hl ⊢
      rw [List.append_assoc, ih (u / 10) (by omega) i _ (by omega) (by omega)]
      show decL (i + (Lib.decDigits (u / 10)).length) (u / 10) (UInt8.ofNat (48 + u % 10) :: r) = _
      rw [decL, dg_nat _ (by omega), if_neg (by omega), show (10 * (u / 10) + (48 + u % 10 - 48)) % 18446744073709551616 = u by omega]
      rfl
/-- A number by its sign and its digits. -/
def numOf (f : Nat) (u : Nat) : Int := if f = 1 then wrap64 (IntKind.u64.wrap (-(u : Int))) else wrap64 (u : Int)
theorem wrap_bounds (x : Int) : -9223372036854775808 ≤ wrap64 x ∧ wrap64 x ≤ 9223372036854775807 := by unfold wrap64; omega
theorem num_bounds (f u : Nat) : -9223372036854775808 ≤ numOf f u ∧ numOf f u ≤ 9223372036854775807 := by
  unfold numOf
  split
  · exact wrap_bounds _
  · exact wrap_bounds _
/-- The end of the document's Decimal. -/
def decEnd (s : ByteArray) (f : Nat) : Option Nat → Int × Bool
  | none => (0, false)
  | some u => (numOf f u, if f < s.data.toList.length then decide (Lib.itoa (numOf f u) = s.data.toList) else false)
theorem decL_nil (i acc : Nat) : decL i acc [] = some acc := by unfold decL; rfl
theorem decEnd_some (s : ByteArray) (f u : Nat) : decEnd s f (some u) = (numOf f u, if f < s.data.toList.length then decide (Lib.itoa (numOf f u) = s.data.toList) else false) := by unfold decEnd; rfl
theorem decEnd_none (s : ByteArray) (f : Nat) : decEnd s f none = (0, false) := by unfold decEnd; rfl
theorem num1 (u : Nat) : numOf 1 u = wrap64 (IntKind.u64.wrap (-(u : Int))) := by unfold numOf; rw [if_pos rfl]
theorem num0 (u : Nat) : numOf 0 u = wrap64 (u : Int) := by unfold numOf; rw [if_neg (by omega)]
theorem dec_loop (s : ByteArray) (hs : s.data.toList.length ≤ 4398046511104) (f : Nat) (hf : f ≤ 1) : ∀ d i acc : Nat, i + d = s.data.toList.length → acc < 18446744073709551616 → Ev (fun k => weighhouseref02_Decimal.l0 k s (acc : Int) (f : Int) (i : Int)) (decEnd s f (decL i acc (s.data.toList.drop i))) := by
  intro d
  induction d with
  | zero =>
    intro i acc hi ha
    rw [List.drop_of_length_le (by omega), decL_nil, decEnd_some]
    have dg := digits_ev (numOf f acc) (num_bounds f acc).1 (num_bounds f acc).2
    have te : ((⟨(Lib.itoa (numOf f acc)).toArray⟩ : ByteArray).toList == s.toList) = decide (Lib.itoa (numOf f acc) = s.data.toList) := by
      rw [ByteArray.toList_eq, ByteArray.toList_eq]
      by_cases h : Lib.itoa (numOf f acc) = s.data.toList <;> simp [h]
    by_cases hl : f < s.data.toList.length
    · rw [if_pos hl, ← te]
      refine Ev.step (f := fun k => (weighhouseref02_Digits.f k (numOf f acc)).bind fun t => some (numOf f acc, (t.toList == s.toList))) (fun k => ?_) (Ev.bind dg (Ev.now _))
      simp only [weighhouseref02_Decimal.l0]
      rw [if_neg (by rw [Lib.size_eq]; omega)]
      by_cases h1 : f = 1
      · subst h1
        rw [if_pos (by omega), if_pos (by rw [Lib.size_eq]; omega), num1]
      · obtain rfl : f = 0 := by omega
        rw [if_neg (by omega), if_pos (by rw [Lib.size_eq]; omega), num0]
    · rw [if_neg hl]
      refine Ev.step (f := fun _ => some (numOf f acc, false)) (fun k => ?_) (Ev.now _)
      simp only [weighhouseref02_Decimal.l0]
      rw [if_neg (by rw [Lib.size_eq]; omega)]
      by_cases h1 : f = 1
      · subst h1
        rw [if_pos (by omega), if_neg (by rw [Lib.size_eq]; omega), num1]
      · obtain rfl : f = 0 := by omega
        rw [if_neg (by omega), if_neg (by rw [Lib.size_eq]; omega), num0]
  | succ d ih =>
    intro i acc hi ha
    have hil : i < s.data.toList.length := by omega
    have c0 : s.data.toList[i].toNat < 256 := s.data.toList[i].toNat_lt
    rw [List.drop_eq_getElem_cons hil, decL]
    have step : ∀ k, weighhouseref02_Decimal.l0 (k + 1) s (acc : Int) (f : Int) (i : Int) = if s.data.toList[i].toNat < 48 ∨ 57 < s.data.toList[i].toNat ∨ 19 < i ∨ 1844674407370955161 < acc then some (0, false) else weighhouseref02_Decimal.l0 k s (((10 * acc + (s.data.toList[i].toNat - 48)) % 18446744073709551616 : Nat) : Int) (f : Int) ((i + 1 : Nat) : Int) := by
      intro k
      simp only [weighhouseref02_Decimal.l0]
      rw [if_pos (by rw [Lib.size_eq]; omega), if_pos (by omega), bt_get s i hil]
      by_cases q1 : s.data.toList[i].toNat < 48
      · rw [if_pos (by omega), if_pos (by omega)]
      · by_cases q2 : 57 < s.data.toList[i].toNat
        · rw [if_neg (by omega), if_pos (by omega), if_pos (by omega)]
        · by_cases q3 : 19 < i
          · rw [if_neg (by omega), if_neg (by omega), if_pos (by omega), if_pos (by omega)]
          · by_cases q4 : 1844674407370955161 < acc
            · rw [if_neg (by omega), if_neg (by omega), if_neg (by omega), if_pos (by omega), if_pos (by omega)]
            · rw [if_neg (by omega), if_neg (by omega), if_neg (by omega), if_neg (by omega), if_neg (by omega), w64 (by omega) (by omega), wm, wm]
              congr 1
              omega
    by_cases hq : s.data.toList[i].toNat < 48 ∨ 57 < s.data.toList[i].toNat ∨ 19 < i ∨ 1844674407370955161 < acc
    · rw [if_pos hq, decEnd_none]
      exact Ev.step (f := fun _ => some (0, false)) (fun k => by rw [step k, if_pos hq]) (Ev.now _)
    · rw [if_neg hq]
      exact Ev.step (fun k => by rw [step k, if_neg hq]) (ih (i + 1) _ (by omega) (by omega))
end Go.Proofs.YtblaibigjhlblaaDoor.Th
end

section
/- layer 2: the document's Decimal: true at a number's text and nowhere else -/
set_option linter.unusedVariables false
set_option linter.unusedSimpArgs false
namespace Go.Proofs.YtblaibigjhlblaaDoor.Th
open Go.RowKit Go.Proofs.YtblaibigjhlblaaDoorW.PrintWords Go.Proofs.YtblaibigjhlblaaDoorW.Hb Go.Proofs.YtblaibigjhlblaaDoor.Q

def fromOf : List UInt8 → Nat
  | [] => 0
  | c :: _ => if c.toNat = 45 then 1 else 0
theorem from_le (l : List UInt8) : fromOf l ≤ 1 := by
  unfold fromOf
  split
  · omega
  · split <;> omega
def decR (s : ByteArray) : Int × Bool := decEnd s (fromOf s.data.toList) (decL (fromOf s.data.toList) 0 (s.data.toList.drop (fromOf s.data.toList)))
theorem from_len (l : List UInt8) : fromOf l ≤ l.length := by
  cases l with
  | nil => exact Nat.le_refl 0
  | cons c r =>
    have := from_le (c :: r)
    simp only [List.length_cons]
    omega
theorem dec_ev (s : ByteArray) (hs : s.data.toList.length ≤ 4398046511104) : Ev (fun k => weighhouseref02_Decimal.f k s) (decR s) := by
  have lp := dec_loop s hs (fromOf s.data.toList) (from_le _) (s.data.toList.length - fromOf s.data.toList) (fromOf s.data.toList) 0 (by have := from_len s.data.toList; omega) (by omega)
  have j1 : Ev (fun k => weighhouseref02_Decimal.j1 k s 0 ((fromOf s.data.toList : Nat) : Int)) (decR s) := Ev.step (fun k => by simp only [weighhouseref02_Decimal.j1]; rfl) lp
  cases hl : s.data.toList with
  | nil =>
    rw [hl] at j1
    refine Ev.congr (f := fun k => weighhouseref02_Decimal.j0 k s 0 0 false) (fun k => ?_) (Ev.step (f := fun k => weighhouseref02_Decimal.j1 k s 0 0) (fun k => ?_) j1)
    · unfold weighhouseref02_Decimal.f
      rw [if_pos (by rw [ByteArray.toList_eq]; exact hl)]
    · simp only [weighhouseref02_Decimal.j0]
      rw [if_neg (by simp)]
  | cons c r =>
    have hb : bt s 0 = (c.toNat : Int) := by
      have := bt_get s 0 (by rw [hl]; simp)
      simp only [hl, List.getElem_cons_zero] at this
      exact this
    rw [hl] at j1
    have h0 : 0 < (s.size : Int) := by rw [Lib.size_eq, hl]; simp only [List.length_cons]; omega
    have hne : ¬ s.toList = [] := by rw [ByteArray.toList_eq, hl]; simp
    by_cases h45 : c.toNat = 45
    · have hf : fromOf (c :: r) = 1 := by simp only [fromOf]; rw [if_pos h45]
      rw [hf] at j1
      refine Ev.congr (f := fun k => weighhouseref02_Decimal.j0 k s 0 0 true) (fun k => ?_) (Ev.step (f := fun k => weighhouseref02_Decimal.j1 k s 0 1) (fun k => ?_) j1)
      · unfold weighhouseref02_Decimal.f
        rw [if_neg hne, if_pos h0, hb, show (((c.toNat : Nat) : Int) == 45) = true by simp; omega]
      · simp only [weighhouseref02_Decimal.j0]
        rw [if_pos True.intro]
    · have hf : fromOf (c :: r) = 0 := by simp only [fromOf]; rw [if_neg h45]
      rw [hf] at j1
      refine Ev.congr (f := fun k => weighhouseref02_Decimal.j0 k s 0 0 false) (fun k => ?_) (Ev.step (f := fun k => weighhouseref02_Decimal.j1 k s 0 0) (fun k => ?_) j1)
      · unfold weighhouseref02_Decimal.f
        rw [if_neg hne, if_pos h0, hb, show (((c.toNat : Nat) : Int) == 45) = false by simp; omega]
      · simp only [weighhouseref02_Decimal.j0]
        rw [if_neg (by simp)]
theorem dec_true (s : ByteArray) (h : (decR s).2 = true) : s.data.toList = Lib.itoa (decR s).1 ∧ -9223372036854775808 ≤ (decR s).1 ∧ (decR s).1 ≤ 9223372036854775807 := by
  unfold decR at h ⊢
  generalize decL (fromOf s.data.toList) 0 (s.data.toList.drop (fromOf s.data.toList)) = o at h ⊢
  cases o with
  | none => rw [decEnd_none] at h; cases h
  | some u =>
    rw [decEnd_some] at h ⊢
    refine ⟨?_, num_bounds _ _⟩
    simp only at h
    split at h
    · exact (of_decide_eq_true h).symm
    · cases h
theorem dec_itoa (s : ByteArray) (n : Int) (h0 : -9223372036854775808 ≤ n) (h1 : n ≤ 9223372036854775807) (hs : s.data.toList = Lib.itoa n) : decR s = (n, true) := by
  by_cases hn : n < 0
  · have hi : Lib.itoa n = 45 :: Lib.decDigits n.natAbs := by unfold Lib.itoa; rw [if_pos hn]
    have hf : fromOf s.data.toList = 1 := by rw [hs, hi]; rfl
    have hl := dd_len 18 n.natAbs (by omega)
    have hd := decL_dd n.natAbs 1 [] (by omega) (by omega)
    rw [List.append_nil, decL_nil] at hd
    obtain ⟨c, r, e, _⟩ := dd_head n.natAbs
    have hnum : numOf 1 n.natAbs = n := by
      rw [num1, wm]
      unfold wrap64
      omega
    unfold decR
    rw [hf, show s.data.toList.drop 1 = Lib.decDigits n.natAbs by rw [hs, hi]; rfl, hd, decEnd_some, hnum, if_pos (by rw [hs, hi, e]; simp), hs]
    simp
  · have hi : Lib.itoa n = Lib.decDigits n.toNat := by unfold Lib.itoa; rw [if_neg hn]
    obtain ⟨c, r, e, g1, g2⟩ := dd_head n.toNat
    have hf : fromOf s.data.toList = 0 := by rw [hs, hi, e]; simp only [fromOf]; rw [if_neg (by omega)]
    have hl := dd_len 18 n.toNat (by omega)
    have hd := decL_dd n.toNat 0 [] (by omega) (by omega)
    rw [List.append_nil, decL_nil] at hd
    have hnum : numOf 0 n.toNat = n := by
      rw [num0]
      unfold wrap64
      omega
    unfold decR
    rw [hf, show s.data.toList.drop 0 = Lib.decDigits n.toNat by rw [hs, hi]; rfl, hd, decEnd_some, hnum, if_pos (by rw [hs, hi, e]; simp), hs]
    simp
end Go.Proofs.YtblaibigjhlblaaDoor.Th
end

section
/- layer 2: a word, read by the document -/
set_option linter.unusedVariables false
set_option linter.unusedSimpArgs false
namespace Go.Proofs.YtblaibigjhlblaaDoor.Th
open Go.RowKit Go.Proofs.YtblaibigjhlblaaDoorW.PrintWords Go.Proofs.YtblaibigjhlblaaDoorW.Hb Go.Proofs.YtblaibigjhlblaaDoor.Q

/-- What the document's Word gives. -/
def quoted (s : ByteArray) : Prop := 3 ≤ s.size ∧ (s.extract 0 2).toList = [120, 39] ∧ bt s ((s.size : Int) - 1) = 39
def quoteEnd (u : ByteArray × Bool) : Int × Int × ByteArray × Bool := if u.2 = true then (2, 0, u.1, decide ((u.1.size : Int) ≤ 256)) else (2, 0, u.1, false)
open Classical in
noncomputable def refW (s : ByteArray) : Int × Int × ByteArray × Bool :=
  if s.toList = [116, 114, 117, 101] then (3, 1, ⟨#[]⟩, true) else if s.toList = [102, 97, 108, 115, 101] then (3, 0, ⟨#[]⟩, true)
  else if quoted s then quoteEnd (unhEnd (s.extract 2 (s.size - 1)) (unhexU (s.extract 2 (s.size - 1)).data.toList [])) else (1, (decR s).1, ⟨#[]⟩, (decR s).2)
theorem refW_ev (s : ByteArray) (hs : s.data.toList.length ≤ 4398046511104) : Ev (fun k => weighhouseref02_Word.f k s) (refW s) := by
  have sz : s.size = s.data.toList.length := Lib.size_eq s
  have other : ¬ s.toList = [116, 114, 117, 101] → ¬ s.toList = [102, 97, 108, 115, 101] → ¬ quoted s → Ev (fun k => weighhouseref02_Word.j1 k s false) (refW s) := by
    intro n1 n2 n3
    unfold refW
    rw [if_neg n1, if_neg n2, if_neg n3]
    refine Ev.step (f := fun k => (weighhouseref02_Decimal.f k s).bind fun t => some (1, t.1, (⟨#[]⟩ : ByteArray), t.2)) (fun k => ?_) (Ev.bind (dec_ev s hs) (Ev.now _))
    simp only [weighhouseref02_Word.j1]
    rw [if_neg (by simp)]
  by_cases n1 : s.toList = [116, 114, 117, 101]
  · unfold refW
    rw [if_pos n1]
    refine Ev.congr (f := fun k => weighhouseref02_Word.j0 k s true) (fun k => ?_) (Ev.step (f := fun _ => some (3, 1, ⟨#[]⟩, true)) (fun k => ?_) (Ev.now _))
    · unfold weighhouseref02_Word.f
      rw [if_pos n1]
    · simp only [weighhouseref02_Word.j0]
      rw [if_pos True.intro, n1]
      rfl
  · by_cases n2 : s.toList = [102, 97, 108, 115, 101]
    · unfold refW
      rw [if_neg n1, if_pos n2]
      refine Ev.congr (f := fun k => weighhouseref02_Word.j0 k s true) (fun k => ?_) (Ev.step (f := fun _ => some (3, 0, ⟨#[]⟩, true)) (fun k => ?_) (Ev.now _))
      · unfold weighhouseref02_Word.f
        rw [if_neg n1, n2]
        rfl
      · simp only [weighhouseref02_Word.j0]
        rw [if_pos True.intro, n2]
        rfl
    · refine Ev.congr (f := fun k => weighhouseref02_Word.j0 k s false) (fun k => ?_) ?_
      · unfold weighhouseref02_Word.f
        rw [if_neg n1, show (s.toList == [102, 97, 108, 115, 101]) = false by simpa using n2]
      · by_cases q1 : 3 ≤ s.size
        · by_cases q2 : (s.extract 0 2).toList = [120, 39]
          · by_cases q3 : bt s ((s.size : Int) - 1) = 39
            · have hq : quoted s := ⟨q1, q2, q3⟩
              unfold refW
              rw [if_neg n1, if_neg n2, if_pos hq]
              have hu := unhex_ev (s.extract 2 (s.size - 1)) (by
                have := Lib.size_eq (s.extract 2 (s.size - 1))
                rw [ByteArray.size_extract] at this
                omega)
              refine Ev.step (f := fun k => weighhouseref02_Word.j1 k s true) (fun k => ?_) (Ev.step (f := fun k => (weighhouseref02_Unhex.f k (s.extract 2 (s.size - 1))).bind fun t => some (quoteEnd t)) (fun k => ?_) (Ev.bind hu (Ev.now _)))
              · simp only [weighhouseref02_Word.j0]
                rw [if_neg (by simp), if_pos (by omega), if_pos (by omega), if_pos (by omega), if_pos q2, w64 (by omega) (by omega), if_pos (by omega), if_pos (by omega), q3]
                rfl
              · simp only [weighhouseref02_Word.j1]
                rw [if_pos True.intro, w64 (by omega) (by omega), if_pos (by omega), if_pos (by omega), show ((s.size : Int) - 1).toNat = s.size - 1 by omega]
                congr 1
                funext t
                unfold quoteEnd
                split <;> rfl
            · refine Ev.step (f := fun k => weighhouseref02_Word.j1 k s false) (fun k => ?_) (other n1 n2 (fun h => q3 h.2.2))
              simp only [weighhouseref02_Word.j0]
              rw [if_neg (by simp), if_pos (by omega), if_pos (by omega), if_pos (by omega), if_pos q2, w64 (by omega) (by omega), if_pos (by omega), if_pos (by omega), show (bt s ((s.size : Int) - 1) == 39) = false by simpa using q3]
          · refine Ev.step (f := fun k => weighhouseref02_Word.j1 k s false) (fun k => ?_) (other n1 n2 (fun h => q2 h.2.1))
            simp only [weighhouseref02_Word.j0]
            rw [if_neg (by simp), if_pos (by omega), if_pos (by omega), if_pos (by omega), if_neg q2]
        · refine Ev.step (f := fun k => weighhouseref02_Word.j1 k s false) (fun k => ?_) (other n1 n2 (fun h => q1 h.1))
          simp only [weighhouseref02_Word.j0]
          rw [if_neg (by simp), if_neg (by omega)]
end Go.Proofs.YtblaibigjhlblaaDoor.Th
end

section
/- layer 2: digits of the base 16, there and back -/
set_option linter.unusedVariables false
set_option linter.unusedSimpArgs false
namespace Go.Proofs.YtblaibigjhlblaaDoor.Th
open Go.RowKit Go.Proofs.YtblaibigjhlblaaDoorW.PrintWords Go.Proofs.YtblaibigjhlblaaDoorW.Hb Go.Proofs.YtblaibigjhlblaaDoor.Q

theorem ix_hex : ∀ j : Nat, j < 16 → ixB (hexC j) = (j : Int) := by decide +kernel
theorem hex_ix_n : ∀ n : Nat, n < 256 → 0 ≤ ixB (UInt8.ofNat n) → hexC (ixB (UInt8.ofNat n)).toNat = UInt8.ofNat n := by decide +kernel
theorem hex_ix (c : UInt8) (h : 0 ≤ ixB c) : hexC (ixB c).toNat = c := by
  have := hex_ix_n c.toNat c.toNat_lt (by simpa using h)
  simpa using this
theorem ix_le (c : UInt8) : ixB c ≤ 15 := by rw [ixB_dgt]; exact (dgt_le _).2
theorem unhex_hex (b : List UInt8) : ∀ r acc : List UInt8, unhexU (hexU b ++ r) acc = unhexU r (acc ++ b) := by
  induction b with
  | nil => intro r acc; simp [hexU]
  | cons c b ih =>
    intro r acc
    have c0 := c.toNat_lt
    have e : hexU (c :: b) ++ r = hexC (c.toNat / 16) :: hexC (c.toNat % 16) :: (hexU b ++ r) := by simp [hexU]
    rw [e, unhexU_two, ix_hex _ (by omega), ix_hex _ (by omega), if_neg (by omega), ih]
    have eb : (((c.toNat / 16 : Nat) : Int) * 16 + ((c.toNat % 16 : Nat) : Int)).toNat.toUInt8 = c := by
      rw [show (((c.toNat / 16 : Nat) : Int) * 16 + ((c.toNat % 16 : Nat) : Int)).toNat = c.toNat by omega]
      simp [Nat.toUInt8]
    rw [eb]
    simp
theorem unhex_even (n : Nat) : ∀ l acc out : List UInt8, l.length = 2 * n → unhexU l acc = some out → ∃ b, out = acc ++ b ∧ l = hexU b := by
  induction n with
  | zero =>
    intro l acc out hl h
    obtain rfl : l = [] := List.eq_nil_of_length_eq_zero (by omega)
    rw [unhexU] at h
    · exact ⟨[], by simpa using (Option.some.inj h).symm, rfl⟩
    · simp
  | succ n ih =>
    intro l acc out hl h
    match l, hl, h with
    | a :: b :: r, hl, h =>
      rw [unhexU_two] at h
      split at h
      · cases h
      · rename_i hn
        have a1 := ix_le a
        have b1 := ix_le b
        obtain ⟨q, q1, q2⟩ := ih r _ out (by simp only [List.length_cons] at hl; omega) h
        refine ⟨(ixB a * 16 + ixB b).toNat.toUInt8 :: q, by rw [q1]; simp, ?_⟩
        have t : ((ixB a * 16 + ixB b).toNat.toUInt8).toNat = (ixB a * 16 + ixB b).toNat := by rw [Nat.toUInt8, UInt8.toNat_ofNat']; omega
        have e : hexU ((ixB a * 16 + ixB b).toNat.toUInt8 :: q) = hexC ((ixB a * 16 + ixB b).toNat / 16) :: hexC ((ixB a * 16 + ixB b).toNat % 16) :: hexU q := by simp [hexU, t]
        rw [e, show (ixB a * 16 + ixB b).toNat / 16 = (ixB a).toNat by omega, show (ixB a * 16 + ixB b).toNat % 16 = (ixB b).toNat by omega, hex_ix a (by omega), hex_ix b (by omega), ← q2]
end Go.Proofs.YtblaibigjhlblaaDoor.Th
end

section
/- layer 2: lists of values printed, by the program and by the document -/
set_option linter.unusedVariables false
set_option linter.unusedSimpArgs false
namespace Go.Proofs.YtblaibigjhlblaaDoor.Th
open Go.RowKit Go.Proofs.YtblaibigjhlblaaDoorW.PrintWords Go.Proofs.YtblaibigjhlblaaDoorW.Hb Go.Proofs.YtblaibigjhlblaaDoor.Q

def allF (p : Nat → Bool) : Nat → Nat → Bool
  | 0, _ => true
  | d + 1, i => if p i = true then allF p d (i + 1) else false
theorem allF_true {p : Nat → Bool} (n : Nat) (hp : ∀ i, i < n → p i = true) : ∀ d i, i + d = n → allF p d i = true := by
  intro d
  induction d with
  | zero => intro i _; rfl
  | succ d ih =>
    intro i hi
    show (if p i = true then allF p d (i + 1) else false) = true
    rw [if_pos (hp i (by omega))]
    exact ih (i + 1) (by omega)
theorem scan_ev (g : Nat → Int → Option Bool) (n : Nat) (p : Nat → Bool)
    (hs : ∀ k (i : Nat), i < n → g (k + 1) (i : Int) = if p i = true then g k ((i + 1 : Nat) : Int) else some false)
    (he : ∀ k, g (k + 1) (n : Int) = some true) : ∀ d i, i + d = n → Ev (fun k => g k (i : Int)) (allF p d i) := by
  intro d
  induction d with
  | zero =>
    intro i hi
    obtain rfl : i = n := hi
    exact Ev.step (f := fun _ => some true) (fun k => he k) (Ev.now _)
  | succ d ih =>
    intro i hi
    show Ev _ (if p i = true then allF p d (i + 1) else false)
    by_cases hp : p i = true
    · rw [if_pos hp]
      refine Ev.step (f := fun k => g k ((i + 1 : Nat) : Int)) (fun k => ?_) (ih (i + 1) (by omega))
      show g (k + 1) (i : Int) = _
      rw [hs k i (by omega), if_pos hp]
    · rw [if_neg hp]
      refine Ev.step (f := fun _ => some false) (fun k => ?_) (Ev.now _)
      show g (k + 1) (i : Int) = _
      rw [hs k i (by omega), if_neg hp]
theorem right_ok (a b : Int) (s : ByteArray) : value_Right.f a b s = some (okv a b s) := by
  unfold value_Right.f okv value_Number.f value_Text.f value_Truth.f
  by_cases h1 : a = 1
  · rw [if_pos h1, if_pos h1]
    simp [h1, emptyL]
  · rw [if_neg h1, if_neg h1]
    by_cases h2 : a = 2
    · rw [if_pos h2, if_pos h2]
      by_cases hb : b = 0
      · simp [h2, hb]
      · simp [h2, hb]
    · rw [if_neg h2, if_neg h2]
      by_cases h3 : a = 3
      · rw [if_pos h3, if_pos h3]
        by_cases hb : b = 0
        · by_cases hs : s.toList = [] <;> simp [h3, hb, hs, emptyL]
        · by_cases hb1 : b = 1
          · by_cases hs : s.toList = [] <;> simp [h3, hb1, hs, emptyL]
          · simp [h3, hb, hb1, emptyL]
      · rw [if_neg h3, if_neg h3]
theorem refRight_ok (a b : Int) (s : ByteArray) : weighhouseref02_Right.f a b s = some (okv a b s) := by
  unfold weighhouseref02_Right.f okv
  repeat' split
  all_goals first | rfl | (exfalso; omega)
def okS (s : S37) : Bool := okv s.f0 s.f1 s.f2
def allOk (l : List S37) : Bool := allF (fun i => okS (rd_T37 l (i : Int))) l.length 0
theorem all_ev (l : List S37) (hm : l.length ≤ 4611686018427387904) : Ev (fun k => value_all.f k l) (allOk l) := by
  refine scan_ev (fun k i => value_all.l0 k l (l.length : Int) i) l.length _ (fun k i hi => ?_) (fun k => ?_) l.length 0 (by omega)
  · simp only [value_all.l0]
    rw [if_pos (by omega), if_pos (by omega), if_pos (by omega), right_ok, Option.bind_some, w64 (by omega) (by omega)]
    rfl
  · simp only [value_all.l0]
    rw [if_neg (by omega)]
theorem refAll_ev (l : List S37) (hm : l.length ≤ 4611686018427387904) : Ev (fun k => weighhouseref02_All.f k l) (allOk l) := by
  refine scan_ev (fun k i => weighhouseref02_All.l0 k l i) l.length _ (fun k i hi => ?_) (fun k => ?_) l.length 0 (by omega)
  · simp only [weighhouseref02_All.l0]
    rw [if_pos (by omega), if_pos (by omega), refRight_ok, Option.bind_some, w64 (by omega) (by omega)]
    rfl
  · simp only [weighhouseref02_All.l0]
    rw [if_neg (by omega)]
theorem allF_get {p : Nat → Bool} : ∀ d i, allF p d i = true → ∀ j, i ≤ j → j < i + d → p j = true := by
  intro d
  induction d with
  | zero => intro i _ j h1 h2; omega
  | succ d ih =>
    intro i h j h1 h2
    have h' : (if p i = true then allF p d (i + 1) else false) = true := h
    by_cases hp : p i = true
    · rw [if_pos hp] at h'
      by_cases e : j = i
      · rw [e]; exact hp
      · exact ih (i + 1) h' j (by omega) (by omega)
    · rw [if_neg hp] at h'; cases h'
theorem rdT (l : List S37) (i : Nat) (h : i < l.length) : rd_T37 l (i : Int) = l[i] := by simp [rd_T37, List.getD_eq_getElem?_getD, h]
theorem ok_get {l : List S37} (h : allOk l = true) (i : Nat) (hi : i < l.length) : okv l[i].f0 l[i].f1 l[i].f2 = true := by
  have := allF_get l.length 0 h i (by omega) (by omega)
  rw [rdT l i hi] at this
  exact this
theorem join_snoc (xs : List (List UInt8)) (x sep : List UInt8) (hx : xs ≠ []) : Lib.join (xs ++ [x]) sep = Lib.join xs sep ++ (sep ++ x) := by
  cases xs with
  | nil => exact absurd rfl hx
  | cons a r =>
    rw [List.cons_append, Lib.join_cons, Lib.join_cons]
    simp [Lib.joinTail]
theorem texts_ok (l : List S37) (hok : ∀ i (h : i < l.length), okv l[i].f0 l[i].f1 l[i].f2 = true) (hw : ∀ y ∈ l, -9223372036854775808 ≤ y.f1 ∧ y.f1 ≤ 9223372036854775807) :
    ∃ ts, textsOf l = some ts ∧ ts.length = l.length ∧ ∀ i (h : i < l.length) (h' : i < ts.length), Ev (fun k => weighhouseref02_One.f k l[i].f0 l[i].f1 l[i].f2) ts[i] ∧ ts[i].size ≤ 600 ∧ value_text.f l[i].f0 l[i].f1 l[i].f2 = some ts[i] := by
  induction l with
  | nil => exact ⟨[], rfl, rfl, fun i h => absurd h (by simp)⟩
  | cons v r ih =>
    obtain ⟨ts, t1, t2, t3⟩ := ih (fun i h => by have := hok (i + 1) (by simpa using h); simpa using this) (fun y hy => hw y (List.mem_cons_of_mem _ hy))
    have hv := hok 0 (by simp)
    rw [List.getElem_cons_zero] at hv
    obtain ⟨t, e1, e2, e3⟩ := one_ev v.f0 v.f1 v.f2 hv (hw v (by simp)).1 (hw v (by simp)).2
    refine ⟨t :: ts, ?_, by simp [t2], ?_⟩
    · unfold textsOf
      rw [e1, Option.bind_some, t1, Option.bind_some]
    · intro i h h'
      cases i with
      | zero => exact ⟨e2, e3, e1⟩
      | succ i => exact t3 i (by simpa using h) (by simpa using h')
theorem join_len (xs : List (List UInt8)) (h : ∀ x ∈ xs, x.length ≤ 600) : (Lib.join xs [32]).length ≤ 601 * xs.length := by
  cases xs with
  | nil => simp [Lib.join_nil]
  | cons a r =>
    rw [Lib.join_cons]
    have ha := h a (by simp)
    have : ∀ r : List (List UInt8), (∀ x ∈ r, x.length ≤ 600) → (Lib.joinTail [32] r).length ≤ 601 * r.length := by
      intro r
      induction r with
      | nil => intro _; simp [Lib.joinTail]
      | cons b r ih =>
        intro hr
        have hb := hr b (by simp)
        have := ih (fun x hx => hr x (List.mem_cons_of_mem _ hx))
        have e : (Lib.joinTail [32] (b :: r)).length = 1 + b.length + (Lib.joinTail [32] r).length := by simp [Lib.joinTail]; omega
        rw [e, List.length_cons]
        omega
    have := this r (fun x hx => h x (List.mem_cons_of_mem _ hx))
    rw [List.length_append, List.length_cons]
    omega
theorem print_ev (l : List S37) (hn : l.length ≤ 1048576) (hw : ∀ y ∈ l, -9223372036854775808 ≤ y.f1 ∧ y.f1 ≤ 9223372036854775807) : ∃ r, Ev (fun k => value_Print.f k l) r ∧ Ev (fun k => weighhouseref02_Print.f k l) r := by
  by_cases ha : allOk l = true
  · obtain ⟨ts, t1, t2, t3⟩ := texts_ok l (fun i h => ok_get ha i h) hw
    have tl : ∀ i, ∀ x ∈ (ts.take i).map (·.data.toList), x.length ≤ 600 := by
      intro i x hx
      obtain ⟨b, hb, rfl⟩ := List.mem_map.1 hx
      obtain ⟨j, hj, rfl⟩ := List.mem_iff_getElem.1 (List.mem_of_mem_take hb)
      have := (t3 j (by omega) hj).2.1
      rw [Lib.size_eq] at this
      exact this
    have lj : ∀ i, (joinB (ts.take i)).length ≤ 601 * l.length := by
      intro i
      have := join_len _ (tl i)
      rw [List.length_map, List.length_take] at this
      unfold joinB
      omega
    refine ⟨⟨(joinB ts).toArray⟩, ?_, ?_⟩
    · refine Ev.congr (f := fun k => (value_all.f k l).bind fun q => if q = true then some ⟨(joinB ts).toArray⟩ else some ⟨#[]⟩) (fun k => ?_) (Ev.bind (all_ev l (by omega)) (Ev.congr (fun k => by rw [if_pos ha]) (Ev.now _)))
      have := lj ts.length
      rw [List.take_length] at this
      unfold value_Print.f
      rw [t1, Option.bind_some, if_pos ⟨by omega, by omega⟩]
    · have loop : ∀ d i : Nat, i + d = l.length → Ev (fun k => weighhouseref02_Print.l0 k l ⟨(joinB (ts.take i)).toArray⟩ (i : Int)) ⟨(joinB ts).toArray⟩ := by
        intro d
        induction d with
        | zero =>
          intro i hi
          refine Ev.step (f := fun _ => some ⟨(joinB ts).toArray⟩) (fun k => ?_) (Ev.now _)
          simp only [weighhouseref02_Print.l0]
          rw [if_neg (by omega), List.take_of_length_le (by omega)]
        | succ d ih =>
          intro i hi
          have hil : i < l.length := by omega
          have hit : i < ts.length := by omega
          obtain ⟨o1, o2, o3⟩ := t3 i hil hit
          have sz := lj i
          have se : (⟨(joinB (ts.take i)).toArray⟩ : ByteArray).size = (joinB (ts.take i)).length := by rw [Lib.size_eq]
          have nx := ih (i + 1) (by omega)
          rw [List.take_succ_eq_append_getElem hit] at nx
          by_cases h0 : i = 0
          · subst h0
            have e : (⟨(joinB (ts.take 0)).toArray⟩ : ByteArray) ++ ts[0] = ⟨(joinB (ts.take 0 ++ [ts[0]])).toArray⟩ := by
              apply ByteArray.ext
              rw [ByteArray.data_append]
              simp [joinB, Lib.join_nil, Lib.join_one]
            refine Ev.step (f := fun k => (weighhouseref02_One.f k l[0].f0 l[0].f1 l[0].f2).bind fun t => if (⟨(joinB (ts.take 0)).toArray⟩ : ByteArray).size + t.size ≤ 9223372036854775807 then weighhouseref02_Print.l0 k l ((⟨(joinB (ts.take 0)).toArray⟩ : ByteArray) ++ t) ((0 + 1 : Nat) : Int) else none) (fun k => ?_) (Ev.bind o1 (Ev.congr (fun k => if_pos (by rw [se]; omega)) (by rw [e]; exact nx)))
            simp only [weighhouseref02_Print.l0]
            rw [if_pos (by omega), if_neg (by omega), if_pos (by omega), rdT l 0 hil, w64 (by omega) (by omega)]
            rfl
          · have e : ((⟨(joinB (ts.take i)).toArray⟩ : ByteArray) ++ (⟨#[32]⟩ : ByteArray)) ++ ts[i] = ⟨(joinB (ts.take i ++ [ts[i]])).toArray⟩ := by
              apply ByteArray.ext
              rw [ByteArray.data_append, ByteArray.data_append]
              unfold joinB
              rw [List.map_append, List.map_cons, List.map_nil, join_snoc _ _ _ (by
                intro hc
                have := congrArg List.length hc
                rw [List.length_map, List.length_take, List.length_nil] at this
                omega)]
              simp
            refine Ev.step (f := fun k => (weighhouseref02_One.f k l[i].f0 l[i].f1 l[i].f2).bind fun t => if ((⟨(joinB (ts.take i)).toArray⟩ : ByteArray) ++ (⟨#[32]⟩ : ByteArray)).size + t.size ≤ 9223372036854775807 then weighhouseref02_Print.l0 k l (((⟨(joinB (ts.take i)).toArray⟩ : ByteArray) ++ (⟨#[32]⟩ : ByteArray)) ++ t) ((i + 1 : Nat) : Int) else none) (fun k => ?_) (Ev.bind o1 (Ev.congr (fun k => if_pos (by rw [ByteArray.size_append, se]; show _ + 1 + _ ≤ _; omega)) (by rw [e]; exact nx)))
            simp only [weighhouseref02_Print.l0]
            rw [if_pos (by omega), if_pos (by omega), if_pos (by rw [se]; omega), if_pos (by omega), rdT l i hil, w64 (by omega) (by omega)]
            rfl
      have nx := loop l.length 0 (by omega)
      refine Ev.congr (f := fun k => (weighhouseref02_All.f k l).bind fun q => if q = true then weighhouseref02_Print.l0 k l ⟨#[]⟩ 0 else some ⟨#[]⟩) (fun k => rfl) (Ev.bind (refAll_ev l (by omega)) (Ev.congr (fun k => by rw [if_pos ha]; rfl) nx))
  · have ha' : allOk l = false := by simpa using ha
    refine ⟨⟨#[]⟩, ?_, ?_⟩
    · refine Ev.congr (f := fun k => (value_all.f k l).bind fun q => if q = true then ((textsOf l).bind fun ts => if (l.length + 1) * 16 ≤ 140737488355328 ∧ (joinB ts).length ≤ 140737488355328 then some ⟨(joinB ts).toArray⟩ else none) else some ⟨#[]⟩) (fun k => rfl) (Ev.bind (all_ev l (by omega)) (Ev.congr (fun k => by rw [ha', if_neg (by simp)]) (Ev.now _)))
    · refine Ev.congr (f := fun k => (weighhouseref02_All.f k l).bind fun q => if q = true then weighhouseref02_Print.l0 k l ⟨#[]⟩ 0 else some ⟨#[]⟩) (fun k => rfl) (Ev.bind (refAll_ev l (by omega)) (Ev.congr (fun k => by rw [ha', if_neg (by simp)]) (Ev.now _)))
end Go.Proofs.YtblaibigjhlblaaDoor.Th
end

section
/- layer 2: a word, by the program and by the document: the same -/
set_option linter.unusedVariables false
set_option linter.unusedSimpArgs false
namespace Go.Proofs.YtblaibigjhlblaaDoor.Th
open Go.RowKit Go.Proofs.YtblaibigjhlblaaDoorW.PrintWords Go.Proofs.YtblaibigjhlblaaDoorW.Hb Go.Proofs.YtblaibigjhlblaaDoor.Q

/-- The text L is the value's. -/
def IsText (a b : Int) (c : ByteArray) (L : List UInt8) : Prop :=
  okv a b c = true ∧ -9223372036854775808 ≤ b ∧ b ≤ 9223372036854775807 ∧ ∃ t : ByteArray, value_text.f a b c = some t ∧ t.data.toList = L
theorem nilB {s : ByteArray} (h : s.toList = []) : s = ⟨#[]⟩ := by
  rw [ByteArray.toList_eq] at h
  cases s with
  | mk d => simpa using h
/-- The three kinds of values that may be, and their texts. -/
theorem isText_cases {a b : Int} {c : ByteArray} {L : List UInt8} (h : IsText a b c L) :
    (a = 1 ∧ c = ⟨#[]⟩ ∧ L = Lib.itoa b ∧ -9223372036854775808 ≤ b ∧ b ≤ 9223372036854775807) ∨ (a = 2 ∧ b = 0 ∧ c.size ≤ 256 ∧ L = textU c) ∨ (a = 3 ∧ b = 1 ∧ c = ⟨#[]⟩ ∧ L = [116, 114, 117, 101]) ∨ (a = 3 ∧ b = 0 ∧ c = ⟨#[]⟩ ∧ L = [102, 97, 108, 115, 101]) := by
  obtain ⟨h1, h2, h3, t, h4, rfl⟩ := h
  unfold okv at h1
  unfold value_text.f at h4
  by_cases a1 : a = 1
  · rw [if_pos a1] at h1
    rw [if_pos a1, if_pos ⟨h2, h3⟩] at h4
    obtain rfl := Option.some.inj h4
    exact .inl ⟨a1, nilB (by simpa using h1), rfl, h2, h3⟩
  · rw [if_neg a1] at h1 h4
    by_cases a2 : a = 2
    · rw [if_pos a2] at h1
      rw [if_neg (by omega)] at h4
      split at h1
      · rename_i hb
        have := of_decide_eq_true h1
        rw [if_pos (by omega)] at h4
        obtain rfl := Option.some.inj h4
        exact .inr (.inl ⟨a2, hb, by omega, rfl⟩)
      · cases h1
    · rw [if_neg a2] at h1
      by_cases a3 : a = 3
      · rw [if_pos a3] at h1 h4
        obtain rfl := Option.some.inj h4
        split at h1
        · rename_i hb
          subst hb
          exact .inr (.inr (.inr ⟨a3, rfl, nilB (by simpa using h1), rfl⟩))
        · split at h1
          · rename_i hb
            subst hb
            exact .inr (.inr (.inl ⟨a3, rfl, nilB (by simpa using h1), rfl⟩))
          · cases h1
      · rw [if_neg a3] at h1
        cases h1
theorem isText_int {b : Int} (h0 : -9223372036854775808 ≤ b) (h1 : b ≤ 9223372036854775807) : IsText 1 b ⟨#[]⟩ (Lib.itoa b) := by
  refine ⟨by unfold okv; rw [if_pos rfl, emptyL]; rfl, h0, h1, ⟨(Lib.itoa b).toArray⟩, by unfold value_text.f; rw [if_pos rfl, if_pos ⟨h0, h1⟩], rfl⟩
theorem isText_bytes {c : ByteArray} (h : c.size ≤ 256) : IsText 2 0 c (textU c) := by
  refine ⟨by unfold okv; rw [if_neg (by omega), if_pos rfl, if_pos rfl]; exact decide_eq_true (by omega), by omega, by omega, ⟨(textU c).toArray⟩, by unfold value_text.f; rw [if_neg (by omega), if_neg (by omega), if_pos (by omega)], rfl⟩
theorem isText_true : IsText 3 1 ⟨#[]⟩ [116, 114, 117, 101] := by
  refine ⟨by unfold okv; rw [if_neg (by omega), if_neg (by omega), if_pos rfl, if_neg (by omega), if_pos rfl, emptyL]; rfl, by omega, by omega, _, by unfold value_text.f; rw [if_neg (by omega), if_pos rfl], rfl⟩
theorem isText_false : IsText 3 0 ⟨#[]⟩ [102, 97, 108, 115, 101] := by
  refine ⟨by unfold okv; rw [if_neg (by omega), if_neg (by omega), if_pos rfl, if_pos rfl, emptyL]; rfl, by omega, by omega, _, by unfold value_text.f; rw [if_neg (by omega), if_pos rfl], rfl⟩
theorem itoa_head (n : Int) : ∃ c r, Lib.itoa n = c :: r ∧ (c.toNat = 45 ∨ 48 ≤ c.toNat ∧ c.toNat ≤ 57) := by
  unfold Lib.itoa
  split
  · exact ⟨45, _, rfl, .inl rfl⟩
  · obtain ⟨c, r, e, h⟩ := dd_head n.toNat
    exact ⟨c, r, e, .inr h⟩
/-! ### the program -/
theorem pre_int {s : ByteArray} {n : Int} (h0 : -9223372036854775808 ≤ n) (h1 : n ≤ 9223372036854775807) (hs : s.data.toList = Lib.itoa n) : preV s = ((1, n, ⟨#[]⟩), false) := by
  obtain ⟨c, r, e, hc⟩ := itoa_head n
  have hp : Lib.hasPrefix s.data.toList [120, 39] = false := by
    rw [hs, e]
    unfold Lib.hasPrefix
    have : ((120 : UInt8) == c) = false := by
      rw [beq_eq_false_iff_ne]
      rintro rfl
      have : (120 : UInt8).toNat = 120 := rfl
      omega
    simp [List.isPrefixOf, this]
  unfold preV
  rw [hp, if_neg (by decide), hs, atoi_itoa n h0 h1]
theorem pre_bytes {s c : ByteArray} (hs : s.data.toList = textU c) : preV s = ((2, 0, c), false) := by
  have hp : Lib.hasPrefix s.data.toList [120, 39] = true := by
    rw [hs]
    unfold Lib.hasPrefix textU
    simp [List.isPrefixOf]
  have ht : Lib.trimPrefix s.data.toList [120, 39] = hexU c.data.toList ++ [39] := by
    unfold Lib.trimPrefix
    rw [hp, if_pos rfl, hs]
    rfl
  have hu : unhexU (hexU c.data.toList ++ [39]) [] = some c.data.toList := by
    rw [unhex_hex, List.nil_append, unhexU]
    simp
  unfold preV
  rw [hp, if_pos rfl, ht, hu]
theorem pre_true {s : ByteArray} (hs : s.data.toList = [116, 114, 117, 101]) : preV s = ((3, 1, ⟨#[]⟩), false) := by
  have hp : Lib.hasPrefix [116, 114, 117, 101] [120, 39] = false := by decide
  have ha : Lib.atoiAll [116, 114, 117, 101] = Lib.NumEnd.syntax := by decide
  unfold preV trueV
  rw [ByteArray.toList_eq, hs, hp, if_neg (by decide), ha]
  rfl
theorem pre_false {s : ByteArray} (hs : s.data.toList = [102, 97, 108, 115, 101]) : preV s = ((3, 0, ⟨#[]⟩), false) := by
  have hp : Lib.hasPrefix [102, 97, 108, 115, 101] [120, 39] = false := by decide
  have ha : Lib.atoiAll [102, 97, 108, 115, 101] = Lib.NumEnd.syntax := by decide
  unfold preV trueV
  rw [ByteArray.toList_eq, hs, hp, if_neg (by decide), ha]
  rfl
theorem pre_text {a b : Int} {c s : ByteArray} (h : IsText a b c s.data.toList) : preV s = ((a, b, c), false) := by
  rcases isText_cases h with ⟨rfl, rfl, h1, h2, h3⟩ | ⟨rfl, rfl, h1, h2⟩ | ⟨rfl, rfl, rfl, h1⟩ | ⟨rfl, rfl, rfl, h1⟩
  · exact pre_int h2 h3 h1
  · exact pre_bytes h2
  · exact pre_true h1
  · exact pre_false h1
theorem pre_bounds (s : ByteArray) : -9223372036854775808 ≤ (preV s).1.2.1 ∧ (preV s).1.2.1 ≤ 9223372036854775807 := by
  have ht : 0 ≤ trueV s ∧ trueV s ≤ 1 := by unfold trueV; split <;> omega
  unfold preV
  split
  · split
    · dsimp only; omega
    · dsimp only; omega
  · split
    · rename_i n hn
      exact Lib.atoiAll_bounds hn
    · dsimp only; omega
theorem word_prog (s : ByteArray) (hs : s.size ≤ 281474976710656) : ∃ a b c ok, value_word.f s = some (a, b, c, ok) ∧ (ok = true → IsText a b c s.data.toList) ∧ ∀ a' b' c', IsText a' b' c' s.data.toList → (a', b', c') = (a, b, c) ∧ ok = true := by
  have key : ∀ a' b' c', IsText a' b' c' s.data.toList → value_word.f s = some (a', b', c', true) := by
    intro a' b' c' h
    obtain ⟨h1, h2, h3, t, h4, h5⟩ := id h
    unfold value_word.f
    rw [if_neg (by omega), pre_text h, if_neg (by simp), right_ok, Option.bind_some, h1, if_pos rfl]
    dsimp only
    rw [h4, Option.bind_some, ByteArray.toList_eq, ByteArray.toList_eq, h5]
    simp
  have tot : ∃ a b c ok, value_word.f s = some (a, b, c, ok) ∧ (ok = true → IsText a b c s.data.toList) := by
    unfold value_word.f
    rw [if_neg (by omega)]
    by_cases hp : (preV s).2 = true
    · rw [if_pos hp]
      exact ⟨_, _, _, _, rfl, fun h => by cases h⟩
    · rw [if_neg hp, right_ok, Option.bind_some]
      by_cases hk : okv (preV s).1.1 (preV s).1.2.1 (preV s).1.2.2 = true
      · obtain ⟨t, e1, _, _⟩ := one_ev _ _ _ hk (pre_bounds s).1 (pre_bounds s).2
        rw [if_pos hk, e1, Option.bind_some]
        refine ⟨_, _, _, _, rfl, fun h => ⟨hk, (pre_bounds s).1, (pre_bounds s).2, t, e1, ?_⟩⟩
        rw [ByteArray.toList_eq, ByteArray.toList_eq] at h
        simpa using h
      · rw [if_neg hk]
        exact ⟨_, _, _, _, rfl, fun h => by cases h⟩
  obtain ⟨a, b, c, ok, e, h⟩ := tot
  refine ⟨a, b, c, ok, e, h, fun a' b' c' h' => ?_⟩
  have := key a' b' c' h'
  rw [e] at this
  simp only [Option.some.injEq, Prod.mk.injEq] at this
  obtain ⟨rfl, rfl, rfl, rfl⟩ := this
  exact ⟨rfl, rfl⟩
/-! ### the document -/
theorem mid_list (s : ByteArray) : (s.extract 2 (s.size - 1)).data.toList = (s.data.toList.drop 2).take (s.size - 1 - 2) := Lib.extract_data s 2 (s.size - 1)
theorem quoted_form {s : ByteArray} (h : quoted s) : s.data.toList = 120 :: 39 :: ((s.extract 2 (s.size - 1)).data.toList ++ [39]) := by
  obtain ⟨h1, h2, h3⟩ := h
  have sz := Lib.size_eq s
  rw [Lib.extract_toList, List.drop_zero] at h2
  have hl : s.size - 1 < s.data.toList.length := by omega
  have hb := bt_get s (s.size - 1) hl
  rw [show ((s.size - 1 : Nat) : Int) = (s.size : Int) - 1 by omega, h3] at hb
  have hc : s.data.toList[s.size - 1] = 39 := by
    apply UInt8.toNat_inj.1
    have : (39 : UInt8).toNat = 39 := rfl
    omega
  rw [mid_list]
  have e1 : s.data.toList = s.data.toList.take 2 ++ s.data.toList.drop 2 := (List.take_append_drop _ _).symm
  have e2 : s.data.toList.drop 2 = (s.data.toList.drop 2).take (s.size - 1 - 2) ++ (s.data.toList.drop 2).drop (s.size - 1 - 2) := (List.take_append_drop _ _).symm
  have e3 : (s.data.toList.drop 2).drop (s.size - 1 - 2) = [39] := by
    rw [List.drop_drop, show 2 + (s.size - 1 - 2) = s.size - 1 by omega, List.drop_eq_getElem_cons hl, hc, List.drop_eq_nil_of_le (by omega)]
  have h2' : List.take 2 s.data.toList = [120, 39] := h2
  rw [e3] at e2
  conv => lhs; rw [e1, h2', e2]
  rfl
theorem quoted_of {s : ByteArray} {m : List UInt8} (h : s.data.toList = 120 :: 39 :: (m ++ [39])) : quoted s ∧ (s.extract 2 (s.size - 1)).data.toList = m := by
  have sz := Lib.size_eq s
  have hl : s.data.toList.length = m.length + 3 := by rw [h]; simp
  refine ⟨⟨by omega, ?_, ?_⟩, ?_⟩
  · rw [Lib.extract_toList, h]
    rfl
  · have hb := bt_get s (s.size - 1) (by omega)
    rw [show ((s.size - 1 : Nat) : Int) = (s.size : Int) - 1 by omega] at hb
    have hq : s.data.toList[s.size - 1]'(by omega) = 39 := by
      have : s.data.toList[s.size - 1]? = some 39 := by
        rw [h, show s.size - 1 = m.length + 1 + 1 by omega, List.getElem?_cons_succ, List.getElem?_cons_succ, List.getElem?_append_right (Nat.le_refl _)]
        simp
      rw [List.getElem?_eq_getElem (by omega)] at this
      exact Option.some.inj this
    rw [hb, hq]
    rfl
  · rw [mid_list, h, show s.size - 1 - 2 = m.length by omega]
    simp
theorem ref_text {a b : Int} {c s : ByteArray} (h : IsText a b c s.data.toList) : refW s = (a, b, c, true) := by
  have ne : ∀ c0 r, s.data.toList = c0 :: r → c0.toNat ≠ 116 → c0.toNat ≠ 102 → ¬ s.toList = [116, 114, 117, 101] ∧ ¬ s.toList = [102, 97, 108, 115, 101] := by
    intro c0 r h n1 n2
    rw [ByteArray.toList_eq, h]
    refine ⟨fun he => n1 ?_, fun he => n2 ?_⟩
    · rw [(List.cons.inj he).1]; rfl
    · rw [(List.cons.inj he).1]; rfl
  rcases isText_cases h with ⟨rfl, rfl, h1, h2, h3⟩ | ⟨rfl, rfl, h1, h2⟩ | ⟨rfl, rfl, rfl, h1⟩ | ⟨rfl, rfl, rfl, h1⟩
  · obtain ⟨c0, r, e, hc⟩ := itoa_head b
    obtain ⟨n1, n2⟩ := ne c0 r (h1.trans e) (by omega) (by omega)
    have nq : ¬ quoted s := by
      intro q
      have := quoted_form q
      rw [h1, e] at this
      have h120 := (List.cons.inj this).1
      rw [h120] at hc
      have : (120 : UInt8).toNat = 120 := rfl
      omega
    unfold refW
    rw [if_neg n1, if_neg n2, if_neg nq, dec_itoa s b h2 h3 h1]
  · have hf : s.data.toList = 120 :: 39 :: (hexU c.data.toList ++ [39]) := h2
    obtain ⟨q, hm⟩ := quoted_of hf
    obtain ⟨n1, n2⟩ := ne 120 _ hf (by decide) (by decide)
    have hu : unhexU (hexU c.data.toList) [] = some c.data.toList := by
      have := unhex_hex c.data.toList [] []
      rw [List.append_nil, List.nil_append] at this
      rw [this, unhexU]
      simp
    have hsz : (s.extract 2 (s.size - 1)).size = 2 * c.data.toList.length := by rw [Lib.size_eq, hm, hexU_len]
    unfold refW
    rw [if_neg n1, if_neg n2, if_pos q, hm, hu, unhEnd_some, hsz]
    unfold quoteEnd
    have hev : ((((2 * c.data.toList.length : Nat) : Int) % 2) == 0) = true := by
      rw [beq_iff_eq]; omega
    rw [hev, if_pos rfl]
    have : decide (((⟨c.data.toList.toArray⟩ : ByteArray).size : Int) ≤ 256) = true := decide_eq_true (by
      have h9 : (⟨c.data.toList.toArray⟩ : ByteArray) = c := by cases c; simp
      rw [h9]; omega)
    rw [this]
  · unfold refW
    rw [if_pos (by rw [ByteArray.toList_eq]; exact h1)]
  · unfold refW
    rw [if_neg (by rw [ByteArray.toList_eq, h1]; decide), if_pos (by rw [ByteArray.toList_eq]; exact h1)]
theorem text_ref {s : ByteArray} (h : (refW s).2.2.2 = true) : IsText (refW s).1 (refW s).2.1 (refW s).2.2.1 s.data.toList := by
  unfold refW at h ⊢
  split
  · rename_i h1
    rw [← ByteArray.toList_eq, h1]
    exact isText_true
  · rename_i n1
    rw [if_neg n1] at h
    split
    · rename_i h1
      rw [← ByteArray.toList_eq, h1]
      exact isText_false
    · rename_i n2
      rw [if_neg n2] at h
      split
      · rename_i q
        rw [if_pos q] at h
        have hf := quoted_form q
        generalize hu : unhexU (s.extract 2 (s.size - 1)).data.toList [] = o at h ⊢
        cases o with
        | none =>
          rw [unhEnd_none] at h
          unfold quoteEnd at h
          cases h
        | some b =>
          rw [unhEnd_some] at h ⊢
          unfold quoteEnd at h ⊢
          split at h
          · rename_i hev
            dsimp only at hev h ⊢
            rw [if_pos hev]
            dsimp only
            rw [beq_iff_eq] at hev
            have h256 := of_decide_eq_true h
            have hsz : (⟨b.toArray⟩ : ByteArray).size = b.length := by rw [Lib.size_eq]
            obtain ⟨b', e1, e2⟩ := unhex_even ((s.extract 2 (s.size - 1)).size / 2) _ [] b (by rw [← Lib.size_eq]; omega) hu
            rw [List.nil_append] at e1
            subst e1
            have : s.data.toList = textU ⟨b.toArray⟩ := by
              rw [hf, e2]
              rfl
            rw [this]
            exact isText_bytes (by omega)
          · cases h
      · rename_i q
        rw [if_neg q] at h
        obtain ⟨h1, h2, h3⟩ := dec_true s h
        rw [h1]
        exact isText_int h2 h3
/-- A word, both ways. -/
theorem word_same (s : ByteArray) (hs : s.size ≤ 281474976710656) : ∃ a b c ok, value_word.f s = some (a, b, c, ok) ∧ (refW s).2.2.2 = ok ∧ (ok = true → refW s = (a, b, c, true)) := by
  obtain ⟨a, b, c, ok, h1, h2, h3⟩ := word_prog s hs
  refine ⟨a, b, c, ok, h1, ?_, fun h => ref_text (h2 h)⟩
  cases ok with
  | true => rw [ref_text (h2 rfl)]
  | false =>
    cases hr : (refW s).2.2.2 with
    | false => rfl
    | true => exact absurd (h3 _ _ _ (text_ref hr)).2 (by decide)
end Go.Proofs.YtblaibigjhlblaaDoor.Th
end

section
/- layer 2: a text cut at its spaces -/
set_option linter.unusedVariables false
set_option linter.unusedSimpArgs false
namespace Go.Proofs.YtblaibigjhlblaaDoor.Th

def sp0 : List UInt8 → List (List UInt8)
  | [] => [[]]
  | c :: r => if c = 32 then [] :: sp0 r else match sp0 r with
    | [] => [[c]]
    | p :: ps => (c :: p) :: ps
theorem sp0_miss : ∀ p : List UInt8, (∀ x ∈ p, x ≠ 32) → sp0 p = [p]
  | [], _ => rfl
  | c :: r, h => by
    rw [sp0, if_neg (h c (by simp)), sp0_miss r (fun x hx => h x (List.mem_cons_of_mem _ hx))]
theorem sp0_hit : ∀ (p r : List UInt8), (∀ x ∈ p, x ≠ 32) → sp0 (p ++ 32 :: r) = p :: sp0 r
  | [], r, _ => by rw [List.nil_append, sp0, if_pos rfl]
  | c :: p, r, h => by
    rw [List.cons_append, sp0, if_neg (h c (by simp)), sp0_hit p r (fun x hx => h x (List.mem_cons_of_mem _ hx))]
theorem splitK_sp0 : ∀ L : List UInt8, Lib.splitK [32] 0 (Lib.count L [32]) L = sp0 L
  | [] => by
    rw [Lib.count_miss (by decide)]
    rfl
  | c :: r => by
    have ih := splitK_sp0 r
    by_cases hc : c = 32
    · subst hc
      rw [Lib.count_cons_eq, Nat.add_comm, sp0, if_pos rfl, ← ih]
      have hix : Lib.index (32 :: r) [32] = 0 := by rw [Lib.index]; simp [List.isPrefixOf]
      rw [Lib.splitK, hix, if_neg (by decide)]
      rfl
    · rw [Lib.count_cons_ne c 32 r hc, sp0, if_neg hc, ← ih]
      generalize hk : Lib.count r [32] = k
      cases k with
      | zero => rfl
      | succ k =>
        obtain ⟨j, hj⟩ := Lib.index_of_count (s := r) (old := [32]) (by omega)
        have hp : ([32] : List UInt8).isPrefixOf (c :: r) = false := by simp [List.isPrefixOf, Ne.symm hc]
        have hix : Lib.index (c :: r) [32] = ((j + 1 : Nat) : Int) := by
          rw [Lib.index, hp, hj, if_neg (by decide), if_neg (by rw [beq_iff_eq]; omega)]
          omega
        rw [Lib.splitK, Lib.splitK, hix, hj, if_neg (by rw [beq_iff_eq]; omega), if_neg (by rw [beq_iff_eq]; omega)]
        have e1 : (((j + 1 : Nat) : Int)).toNat = j + 1 := by omega
        have e2 : ((j : Nat) : Int).toNat = j := by omega
        rw [e1, e2]
        simp [List.take_succ_cons]
end Go.Proofs.YtblaibigjhlblaaDoor.Th
end

section
/- layer 2: a text parsed, by the program and by the document: the same -/
set_option linter.unusedVariables false
set_option linter.unusedSimpArgs false
namespace Go.Proofs.YtblaibigjhlblaaDoor.Th
open Go.RowKit Go.Proofs.YtblaibigjhlblaaDoorW.PrintWords Go.Proofs.YtblaibigjhlblaaDoorW.Hb Go.Proofs.YtblaibigjhlblaaDoor.Q

def toB (l : List UInt8) : ByteArray := ⟨l.toArray⟩
theorem toB_data (s : ByteArray) : toB s.data.toList = s := by cases s; simp [toB]
open Classical in
noncomputable def parseR : List ByteArray → List S37 → List S37 × Int
  | [], acc => (acc, 0)
  | p :: ps, acc => if (refW p).2.2.2 = true then parseR ps (acc ++ [⟨(refW p).1, (refW p).2.1, (refW p).2.2.1⟩]) else ([], 21)
theorem spB_eq (s : ByteArray) : spB s = (sp0 s.data.toList).map toB := by
  have h := Lib.splitB_data ⟨#[32]⟩ 0 (Lib.countB s ⟨#[32]⟩) s
  have h2 : (spB s).map (·.data.toList) = sp0 s.data.toList := by
    refine h.trans ?_
    exact splitK_sp0 s.data.toList
  rw [← h2, List.map_map]
  conv => lhs; rw [← List.map_id (spB s)]
  refine List.map_congr_left (fun x _ => ?_)
  exact (toB_data x).symm
theorem sp0_len : ∀ L : List UInt8, ∀ p ∈ sp0 L, p.length ≤ L.length
  | [], p, hp => by
    rw [sp0, List.mem_singleton] at hp
    simp [hp]
  | c :: r, p, hp => by
    have ih := sp0_len r
    rw [sp0] at hp
    split at hp
    · rcases List.mem_cons.1 hp with rfl | hp
      · simp
      · have := ih p hp
        simp only [List.length_cons]
        omega
    · generalize hs : sp0 r = q at hp ih
      cases q with
      | nil =>
        rw [List.mem_singleton] at hp
        simp [hp]
      | cons a bs =>
        rcases List.mem_cons.1 hp with rfl | hp
        · have := ih a (by simp)
          simp only [List.length_cons]
          omega
        · have := ih p (by simp [hp])
          simp only [List.length_cons]
          omega
theorem parse_same : ∀ (P : List ByteArray) (acc : List S37), (∀ p ∈ P, p.size ≤ 281474976710656) → parseL P acc = some (parseR P acc)
  | [], acc, _ => rfl
  | p :: ps, acc, h => by
    obtain ⟨a, b, c, ok, e1, e2, e3⟩ := word_same p (h p (by simp))
    rw [parseL, parseR, e1, Option.bind_some, e2]
    dsimp only
    cases ok with
    | false => rw [if_neg (by decide), if_neg (by decide)]
    | true =>
      rw [if_pos rfl, if_pos rfl, e3 rfl]
      exact parse_same ps _ (fun x hx => h x (List.mem_cons_of_mem _ hx))
theorem ext_toB (s : ByteArray) (a b : Nat) : s.extract a b = toB ((s.data.toList.drop a).take (b - a)) := by
  rw [← Lib.extract_data s a b, toB_data]
theorem parse_loop (s : ByteArray) (hs : s.data.toList.length ≤ 1048576) (h0 : 0 < s.data.toList.length) : ∀ (d i fr : Nat) (acc : List S37), i + d = s.data.toList.length → fr ≤ i → acc.length ≤ fr → (∀ x ∈ (s.data.toList.drop fr).take (i - fr), x ≠ 32) →
    Ev (fun k => weighhouseref02_Parse.l0 k s acc (fr : Int) (i : Int)) (parseR ((sp0 (s.data.toList.drop fr)).map toB) acc) := by
  have sz := Lib.size_eq s
  have wd : ∀ (fr i : Nat), Ev (fun k => weighhouseref02_Word.f k (s.extract fr i)) (refW (toB ((s.data.toList.drop fr).take (i - fr)))) := by
    intro fr i
    rw [← ext_toB]
    exact refW_ev _ (by rw [Lib.extract_data, List.length_take, List.length_drop]; omega)
  intro d
  induction d with
  | zero =>
    intro i fr acc hi hf ha hn
    have hil : i = s.data.toList.length := by omega
    have htk : (s.data.toList.drop fr).take (i - fr) = s.data.toList.drop fr := List.take_of_length_le (by rw [List.length_drop]; omega)
    rw [htk] at hn
    rw [sp0_miss _ hn, List.map_cons, List.map_nil, parseR]
    have w := wd fr i
    rw [htk] at w
    refine Ev.step (f := fun k => weighhouseref02_Parse.j1 k s acc (fr : Int) (i : Int) true) (fun k => ?_) (Ev.step (f := fun k => weighhouseref02_Parse.j2 k s acc (fr : Int) (i : Int) false) (fun k => ?_) (Ev.step (f := fun k => (weighhouseref02_Word.f k (s.extract fr i)).bind fun t => if t.2.2.2 = true then weighhouseref02_Parse.l0 k s (acc ++ [⟨t.1, t.2.1, t.2.2.1⟩]) ((i + 1 : Nat) : Int) ((i + 1 : Nat) : Int) else some ([], 21)) (fun k => ?_) (Ev.bind w ?_)))
    · simp only [weighhouseref02_Parse.l0]
      rw [if_pos (by omega), decide_eq_true (by omega)]
    · simp only [weighhouseref02_Parse.j1]
      rw [if_pos True.intro, if_neg (by omega)]
    · simp only [weighhouseref02_Parse.j2]
      rw [if_neg (by simp), if_pos (by omega), if_pos (by omega), if_pos (by omega), w64 (by omega) (by omega)]
      simp only [if_pos (show acc.length < 4398046511104 by omega)]
      rfl
    · by_cases hw : (refW (toB (s.data.toList.drop fr))).2.2.2 = true
      · rw [if_pos hw, parseR]
        refine Ev.congr (fun k => if_pos hw) ?_
        refine Ev.step (f := fun k => weighhouseref02_Parse.j1 k s (acc ++ [⟨(refW (toB (s.data.toList.drop fr))).1, (refW (toB (s.data.toList.drop fr))).2.1, (refW (toB (s.data.toList.drop fr))).2.2.1⟩]) ((i + 1 : Nat) : Int) ((i + 1 : Nat) : Int) false) (fun k => ?_) (Ev.step (f := fun _ => some _) (fun k => ?_) (Ev.now _))
        · simp only [weighhouseref02_Parse.l0]
          rw [if_neg (by omega)]
        · simp only [weighhouseref02_Parse.j1]
          rw [if_neg (by simp)]
      · rw [if_neg hw]
        exact Ev.congr (fun k => if_neg hw) (Ev.now _)
  | succ d ih =>
    intro i fr acc hi hf ha hn
    have hil : i < s.data.toList.length := by omega
    have hb := bt_get s i hil
    have hd : s.data.toList.drop fr = (s.data.toList.drop fr).take (i - fr) ++ s.data.toList[i] :: s.data.toList.drop (i + 1) := by
      conv => lhs; rw [← List.take_append_drop (i - fr) (s.data.toList.drop fr)]
      rw [List.drop_drop, show fr + (i - fr) = i by omega, List.drop_eq_getElem_cons hil]
    by_cases h32 : s.data.toList[i] = 32
    · have hsp : sp0 (s.data.toList.drop fr) = (s.data.toList.drop fr).take (i - fr) :: sp0 (s.data.toList.drop (i + 1)) := by
        rw [h32] at hd
        conv => lhs; rw [hd]
        exact sp0_hit _ _ hn
      rw [hsp, List.map_cons, parseR]
      have w := wd fr i
      refine Ev.step (f := fun k => weighhouseref02_Parse.j1 k s acc (fr : Int) (i : Int) true) (fun k => ?_) (Ev.step (f := fun k => weighhouseref02_Parse.j2 k s acc (fr : Int) (i : Int) false) (fun k => ?_) (Ev.step (f := fun k => (weighhouseref02_Word.f k (s.extract fr i)).bind fun t => if t.2.2.2 = true then weighhouseref02_Parse.l0 k s (acc ++ [⟨t.1, t.2.1, t.2.2.1⟩]) ((i + 1 : Nat) : Int) ((i + 1 : Nat) : Int) else some ([], 21)) (fun k => ?_) (Ev.bind w ?_)))
      · simp only [weighhouseref02_Parse.l0]
        rw [if_pos (by omega), decide_eq_true (by omega)]
      · simp only [weighhouseref02_Parse.j1]
        rw [if_pos True.intro, if_pos (by omega), if_pos (by omega), hb, h32]
        rfl
      · simp only [weighhouseref02_Parse.j2]
        rw [if_neg (by simp), if_pos (by omega), if_pos (by omega), if_pos (by omega), w64 (by omega) (by omega)]
        simp only [if_pos (show acc.length < 4398046511104 by omega)]
        rfl
      · by_cases hw : (refW (toB ((s.data.toList.drop fr).take (i - fr)))).2.2.2 = true
        · rw [if_pos hw]
          exact Ev.congr (fun k => if_pos hw) (ih (i + 1) (i + 1) _ (by omega) (by omega) (by simp; omega) (by simp))
        · rw [if_neg hw]
          exact Ev.congr (fun k => if_neg hw) (Ev.now _)
    · have nx := ih (i + 1) fr acc (by omega) (by omega) ha (by
        intro x hx
        have e : (s.data.toList.drop fr).take (i + 1 - fr) = (s.data.toList.drop fr).take (i - fr) ++ [s.data.toList[i]] := by
          have hj : i - fr < (s.data.toList.drop fr).length := by rw [List.length_drop]; omega
          rw [show i + 1 - fr = (i - fr) + 1 by omega, List.take_succ_eq_append_getElem hj]
          congr 2
          rw [List.getElem_drop]
          congr 1
          omega
        rw [e] at hx
        rcases List.mem_append.1 hx with hx | hx
        · exact hn x hx
        · rw [List.mem_singleton] at hx
          rw [hx]
          exact h32)
      have hne : (((s.data.toList[i].toNat : Nat) : Int) != 32) = true := by
        rw [bne_iff_ne]
        intro he
        apply h32
        apply UInt8.toNat_inj.1
        have : (32 : UInt8).toNat = 32 := rfl
        omega
      refine Ev.step (f := fun k => weighhouseref02_Parse.j1 k s acc (fr : Int) (i : Int) true) (fun k => ?_) (Ev.step (f := fun k => weighhouseref02_Parse.j2 k s acc (fr : Int) (i : Int) true) (fun k => ?_) (Ev.step (f := fun k => weighhouseref02_Parse.l0 k s acc (fr : Int) ((i + 1 : Nat) : Int)) (fun k => ?_) nx))
      · simp only [weighhouseref02_Parse.l0]
        rw [if_pos (by omega), decide_eq_true (by omega)]
      · simp only [weighhouseref02_Parse.j1]
        rw [if_pos True.intro, if_pos (by omega), if_pos (by omega), hb, hne]
      · simp only [weighhouseref02_Parse.j2]
        rw [if_pos True.intro, w64 (by omega) (by omega)]
        rfl
theorem parseR_len : ∀ (P : List ByteArray) (acc : List S37), (parseR P acc).1.length ≤ P.length + acc.length
  | [], acc => by simp [parseR]
  | p :: ps, acc => by
    rw [parseR]
    split
    · have := parseR_len ps (acc ++ [⟨(refW p).1, (refW p).2.1, (refW p).2.2.1⟩])
      simp only [List.length_append, List.length_singleton, List.length_cons, List.length_nil] at this ⊢
      omega
    · simp
/-- A text parsed: the same by both. -/
theorem parse_ev (s : ByteArray) (hs : s.data.toList.length ≤ 1048576) : ∃ r, value_Parse.f s = some r ∧ Ev (fun k => weighhouseref02_Parse.f k s) r ∧ r.1.length ≤ 1048577 := by
  have sz := Lib.size_eq s
  by_cases h0 : s.size = 0
  · refine ⟨([], 0), by unfold value_Parse.f; rw [if_pos h0], ?_, by simp⟩
    refine Ev.congr (f := fun k => weighhouseref02_Parse.l0 k s [] 0 0) (fun k => rfl) (Ev.step (f := fun k => weighhouseref02_Parse.j1 k s [] 0 0 false) (fun k => ?_) (Ev.step (f := fun _ => some ([], 0)) (fun k => ?_) (Ev.now _)))
    · simp only [weighhouseref02_Parse.l0]
      rw [if_pos (by omega), decide_eq_false (by omega)]
    · simp only [weighhouseref02_Parse.j1]
      rw [if_neg (by simp)]
  · have hcl : (spB s).length ≤ 1048577 := by
      have h1 : (spB s).length = Lib.countB s ⟨#[32]⟩ + 1 := Lib.splitB_all ⟨#[32]⟩ (by decide) 0 _ s rfl
      have h2 := Lib.countB_le ⟨#[32]⟩ (by decide) s.size s (Nat.le_refl _)
      omega
    refine ⟨parseR (spB s) [], ?_, ?_, by have := parseR_len (spB s) []; simp only [List.length_nil] at this; omega⟩
    · have h1 : (spB s).length = Lib.countB s ⟨#[32]⟩ + 1 := Lib.splitB_all ⟨#[32]⟩ (by decide) 0 _ s rfl
      have h2 := Lib.countB_le ⟨#[32]⟩ (by decide) s.size s (Nat.le_refl _)
      unfold value_Parse.f
      rw [if_neg h0, if_neg (by omega), if_pos ⟨h1, by omega⟩]
      refine parse_same _ _ (fun p hp => ?_)
      rw [spB_eq] at hp
      obtain ⟨l, hl, rfl⟩ := List.mem_map.1 hp
      have := sp0_len _ l hl
      rw [Lib.size_eq]
      show l.length ≤ _
      omega
    · have := parse_loop s hs (by omega) s.data.toList.length 0 0 [] (by omega) (by omega) (by simp) (by simp)
      rw [List.drop_zero, ← spB_eq] at this
      exact this
end Go.Proofs.YtblaibigjhlblaaDoor.Th
end

section
/- ValueTexts: the pure statement, proved: any values as text, any text as values -/
set_option linter.unusedVariables false
set_option linter.unusedSimpArgs false
namespace Go.Proofs.YtblaibigjhlblaaDoor.PuValueTexts
open Go.RowKit Go.Proofs.YtblaibigjhlblaaDoorW.PrintWords Go.Proofs.YtblaibigjhlblaaDoorW.Hb Go.Proofs.YtblaibigjhlblaaDoorW.Ho Go.Proofs.YtblaibigjhlblaaDoor.Q Go.Proofs.YtblaibigjhlblaaDoor.OpValueTexts Go.Proofs.YtblaibigjhlblaaDoor.Th

set_option maxRecDepth 100000 in
theorem knows_50 : weighhouselaw02_knows.f 50 = some true := by decide +kernel
theorem knows_ev : Ev (fun k => weighhouselaw02_knows.f k) true := Ev.of (fun k => weighhouselaw02_knows.mono k) knows_50
theorem own_ok (l : List S37) (h : l.length < 4398046511104) : weighhouselaw02_Own.f l = some l := by
  unfold weighhouselaw02_Own.f
  rw [Option.bind_some, if_pos (by simpa using h)]
  rfl
theorem same_ev (l : List S37) (hm : l.length ≤ 4398046511104) : Ev (fun k => weighhouselaw02_Same.f k l l) true := by
  have loop : ∀ d i : Nat, i + d = l.length → Ev (fun k => weighhouselaw02_Same.l0 k l l (i : Int)) true := by
    intro d
    induction d with
    | zero =>
      intro i hi
      refine Ev.step (f := fun _ => some true) (fun k => ?_) (Ev.now _)
      simp only [weighhouselaw02_Same.l0]
      rw [if_neg (by omega)]
    | succ d ih =>
      intro i hi
      refine Ev.step (f := fun k => weighhouselaw02_Same.l0 k l l ((i + 1 : Nat) : Int)) (fun k => ?_) (ih (i + 1) (by omega))
      simp only [weighhouselaw02_Same.l0]
      have h1 : (0 : Int) ≤ (i : Int) := by omega
      have h2 : (i : Int) < (l.length : Int) := by omega
      have h3 : wrap64 ((i : Int) + 1) = ((i + 1 : Nat) : Int) := by rw [w64 (by omega) (by omega)]; omega
      simp [h1, h2, h3]
  refine Ev.congr (f := fun k => weighhouselaw02_Same.l0 k l l 0) (fun k => ?_) (loop l.length 0 (by omega))
  unfold weighhouselaw02_Same.f
  rw [if_pos rfl]
theorem wfI {x : Int} (h : (Lit.int .i64 x).wf = true) : -9223372036854775808 ≤ x ∧ x ≤ 9223372036854775807 := by
  simp only [Lit.wf, IntKind.min, IntKind.max, IntKind.signed, IntKind.bits, Bool.and_eq_true] at h
  have h1 := of_decide_eq_true h.1
  have h2 := of_decide_eq_true h.2
  simp at h1 h2
  omega
theorem sum_len (l : List S37) : l.length ≤ (l.map BK37).sum := by
  induction l with
  | nil => simp
  | cons a l ih =>
    have : 1 ≤ BK37 a := by unfold BK37; omega
    simp only [List.map_cons, List.sum_cons, List.length_cons]
    omega
theorem pure : Pure := by
  intro l s ⟨hl1, hl2, hq⟩ hs hk
  have hn : l.length ≤ 1048576 := by have := sum_len l; omega
  have hs1 : s.data.toList.length ≤ 1048576 := by rw [← Lib.size_eq]; omega
  have hw : ∀ y ∈ l, -9223372036854775808 ≤ y.f1 ∧ y.f1 ≤ 9223372036854775807 := by
    intro y hy
    exact wfI (hq y hy).2.1
  obtain ⟨r, p1, p2, p3⟩ := parse_ev s hs1
  obtain ⟨t, t1, t2⟩ := print_ev l hn hw
  refine Ev.rounds (Ev.congr (f := fun k => (weighhouseref02_Parse.f k s).bind fun b => (value_Print.f k l).bind fun t253 => (weighhouseref02_Print.f k l).bind fun t254 => if t253.toList = t254.toList then ((weighhouselaw02_Same.f k r.1 b.1).bind fun t255 => if t255 = true then ((weighhouselaw02_num.f r.2).bind fun t256 => if t256 = b.2 then ((weighhouselaw02_Same.f k l l).bind fun t257 => if t257 = true then ((weighhouselaw02_knows.f k).bind fun t258 => some t258) else some false) else some false) else some false) else some false) (fun k => ?_) ?_)
  · unfold weighhouselaw02_ValueTexts.f
    rw [own_ok l (by omega), Option.bind_some, p1, Option.bind_some]
  · refine Ev.bind p2 (Ev.bind t1 (Ev.bind t2 (Ev.congr (fun k => if_pos rfl) (Ev.bind (same_ev r.1 (by omega)) (Ev.congr (fun k => if_pos rfl) ?_)))))
    refine Ev.bind (Ev.congr (fun k => by unfold weighhouselaw02_num.f; rfl) (Ev.now r.2)) (Ev.congr (fun k => if_pos rfl) ?_)
    exact Ev.bind (same_ev l (by omega)) (Ev.congr (fun k => if_pos rfl) (Ev.bind knows_ev (Ev.now _)))
end Go.Proofs.YtblaibigjhlblaaDoor.PuValueTexts
end
