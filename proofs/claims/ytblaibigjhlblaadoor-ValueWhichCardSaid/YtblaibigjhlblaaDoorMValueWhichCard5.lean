/- texts of one claim, merged: each in a section of its own -/
import Derived.Test.YtblaibigjhlblaaDoorMValueWhichCard3
import Derived.Test.YtblaibigjhlblaaDoorMValueWhichCard4
section
-- written by hprint.py (a program of these sessions) out of the translation; Lean checks it
namespace Go.Proofs.YtblaibigjhlblaaDoor.Q
open Go.RowKit Go.Proofs.YtblaibigjhlblaaDoorW.Hb Go.Proofs.YtblaibigjhlblaaDoorW.PrintWords Go.Proofs.YtblaibigjhlblaaDoorW.PrintLast Go.Proofs.YtblaibigjhlblaaDoorW.PrintMore
attribute [local go_sem] max2_int min2_int max_two min_two max_three min_three max_four min_four   -- for this text's walks alone
set_option linter.unusedVariables false
set_option linter.unusedSimpArgs false

/-! ### weighhouselaw02_ValueWhich: function 5 -/
def weighhouselaw02_ValueWhich.l0 : Nat → List (S37) → List Int → Int → ByteArray → List (S37) → Int → Option (Bool)
  | 0, _, _, _, _, _, _ => none
  | k + 1, x0, x1, x2, x3, x9, x10 => if x10 < (x0.length : Int) then (if 0 ≤ x10 then (if x10 < (x9.length : Int) then ((value_Right.f ((rd_T37 x9 x10).f0) ((rd_T37 x9 x10).f1) ((rd_T37 x9 x10).f2)).bind fun t300 => ((weighhouseref02_Right.f ((rd_T37 x0 x10).f0) ((rd_T37 x0 x10).f1) ((rd_T37 x0 x10).f2)).bind fun t302 => (if (t300 != t302) = true then (some false) else (weighhouselaw02_ValueWhich.l0 k x0 x1 x2 x3 x9 (wrap64 (x10 + 1)))))) else (none)) else (none)) else ((value_Number.f x2).bind fun bt303 => ((value_Text.f x3).bind fun bt306 => ((value_Truth.f (decide (x2 > 0))).bind fun bt309 => ((value_Zero.f x2).bind fun bt312 => ((weighhouseref02_Truth.f (decide (x2 > 0))).bind fun bt318 => ((weighhouseref02_Zero.f x2).bind fun bt321 => ((weighhouselaw02_Same.f k (([(⟨bt303.1, bt303.2.1, bt303.2.2⟩ : S37), (⟨bt306.1, bt306.2.1, bt306.2.2⟩ : S37), (⟨bt309.1, bt309.2.1, bt309.2.2⟩ : S37), (⟨bt312.1, bt312.2.1, bt312.2.2⟩ : S37)] : List (S37))) (([(⟨1, x2, (⟨#[]⟩ : ByteArray)⟩ : S37), (⟨2, 0, x3⟩ : S37), (⟨bt318.1, bt318.2.1, bt318.2.2⟩ : S37), (⟨bt321.1, bt321.2.1, bt321.2.2⟩ : S37)] : List (S37)))).bind fun t327 => (if t327 = true then ((some (([] : List Int) : List Int)).bind fun y328 => (if y328.length + x1.length < 17592186044416 then ((value_Fits.f k x9 (y328 ++ x1)).bind fun t334 => ((weighhouseref02_Fits.f k x0 x1).bind fun t335 => (if (t334 == t335) = true then ((weighhouselaw02_Same.f k x9 x0).bind fun t336 => (if t336 = true then ((weighhouselaw02_knows.f k).bind fun t337 => (some t337)) else (some false))) else (some false)))) else (none))) else (some false)))))))))
def weighhouselaw02_ValueWhich.f (k : Nat) (l0 : List (S37)) (l1 : List Int) (a2 : Int) (a3 : ByteArray) : Option (Bool) := (weighhouselaw02_Own.f l0).bind fun t296 => (weighhouselaw02_ValueWhich.l0 k l0 l1 a2 a3 t296 0)
theorem weighhouselaw02_ValueWhich.mono_l : ∀ k, (∀ y0 y1 y2 y3 y4 y5, LeO (weighhouselaw02_ValueWhich.l0 k y0 y1 y2 y3 y4 y5) (weighhouselaw02_ValueWhich.l0 (k + 1) y0 y1 y2 y3 y4 y5))
  | 0 => fun _ _ _ _ _ _ r h => by simp [weighhouselaw02_ValueWhich.l0] at h
  | k + 1 => by
    have ih0 := weighhouselaw02_ValueWhich.mono_l k
    · intro y0 y1 y2 y3 y4 y5
      unfold weighhouselaw02_ValueWhich.l0
      repeat' first
      | (with_reducible exact ih0 _ _ _ _ _ _)
      | (with_reducible exact value_Fits.mono _ _ _)
      | (with_reducible exact weighhouselaw02_Same.mono _ _ _)
      | (with_reducible exact weighhouselaw02_knows.mono _)
      | (with_reducible exact weighhouseref02_Fits.mono _ _ _)
      | (with_reducible exact LeO.refl _)
      | (with_reducible exact LeO.none _)
      | (with_reducible refine LeO.ite ?_ ?_)
      | (with_reducible refine LeO.bind ?_ (fun _ => ?_))
      | exact ih0 _ _ _ _ _ _
      | exact value_Fits.mono _ _ _
      | exact weighhouselaw02_Same.mono _ _ _
      | exact weighhouselaw02_knows.mono _
      | exact weighhouseref02_Fits.mono _ _ _
      | exact LeO.none _
      | refine LeO.ite ?_ ?_
      | refine LeO.bind ?_ (fun _ => ?_)
theorem weighhouselaw02_ValueWhich.mono : ∀ a0 a1 a2 a3 k, LeO (weighhouselaw02_ValueWhich.f k a0 a1 a2 a3) (weighhouselaw02_ValueWhich.f (k + 1) a0 a1 a2 a3) := by
  intro a0 a1 a2 a3 k
  have ih0 := weighhouselaw02_ValueWhich.mono_l k
  unfold weighhouselaw02_ValueWhich.f
  repeat' first
      | (with_reducible exact ih0 _ _ _ _ _ _)
      | (with_reducible exact value_Fits.mono _ _ _)
      | (with_reducible exact weighhouselaw02_Same.mono _ _ _)
      | (with_reducible exact weighhouselaw02_knows.mono _)
      | (with_reducible exact weighhouseref02_Fits.mono _ _ _)
      | (with_reducible exact LeO.refl _)
      | (with_reducible exact LeO.none _)
      | (with_reducible refine LeO.ite ?_ ?_)
      | (with_reducible refine LeO.bind ?_ (fun _ => ?_))
      | exact ih0 _ _ _ _ _ _
      | exact value_Fits.mono _ _ _
      | exact weighhouselaw02_Same.mono _ _ _
      | exact weighhouselaw02_knows.mono _
      | exact weighhouseref02_Fits.mono _ _ _
      | exact LeO.none _
      | refine LeO.ite ?_ ?_
      | refine LeO.bind ?_ (fun _ => ?_)
def weighhouselaw02_ValueWhich.T5 : Bool × List (List Nat × List Nat) := (true, [([], []), ([], []), ([0, 1], [0, 1]), ([2], [2]), ([3], [3]), ([], []), ([], []), ([5, 6], [5, 6]), ([7], [7]), ([8, 4], [8]), ([4, 9], [4, 9])])
def weighhouselaw02_ValueWhich.B5 : List Nat := [0, 0, 3, 7, 15, 0, 0, 96, 224, 511, 1023]
theorem weighhouselaw02_ValueWhich.tab5 : rtab .any (opsOf Tryd.f5 5) = weighhouselaw02_ValueWhich.T5 := by kernel_rfl
theorem weighhouselaw02_ValueWhich.bits5 : waitsOk weighhouselaw02_ValueWhich.T5.2 weighhouselaw02_ValueWhich.B5 = true := by kernel_rfl
set_option maxHeartbeats 8000000 in
set_option maxRecDepth 100000 in
theorem weighhouselaw02_ValueWhich.calls (k : Nat) (A0 : Option Addr) (c0 : Nat) (l0 : List (S37)) (A1 : Option Addr) (c1 : Nat) (l1 : List Int) (a2 : Int) (a3 : ByteArray) (r : Bool) (w : World) (hr0 : Kd.C k37 w A0 l0.length l0) (hc0 : l0.length ≤ c0) (hr1 : Kd.C (Kd.int .i64) w A1 l1.length l1) (hc1 : l1.length ≤ c1) (h : weighhouselaw02_ValueWhich.f k l0 l1 a2 a3 = some r) (hV : VarsOk w) :
    Calls Tryd.prog 5 #[.slice A0 l0.length c0, .slice A1 l1.length c1, .int .i64 a2, .string a3] w fun e w' => e = .returned (.bool r) ∧ Below w.heap.size w w' := by
  have hu37 := Tryd.underlying37
  have HR0 := Aside0.mk hr0
  have HC0 := Aside0.mk hc0
  clear hr0 hc0
  have HR1 := Aside0.mk hr1
  have HC1 := Aside0.mk hc1
  clear hr1 hc1
  have HB := Aside0.mk (Below.refl w.heap.size w)
  have HV := Aside0.mk hV
  clear hV
  have H : ((weighhouselaw02_Own.f l0).bind fun t296 => (weighhouselaw02_ValueWhich.l0 k l0 l1 a2 a3 t296 0)) = some r := h
  clear h
  replace H := Option.bind_eq_some_iff.mp H
  obtain ⟨t296, A50, H⟩ := H
  replace H : (weighhouselaw02_ValueWhich.l0 k l0 l1 a2 a3 t296 0) = some r := H
  have A5 := Aside0.mk A50
  clear A50
  have H' := Aside0.mk H
  clear H
  go_enter Tryd.func5, Tryd.ntmps5
  go_wp2_with (first | ((with_reducible refine gate_callee (f := 7) rfl ?_); refine goesL_ (some 14) rfl rfl Tryd.func7 (by kernel_rfl) rfl #[.slice A0 l0.length c0] rfl (by (try simp only [List.map_toArray, List.map_cons, List.map_nil]); first | done | rfl | (simp only [List.length_drop, List.length_take]; rfl)) ?_; (with_reducible refine (weighhouselaw02_Own.calls _ _ l0 t296 _ ?side1 ?side2 A5.out).mono ?_); (case side1 => repeat (first | exact HR0.out | (with_reducible refine Kd.C_alloc ?_ _) | (with_reducible refine Kd.C_drewN ?_ _) | (with_reducible refine Kd.C_drew ?_))); (case side2 => exact HC0.out); rintro e w6 ⟨v297, rfl, ho0, hb⟩; refine ⟨_, rfl, ?_⟩; have n0_ := Aside0.mk (Kd.R_lower ho0 (below_size (by repeat (first | (with_reducible first | exact HB.out | apply below_alloc | apply pw_below_drewN | apply below_drew1) | exact HB.out)))); have n1_ := Aside0.mk (below_step (by repeat (first | (with_reducible first | exact HB.out | apply below_alloc | apply pw_below_drewN | apply below_drew1) | exact HB.out)) hb); clear HB; have HO298 := n0_; have HB := n1_; clear n0_ n1_; (try clear hb); (try clear hb2); (try clear hk); (try clear hi); (try clear ho0)))
  go_loopg [10] k (fun kq v10 w' => ∃ (x10_1 : Int), v10 = .int .i64 x10_1 ∧ Aside0 (weighhouselaw02_ValueWhich.l0 kq l0 l1 a2 a3 t296 x10_1 = some r) ∧ Aside0 (kq ≤ k) ∧ Aside0 (Kd.R k37 37 w' w.heap.size (fun _ => True) v297 t296) ∧ Aside0 (Below w.heap.size w w'))
  case atStart => exact ⟨(0), (by first | rfl | (simp; done) | (simp [*]; done)), H', ⟨Nat.le_refl _⟩, ⟨by (with_reducible repeat (first | apply Kd.R_alloc | apply Kd.R_drewN | apply Kd.R_drew)); exact HO298.out⟩, ⟨by repeat (first | (with_reducible first | exact HB.out | apply below_alloc | apply pw_below_drewN | apply below_drew1) | exact HB.out)⟩⟩
  case round =>
    clear H'
    try clear c1
    try clear p2
    try clear c5
    obtain ⟨x10_1, rfl, HA, HK1, HO_9, HB⟩ := hrel
    cases gk with
    | zero => exact absurd HA.out (by simp [weighhouselaw02_ValueWhich.l0])
    | succ k1 =>
      have H := HA.out
      clear HA
      simp only [weighhouselaw02_ValueWhich.l0] at H
      by_cases c7 : x10_1 < (l0.length : Int)
      · rw [if_pos c7] at H
        have c7b0 : decide (x10_1 < (l0.length : Int)) = true := decide_eq_true c7
        clear c7
        by_cases c8 : 0 ≤ x10_1
        · rw [if_pos c8] at H
          have c8b0 : decide (0 ≤ x10_1) = true := decide_eq_true c8
          clear c8
          by_cases c9 : x10_1 < (t296.length : Int)
          · rw [if_pos c9] at H
            have c9b0 : decide (x10_1 < (t296.length : Int)) = true := decide_eq_true c9
            clear c9
            replace H := Option.bind_eq_some_iff.mp H
            obtain ⟨t300, A100, H⟩ := H
            replace H : ((weighhouseref02_Right.f ((rd_T37 l0 x10_1).f0) ((rd_T37 l0 x10_1).f1) ((rd_T37 l0 x10_1).f2)).bind fun t302 => (if (t300 != t302) = true then (some false) else (weighhouselaw02_ValueWhich.l0 k1 l0 l1 a2 a3 t296 (wrap64 (x10_1 + 1))))) = some r := H
            have A10 := Aside0.mk A100
            clear A100
            replace H := Option.bind_eq_some_iff.mp H
            obtain ⟨t302, A110, H⟩ := H
            replace H : (if (t300 != t302) = true then (some false) else (weighhouselaw02_ValueWhich.l0 k1 l0 l1 a2 a3 t296 (wrap64 (x10_1 + 1)))) = some r := H
            have A11 := Aside0.mk A110
            clear A110
            by_cases c12 : (t300 != t302) = true
            · rw [if_pos c12] at H
              have c12b0 : (t300 != t302) = true := c12
              (try (have c12b1 : decide (t300 = t302) = false := by simpa using c12))
              (try (have c12b2 : (t300 == t302) = false := by simpa using c12))
              (try (have c12b3 : ¬ (t300 = t302) := by simpa using c12))
              clear c12
              obtain rfl := Option.some.inj H
              try go_wp2
              have n0_ := Aside0.mk (Kd.R_drew HO_9.out)
              have n1_ := Aside0.mk (below_drew1 HB.out)
              clear HO_9
              clear HB
              have HO_9 := n0_
              have HB := n1_
              clear n0_ n1_
              obtain ⟨Ao14, co14, eo14⟩ := Kd.R_slice HO_9.out
              (first | subst eo14 | (injection eo14 with f1_ f2_ f3_; have f4_ := f1_.symm; have f5_ := f3_.symm; clear f1_ f2_ f3_; subst f4_; subst f5_))
              have p299 : 0 ≤ (x10_1 : Int) := of_decide_eq_true (by first | (with_reducible assumption) | assumption)
              have q299 : x10_1 < (t296.length : Int) := of_decide_eq_true (by first | (with_reducible assumption) | assumption)
              obtain ⟨ad299, e299, hx299_0, hx299_1, hx299_2⟩ := at_T37 (Kd.R_reads' HO_9.out).2.2 x10_1 p299 q299
              cases e299
              replace p299 := eq_true p299
              replace q299 := eq_true q299
              have p301 : 0 ≤ (x10_1 : Int) := of_decide_eq_true (by first | (with_reducible assumption) | assumption)
              have q301 : x10_1 < (l0.length : Int) := of_decide_eq_true (by first | (with_reducible assumption) | assumption)
              obtain ⟨ad301, e301, hx301_0, hx301_1, hx301_2⟩ := at_T37 HR0.out x10_1 p301 q301
              have hw301_2 := hx301_2
              have hw301_1 := hx301_1
              have hw301_0 := hx301_0
              cases e301
              replace hx301_0 := (HB.out.cell (World.block_lt_of_cell? w _ hx301_0)).trans hx301_0
              replace hx301_1 := (HB.out.cell (World.block_lt_of_cell? w _ hx301_1)).trans hx301_1
              replace hx301_2 := (HB.out.cell (World.block_lt_of_cell? w _ hx301_2)).trans hx301_2
              replace p301 := eq_true p301
              replace q301 := eq_true q301
              refine start_ (n := 11) (S := fun w' => w'.cell? (ad299.add ((x10_1).toNat * 3)) = some (.int .i64 ((rd_T37 t296 x10_1).f0)) ∧ w'.cell? ⟨(ad299.add ((x10_1).toNat * 3)).block, (ad299.add ((x10_1).toNat * 3)).off + 1, none⟩ = some (.int .i64 ((rd_T37 t296 x10_1).f1)) ∧ w'.cell? ⟨(ad299.add ((x10_1).toNat * 3)).block, (ad299.add ((x10_1).toNat * 3)).off + 2, none⟩ = some (.string ((rd_T37 t296 x10_1).f2)) ∧ w'.cell? (ad301.add ((x10_1).toNat * 3)) = some (.int .i64 ((rd_T37 l0 x10_1).f0)) ∧ w'.cell? ⟨(ad301.add ((x10_1).toNat * 3)).block, (ad301.add ((x10_1).toNat * 3)).off + 1, none⟩ = some (.int .i64 ((rd_T37 l0 x10_1).f1)) ∧ w'.cell? ⟨(ad301.add ((x10_1).toNat * 3)).block, (ad301.add ((x10_1).toNat * 3)).off + 2, none⟩ = some (.string ((rd_T37 l0 x10_1).f2))) (ds := []) #[false, false, false, false, false, false, false, false, false, false, false] (by kernel_rfl) rfl rfl ⟨hx299_0, hx299_1, hx299_2, ((HB.out.cell (World.block_lt_of_cell? w _ hw301_0)).trans hw301_0), ((HB.out.cell (World.block_lt_of_cell? w _ hw301_1)).trans hw301_1), ((HB.out.cell (World.block_lt_of_cell? w _ hw301_2)).trans hw301_2)⟩ (fun hHeld => ?_); refine with_tabW weighhouselaw02_ValueWhich.tab5 weighhouselaw02_ValueWhich.bits5 (fun HT_ HW_ => ?_)
              generalize wr.drew = w13 at HO_9 HB hx299_0 hx299_1 hx299_2 hx301_0 hx301_1 hx301_2 hHeld ⊢
              refine pure_ (i := 0) (N := some 21) (v := ?_) (a' := ?_) #[true, false, false, false, false, false, false, false, false, false, false] rfl rfl (any_of HT_.out (by kernel_rfl)) (fun _ _ _ h => h) (Or.inl ⟨by rfl, ?_⟩) ?_ ?_
              rotate_left
              · intro w'
                go_simp
                with_reducible rfl
              rotate_left
              · simp only [Act.put, List.setIfInBounds_toArray, List.set_cons_zero, List.set_cons_succ, i64_w, i32_w]
                rfl
              refine pure_ (i := 1) (N := some 22) (v := ?_) (a' := ?_) #[true, true, false, false, false, false, false, false, false, false, false] rfl rfl (any_of HT_.out (by kernel_rfl)) (fun _ _ _ h => h) (Or.inl ⟨by rfl, ?_⟩) ?_ ?_
              rotate_left
              · intro w'
                go_simp
                with_reducible rfl
              rotate_left
              · simp only [Act.put, List.setIfInBounds_toArray, List.set_cons_zero, List.set_cons_succ, i64_w, i32_w]
                rfl
              refine pure_ (i := 2) (N := some 23) (v := ?_) (a' := ?_) #[true, true, true, false, false, false, false, false, false, false, false] rfl rfl (any_of HT_.out (by kernel_rfl)) (fun _ _ _ h => h) (Or.inl ⟨by rfl, ?_⟩) ?_ ?_
              rotate_left
              · intro w'
                go_simp
                with_reducible rfl
              rotate_left
              · simp only [Act.put, List.setIfInBounds_toArray, List.set_cons_zero, List.set_cons_succ, i64_w, i32_w]
                rfl
              refine pure_ (i := 5) (N := some 26) (v := ?_) (a' := ?_) #[true, true, true, false, false, true, false, false, false, false, false] rfl rfl (any_of HT_.out (by kernel_rfl)) (fun _ _ _ h => h) (Or.inl ⟨by rfl, ?_⟩) ?_ ?_
              rotate_left
              · intro w'
                go_simp
                with_reducible rfl
              rotate_left
              · simp only [Act.put, List.setIfInBounds_toArray, List.set_cons_zero, List.set_cons_succ, i64_w, i32_w]
                rfl
              refine pure_ (i := 6) (N := some 27) (v := ?_) (a' := ?_) #[true, true, true, false, false, true, true, false, false, false, false] rfl rfl (any_of HT_.out (by kernel_rfl)) (fun _ _ _ h => h) (Or.inl ⟨by rfl, ?_⟩) ?_ ?_
              rotate_left
              · intro w'
                go_simp
                with_reducible rfl
              rotate_left
              · simp only [Act.put, List.setIfInBounds_toArray, List.set_cons_zero, List.set_cons_succ, i64_w, i32_w]
                rfl
              refine pure_ (i := 7) (N := some 28) (v := ?_) (a' := ?_) #[true, true, true, false, false, true, true, true, false, false, false] rfl rfl (any_of HT_.out (by kernel_rfl)) (fun _ _ _ h => h) (Or.inl ⟨by rfl, ?_⟩) ?_ ?_
              rotate_left
              · intro w'
                go_simp
                with_reducible rfl
              rotate_left
              · simp only [Act.put, List.setIfInBounds_toArray, List.set_cons_zero, List.set_cons_succ, i64_w, i32_w]
                rfl
              refine take_ (i := 3) (N := some 24) (v := ?_) (a' := ?_) #[true, true, true, true, false, true, true, true, false, false, false] rfl rfl (take_ofW HT_.out HW_.out (by kernel_rfl)) (fun _ _ _ h => h) (Or.inl ⟨by rfl, ?_⟩) hHeld ?_ ?_
              rotate_left
              · rintro w' ⟨s0, s1, s2, s3, s4, s5⟩
                go_simp
                with_reducible rfl
              rotate_left
              · simp only [Act.put, List.setIfInBounds_toArray, List.set_cons_zero, List.set_cons_succ, i64_w, i32_w]
                rfl
              refine take_ (i := 8) (N := some 29) (v := ?_) (a' := ?_) #[true, true, true, true, false, true, true, true, true, false, false] rfl rfl (take_ofW HT_.out HW_.out (by kernel_rfl)) (fun _ _ _ h => h) (Or.inl ⟨by rfl, ?_⟩) hHeld ?_ ?_
              rotate_left
              · rintro w' ⟨s0, s1, s2, s3, s4, s5⟩
                go_simp
                with_reducible rfl
              rotate_left
              · simp only [Act.put, List.setIfInBounds_toArray, List.set_cons_zero, List.set_cons_succ, i64_w, i32_w]
                rfl
              refine one_ (i := 4) (N := some 25) #[true, true, true, true, true, true, true, true, true, false, false] rfl rfl (one_of HT_.out (by kernel_rfl)) (by decide) (fun K hK => ?_)
              refine goes_ Tryd.func15 (by kernel_rfl) rfl #[.agg #[.int .i64 ((rd_T37 t296 x10_1).f0), .int .i64 ((rd_T37 t296 x10_1).f1), .string ((rd_T37 t296 x10_1).f2)]] (by rfl) rfl rfl (by (try simp only [List.map_toArray, List.map_cons, List.map_nil]); first | done | rfl | (simp only [List.length_drop, List.length_take]; rfl)) ?_
              with_reducible refine (value_Right.calls ((rd_T37 t296 x10_1).f0) ((rd_T37 t296 x10_1).f1) ((rd_T37 t296 x10_1).f2) t300 _ A10.out).mono ?_
              rintro e w15 ⟨rfl, hb⟩
              have HS0_ := (hb.cell (World.block_lt_of_cell? _ _ (hHeld.1))).trans (hHeld.1)
              have HS1_ := (hb.cell (World.block_lt_of_cell? _ _ (hHeld.2.1))).trans (hHeld.2.1)
              have HS2_ := (hb.cell (World.block_lt_of_cell? _ _ (hHeld.2.2.1))).trans (hHeld.2.2.1)
              refine ⟨_, rfl, ?_⟩
              have n0_ := Aside0.mk (Kd.R_below (by (with_reducible repeat (first | apply Kd.R_alloc | apply Kd.R_drewN | apply Kd.R_drew)); exact HO_9.out) hb)
              have n1_ := Aside0.mk (below_step (by repeat (first | (with_reducible first | exact HB.out | apply below_alloc | apply pw_below_drewN | apply below_drew1) | exact HB.out)) hb)
              clear HO_9
              clear HB
              have HO_9 := n0_
              have HB := n1_
              clear n0_ n1_
              (try clear hb)
              (try clear hb2)
              (try clear hk)
              (try clear hi)
              refine hK.out _ _ ⟨HS0_, HS1_, HS2_, ((HB.out.cell (World.block_lt_of_cell? w _ hw301_0)).trans hw301_0), ((HB.out.cell (World.block_lt_of_cell? w _ hw301_1)).trans hw301_1), ((HB.out.cell (World.block_lt_of_cell? w _ hw301_2)).trans hw301_2)⟩ (fun hHeld => ?_)
              clear hK K
              refine norm_ (a' := ?_) ?_ ?_
              rotate_left
              · show Act.put _ (some 25) _ = _
                simp only [Act.put, List.setIfInBounds_toArray, List.set_cons_zero, List.set_cons_succ, i64_w, i32_w]
                rfl
              refine one_ (i := 9) (N := some 30) #[true, true, true, true, true, true, true, true, true, true, false] rfl rfl (one_of HT_.out (by kernel_rfl)) (by decide) (fun K hK => ?_)
              refine goes_ Tryd.func17 (by kernel_rfl) rfl #[.agg #[.int .i64 ((rd_T37 l0 x10_1).f0), .int .i64 ((rd_T37 l0 x10_1).f1), .string ((rd_T37 l0 x10_1).f2)]] (by rfl) rfl rfl (by (try simp only [List.map_toArray, List.map_cons, List.map_nil]); first | done | rfl | (simp only [List.length_drop, List.length_take]; rfl)) ?_
              with_reducible refine (weighhouseref02_Right.calls ((rd_T37 l0 x10_1).f0) ((rd_T37 l0 x10_1).f1) ((rd_T37 l0 x10_1).f2) t302 _ A11.out).mono ?_
              rintro e w16 ⟨rfl, hb⟩
              have HS0_ := (hb.cell (World.block_lt_of_cell? _ _ (hHeld.1))).trans (hHeld.1)
              have HS1_ := (hb.cell (World.block_lt_of_cell? _ _ (hHeld.2.1))).trans (hHeld.2.1)
              have HS2_ := (hb.cell (World.block_lt_of_cell? _ _ (hHeld.2.2.1))).trans (hHeld.2.2.1)
              refine ⟨_, rfl, ?_⟩
              have n0_ := Aside0.mk (Kd.R_below (by (with_reducible repeat (first | apply Kd.R_alloc | apply Kd.R_drewN | apply Kd.R_drew)); exact HO_9.out) hb)
              have n1_ := Aside0.mk (below_step (by repeat (first | (with_reducible first | exact HB.out | apply below_alloc | apply pw_below_drewN | apply below_drew1) | exact HB.out)) hb)
              clear HO_9
              clear HB
              have HO_9 := n0_
              have HB := n1_
              clear n0_ n1_
              (try clear hb)
              (try clear hb2)
              (try clear hk)
              (try clear hi)
              refine hK.out _ _ ⟨HS0_, HS1_, HS2_, ((HB.out.cell (World.block_lt_of_cell? w _ hw301_0)).trans hw301_0), ((HB.out.cell (World.block_lt_of_cell? w _ hw301_1)).trans hw301_1), ((HB.out.cell (World.block_lt_of_cell? w _ hw301_2)).trans hw301_2)⟩ (fun hHeld => ?_)
              clear hK K
              refine norm_ (a' := ?_) ?_ ?_
              rotate_left
              · show Act.put _ (some 30) _ = _
                simp only [Act.put, List.setIfInBounds_toArray, List.set_cons_zero, List.set_cons_succ, i64_w, i32_w]
                rfl
              refine pure_ (i := 10) (N := some 31) (v := ?_) (a' := ?_) #[true, true, true, true, true, true, true, true, true, true, true] rfl rfl (any_of HT_.out (by kernel_rfl)) (fun _ _ _ h => h) (Or.inl ⟨by rfl, ?_⟩) ?_ ?_
              rotate_left
              · intro w'
                go_simp
                with_reducible rfl
              rotate_left
              · simp only [Act.put, List.setIfInBounds_toArray, List.set_cons_zero, List.set_cons_succ, i64_w, i32_w]
                rfl
              refine done_ (done_of HT_.out (by kernel_rfl)) ?_
              try go_wp2
              go_ret
              exact ⟨by first | rfl | (simp [errW_none, errW_some] <;> rfl) | (simp [*, errW_none, errW_some] <;> rfl), by repeat (first | (with_reducible first | exact HB.out | apply below_alloc | apply pw_below_drewN | apply below_drew1) | exact HB.out)⟩
            · rw [if_neg c12] at H
              have c12b0 : (t300 != t302) = false := by simpa using c12
              (try (have c12b1 : decide (t300 = t302) = true := by simpa using c12))
              (try (have c12b2 : (t300 == t302) = true := by simpa using c12))
              clear c12
              have H' := Aside0.mk H
              clear H
              try go_wp2
              have n0_ := Aside0.mk (Kd.R_drew HO_9.out)
              have n1_ := Aside0.mk (below_drew1 HB.out)
              clear HO_9
              clear HB
              have HO_9 := n0_
              have HB := n1_
              clear n0_ n1_
              obtain ⟨Ao18, co18, eo18⟩ := Kd.R_slice HO_9.out
              (first | subst eo18 | (injection eo18 with f1_ f2_ f3_; have f4_ := f1_.symm; have f5_ := f3_.symm; clear f1_ f2_ f3_; subst f4_; subst f5_))
              have p299 : 0 ≤ (x10_1 : Int) := of_decide_eq_true (by first | (with_reducible assumption) | assumption)
              have q299 : x10_1 < (t296.length : Int) := of_decide_eq_true (by first | (with_reducible assumption) | assumption)
              obtain ⟨ad299, e299, hx299_0, hx299_1, hx299_2⟩ := at_T37 (Kd.R_reads' HO_9.out).2.2 x10_1 p299 q299
              cases e299
              replace p299 := eq_true p299
              replace q299 := eq_true q299
              have p301 : 0 ≤ (x10_1 : Int) := of_decide_eq_true (by first | (with_reducible assumption) | assumption)
              have q301 : x10_1 < (l0.length : Int) := of_decide_eq_true (by first | (with_reducible assumption) | assumption)
              obtain ⟨ad301, e301, hx301_0, hx301_1, hx301_2⟩ := at_T37 HR0.out x10_1 p301 q301
              have hw301_2 := hx301_2
              have hw301_1 := hx301_1
              have hw301_0 := hx301_0
              cases e301
              replace hx301_0 := (HB.out.cell (World.block_lt_of_cell? w _ hx301_0)).trans hx301_0
              replace hx301_1 := (HB.out.cell (World.block_lt_of_cell? w _ hx301_1)).trans hx301_1
              replace hx301_2 := (HB.out.cell (World.block_lt_of_cell? w _ hx301_2)).trans hx301_2
              replace p301 := eq_true p301
              replace q301 := eq_true q301
              refine start_ (n := 11) (S := fun w' => w'.cell? (ad299.add ((x10_1).toNat * 3)) = some (.int .i64 ((rd_T37 t296 x10_1).f0)) ∧ w'.cell? ⟨(ad299.add ((x10_1).toNat * 3)).block, (ad299.add ((x10_1).toNat * 3)).off + 1, none⟩ = some (.int .i64 ((rd_T37 t296 x10_1).f1)) ∧ w'.cell? ⟨(ad299.add ((x10_1).toNat * 3)).block, (ad299.add ((x10_1).toNat * 3)).off + 2, none⟩ = some (.string ((rd_T37 t296 x10_1).f2)) ∧ w'.cell? (ad301.add ((x10_1).toNat * 3)) = some (.int .i64 ((rd_T37 l0 x10_1).f0)) ∧ w'.cell? ⟨(ad301.add ((x10_1).toNat * 3)).block, (ad301.add ((x10_1).toNat * 3)).off + 1, none⟩ = some (.int .i64 ((rd_T37 l0 x10_1).f1)) ∧ w'.cell? ⟨(ad301.add ((x10_1).toNat * 3)).block, (ad301.add ((x10_1).toNat * 3)).off + 2, none⟩ = some (.string ((rd_T37 l0 x10_1).f2))) (ds := []) #[false, false, false, false, false, false, false, false, false, false, false] (by kernel_rfl) rfl rfl ⟨hx299_0, hx299_1, hx299_2, ((HB.out.cell (World.block_lt_of_cell? w _ hw301_0)).trans hw301_0), ((HB.out.cell (World.block_lt_of_cell? w _ hw301_1)).trans hw301_1), ((HB.out.cell (World.block_lt_of_cell? w _ hw301_2)).trans hw301_2)⟩ (fun hHeld => ?_); refine with_tabW weighhouselaw02_ValueWhich.tab5 weighhouselaw02_ValueWhich.bits5 (fun HT_ HW_ => ?_)
              generalize wr.drew = w17 at HO_9 HB hx299_0 hx299_1 hx299_2 hx301_0 hx301_1 hx301_2 hHeld ⊢
              refine pure_ (i := 0) (N := some 21) (v := ?_) (a' := ?_) #[true, false, false, false, false, false, false, false, false, false, false] rfl rfl (any_of HT_.out (by kernel_rfl)) (fun _ _ _ h => h) (Or.inl ⟨by rfl, ?_⟩) ?_ ?_
              rotate_left
              · intro w'
                go_simp
                with_reducible rfl
              rotate_left
              · simp only [Act.put, List.setIfInBounds_toArray, List.set_cons_zero, List.set_cons_succ, i64_w, i32_w]
                rfl
              refine pure_ (i := 1) (N := some 22) (v := ?_) (a' := ?_) #[true, true, false, false, false, false, false, false, false, false, false] rfl rfl (any_of HT_.out (by kernel_rfl)) (fun _ _ _ h => h) (Or.inl ⟨by rfl, ?_⟩) ?_ ?_
              rotate_left
              · intro w'
                go_simp
                with_reducible rfl
              rotate_left
              · simp only [Act.put, List.setIfInBounds_toArray, List.set_cons_zero, List.set_cons_succ, i64_w, i32_w]
                rfl
              refine pure_ (i := 2) (N := some 23) (v := ?_) (a' := ?_) #[true, true, true, false, false, false, false, false, false, false, false] rfl rfl (any_of HT_.out (by kernel_rfl)) (fun _ _ _ h => h) (Or.inl ⟨by rfl, ?_⟩) ?_ ?_
              rotate_left
              · intro w'
                go_simp
                with_reducible rfl
              rotate_left
              · simp only [Act.put, List.setIfInBounds_toArray, List.set_cons_zero, List.set_cons_succ, i64_w, i32_w]
                rfl
              refine pure_ (i := 5) (N := some 26) (v := ?_) (a' := ?_) #[true, true, true, false, false, true, false, false, false, false, false] rfl rfl (any_of HT_.out (by kernel_rfl)) (fun _ _ _ h => h) (Or.inl ⟨by rfl, ?_⟩) ?_ ?_
              rotate_left
              · intro w'
                go_simp
                with_reducible rfl
              rotate_left
              · simp only [Act.put, List.setIfInBounds_toArray, List.set_cons_zero, List.set_cons_succ, i64_w, i32_w]
                rfl
              refine pure_ (i := 6) (N := some 27) (v := ?_) (a' := ?_) #[true, true, true, false, false, true, true, false, false, false, false] rfl rfl (any_of HT_.out (by kernel_rfl)) (fun _ _ _ h => h) (Or.inl ⟨by rfl, ?_⟩) ?_ ?_
              rotate_left
              · intro w'
                go_simp
                with_reducible rfl
              rotate_left
              · simp only [Act.put, List.setIfInBounds_toArray, List.set_cons_zero, List.set_cons_succ, i64_w, i32_w]
                rfl
              refine pure_ (i := 7) (N := some 28) (v := ?_) (a' := ?_) #[true, true, true, false, false, true, true, true, false, false, false] rfl rfl (any_of HT_.out (by kernel_rfl)) (fun _ _ _ h => h) (Or.inl ⟨by rfl, ?_⟩) ?_ ?_
              rotate_left
              · intro w'
                go_simp
                with_reducible rfl
              rotate_left
              · simp only [Act.put, List.setIfInBounds_toArray, List.set_cons_zero, List.set_cons_succ, i64_w, i32_w]
                rfl
              refine take_ (i := 3) (N := some 24) (v := ?_) (a' := ?_) #[true, true, true, true, false, true, true, true, false, false, false] rfl rfl (take_ofW HT_.out HW_.out (by kernel_rfl)) (fun _ _ _ h => h) (Or.inl ⟨by rfl, ?_⟩) hHeld ?_ ?_
              rotate_left
              · rintro w' ⟨s0, s1, s2, s3, s4, s5⟩
                go_simp
                with_reducible rfl
              rotate_left
              · simp only [Act.put, List.setIfInBounds_toArray, List.set_cons_zero, List.set_cons_succ, i64_w, i32_w]
                rfl
              refine take_ (i := 8) (N := some 29) (v := ?_) (a' := ?_) #[true, true, true, true, false, true, true, true, true, false, false] rfl rfl (take_ofW HT_.out HW_.out (by kernel_rfl)) (fun _ _ _ h => h) (Or.inl ⟨by rfl, ?_⟩) hHeld ?_ ?_
              rotate_left
              · rintro w' ⟨s0, s1, s2, s3, s4, s5⟩
                go_simp
                with_reducible rfl
              rotate_left
              · simp only [Act.put, List.setIfInBounds_toArray, List.set_cons_zero, List.set_cons_succ, i64_w, i32_w]
                rfl
              refine one_ (i := 4) (N := some 25) #[true, true, true, true, true, true, true, true, true, false, false] rfl rfl (one_of HT_.out (by kernel_rfl)) (by decide) (fun K hK => ?_)
              refine goes_ Tryd.func15 (by kernel_rfl) rfl #[.agg #[.int .i64 ((rd_T37 t296 x10_1).f0), .int .i64 ((rd_T37 t296 x10_1).f1), .string ((rd_T37 t296 x10_1).f2)]] (by rfl) rfl rfl (by (try simp only [List.map_toArray, List.map_cons, List.map_nil]); first | done | rfl | (simp only [List.length_drop, List.length_take]; rfl)) ?_
              with_reducible refine (value_Right.calls ((rd_T37 t296 x10_1).f0) ((rd_T37 t296 x10_1).f1) ((rd_T37 t296 x10_1).f2) t300 _ A10.out).mono ?_
              rintro e w19 ⟨rfl, hb⟩
              have HS0_ := (hb.cell (World.block_lt_of_cell? _ _ (hHeld.1))).trans (hHeld.1)
              have HS1_ := (hb.cell (World.block_lt_of_cell? _ _ (hHeld.2.1))).trans (hHeld.2.1)
              have HS2_ := (hb.cell (World.block_lt_of_cell? _ _ (hHeld.2.2.1))).trans (hHeld.2.2.1)
              refine ⟨_, rfl, ?_⟩
              have n0_ := Aside0.mk (Kd.R_below (by (with_reducible repeat (first | apply Kd.R_alloc | apply Kd.R_drewN | apply Kd.R_drew)); exact HO_9.out) hb)
              have n1_ := Aside0.mk (below_step (by repeat (first | (with_reducible first | exact HB.out | apply below_alloc | apply pw_below_drewN | apply below_drew1) | exact HB.out)) hb)
              clear HO_9
              clear HB
              have HO_9 := n0_
              have HB := n1_
              clear n0_ n1_
              (try clear hb)
              (try clear hb2)
              (try clear hk)
              (try clear hi)
              refine hK.out _ _ ⟨HS0_, HS1_, HS2_, ((HB.out.cell (World.block_lt_of_cell? w _ hw301_0)).trans hw301_0), ((HB.out.cell (World.block_lt_of_cell? w _ hw301_1)).trans hw301_1), ((HB.out.cell (World.block_lt_of_cell? w _ hw301_2)).trans hw301_2)⟩ (fun hHeld => ?_)
              clear hK K
              refine norm_ (a' := ?_) ?_ ?_
              rotate_left
              · show Act.put _ (some 25) _ = _
                simp only [Act.put, List.setIfInBounds_toArray, List.set_cons_zero, List.set_cons_succ, i64_w, i32_w]
                rfl
              refine one_ (i := 9) (N := some 30) #[true, true, true, true, true, true, true, true, true, true, false] rfl rfl (one_of HT_.out (by kernel_rfl)) (by decide) (fun K hK => ?_)
              refine goes_ Tryd.func17 (by kernel_rfl) rfl #[.agg #[.int .i64 ((rd_T37 l0 x10_1).f0), .int .i64 ((rd_T37 l0 x10_1).f1), .string ((rd_T37 l0 x10_1).f2)]] (by rfl) rfl rfl (by (try simp only [List.map_toArray, List.map_cons, List.map_nil]); first | done | rfl | (simp only [List.length_drop, List.length_take]; rfl)) ?_
              with_reducible refine (weighhouseref02_Right.calls ((rd_T37 l0 x10_1).f0) ((rd_T37 l0 x10_1).f1) ((rd_T37 l0 x10_1).f2) t302 _ A11.out).mono ?_
              rintro e w20 ⟨rfl, hb⟩
              have HS0_ := (hb.cell (World.block_lt_of_cell? _ _ (hHeld.1))).trans (hHeld.1)
              have HS1_ := (hb.cell (World.block_lt_of_cell? _ _ (hHeld.2.1))).trans (hHeld.2.1)
              have HS2_ := (hb.cell (World.block_lt_of_cell? _ _ (hHeld.2.2.1))).trans (hHeld.2.2.1)
              refine ⟨_, rfl, ?_⟩
              have n0_ := Aside0.mk (Kd.R_below (by (with_reducible repeat (first | apply Kd.R_alloc | apply Kd.R_drewN | apply Kd.R_drew)); exact HO_9.out) hb)
              have n1_ := Aside0.mk (below_step (by repeat (first | (with_reducible first | exact HB.out | apply below_alloc | apply pw_below_drewN | apply below_drew1) | exact HB.out)) hb)
              clear HO_9
              clear HB
              have HO_9 := n0_
              have HB := n1_
              clear n0_ n1_
              (try clear hb)
              (try clear hb2)
              (try clear hk)
              (try clear hi)
              refine hK.out _ _ ⟨HS0_, HS1_, HS2_, ((HB.out.cell (World.block_lt_of_cell? w _ hw301_0)).trans hw301_0), ((HB.out.cell (World.block_lt_of_cell? w _ hw301_1)).trans hw301_1), ((HB.out.cell (World.block_lt_of_cell? w _ hw301_2)).trans hw301_2)⟩ (fun hHeld => ?_)
              clear hK K
              refine norm_ (a' := ?_) ?_ ?_
              rotate_left
              · show Act.put _ (some 30) _ = _
                simp only [Act.put, List.setIfInBounds_toArray, List.set_cons_zero, List.set_cons_succ, i64_w, i32_w]
                rfl
              refine pure_ (i := 10) (N := some 31) (v := ?_) (a' := ?_) #[true, true, true, true, true, true, true, true, true, true, true] rfl rfl (any_of HT_.out (by kernel_rfl)) (fun _ _ _ h => h) (Or.inl ⟨by rfl, ?_⟩) ?_ ?_
              rotate_left
              · intro w'
                go_simp
                with_reducible rfl
              rotate_left
              · simp only [Act.put, List.setIfInBounds_toArray, List.set_cons_zero, List.set_cons_succ, i64_w, i32_w]
                rfl
              refine done_ (done_of HT_.out (by kernel_rfl)) ?_
              try go_wp2
              go_roundg k1
              case measure => have := HK1.out; omega
              case rel => exact ⟨(wrap64 (x10_1 + 1)), (by first | rfl | (simp; done) | (simp [*]; done)), H', ⟨by have := HK1.out; omega⟩, ⟨by (with_reducible repeat (first | apply Kd.R_alloc | apply Kd.R_drewN | apply Kd.R_drew)); exact HO_9.out⟩, ⟨by repeat (first | (with_reducible first | exact HB.out | apply below_alloc | apply pw_below_drewN | apply below_drew1) | exact HB.out)⟩⟩
          · rw [if_neg c9] at H
            exact absurd H (by simp)
        · rw [if_neg c8] at H
          exact absurd H (by simp)
      · rw [if_neg c7] at H
        have c7b0 : decide (x10_1 < (l0.length : Int)) = false := decide_eq_false c7
        clear c7
        replace H := Option.bind_eq_some_iff.mp H
        obtain ⟨⟨t303, t304, t305⟩, A210, H⟩ := H
        replace H : ((value_Text.f a3).bind fun bt306 => ((value_Truth.f (decide (a2 > 0))).bind fun bt309 => ((value_Zero.f a2).bind fun bt312 => ((weighhouseref02_Truth.f (decide (a2 > 0))).bind fun bt318 => ((weighhouseref02_Zero.f a2).bind fun bt321 => ((weighhouselaw02_Same.f k1 (([(⟨t303, t304, t305⟩ : S37), (⟨bt306.1, bt306.2.1, bt306.2.2⟩ : S37), (⟨bt309.1, bt309.2.1, bt309.2.2⟩ : S37), (⟨bt312.1, bt312.2.1, bt312.2.2⟩ : S37)] : List (S37))) (([(⟨1, a2, (⟨#[]⟩ : ByteArray)⟩ : S37), (⟨2, 0, a3⟩ : S37), (⟨bt318.1, bt318.2.1, bt318.2.2⟩ : S37), (⟨bt321.1, bt321.2.1, bt321.2.2⟩ : S37)] : List (S37)))).bind fun t327 => (if t327 = true then ((some (([] : List Int) : List Int)).bind fun y328 => (if y328.length + l1.length < 17592186044416 then ((value_Fits.f k1 t296 (y328 ++ l1)).bind fun t334 => ((weighhouseref02_Fits.f k1 l0 l1).bind fun t335 => (if (t334 == t335) = true then ((weighhouselaw02_Same.f k1 t296 l0).bind fun t336 => (if t336 = true then ((weighhouselaw02_knows.f k1).bind fun t337 => (some t337)) else (some false))) else (some false)))) else (none))) else (some false)))))))) = some r := H
        have A21 := Aside0.mk A210
        clear A210
        replace H := Option.bind_eq_some_iff.mp H
        obtain ⟨⟨t306, t307, t308⟩, A220, H⟩ := H
        replace H : ((value_Truth.f (decide (a2 > 0))).bind fun bt309 => ((value_Zero.f a2).bind fun bt312 => ((weighhouseref02_Truth.f (decide (a2 > 0))).bind fun bt318 => ((weighhouseref02_Zero.f a2).bind fun bt321 => ((weighhouselaw02_Same.f k1 (([(⟨t303, t304, t305⟩ : S37), (⟨t306, t307, t308⟩ : S37), (⟨bt309.1, bt309.2.1, bt309.2.2⟩ : S37), (⟨bt312.1, bt312.2.1, bt312.2.2⟩ : S37)] : List (S37))) (([(⟨1, a2, (⟨#[]⟩ : ByteArray)⟩ : S37), (⟨2, 0, a3⟩ : S37), (⟨bt318.1, bt318.2.1, bt318.2.2⟩ : S37), (⟨bt321.1, bt321.2.1, bt321.2.2⟩ : S37)] : List (S37)))).bind fun t327 => (if t327 = true then ((some (([] : List Int) : List Int)).bind fun y328 => (if y328.length + l1.length < 17592186044416 then ((value_Fits.f k1 t296 (y328 ++ l1)).bind fun t334 => ((weighhouseref02_Fits.f k1 l0 l1).bind fun t335 => (if (t334 == t335) = true then ((weighhouselaw02_Same.f k1 t296 l0).bind fun t336 => (if t336 = true then ((weighhouselaw02_knows.f k1).bind fun t337 => (some t337)) else (some false))) else (some false)))) else (none))) else (some false))))))) = some r := H
        have A22 := Aside0.mk A220
        clear A220
        replace H := Option.bind_eq_some_iff.mp H
        obtain ⟨⟨t309, t310, t311⟩, A230, H⟩ := H
        replace H : ((value_Zero.f a2).bind fun bt312 => ((weighhouseref02_Truth.f (decide (a2 > 0))).bind fun bt318 => ((weighhouseref02_Zero.f a2).bind fun bt321 => ((weighhouselaw02_Same.f k1 (([(⟨t303, t304, t305⟩ : S37), (⟨t306, t307, t308⟩ : S37), (⟨t309, t310, t311⟩ : S37), (⟨bt312.1, bt312.2.1, bt312.2.2⟩ : S37)] : List (S37))) (([(⟨1, a2, (⟨#[]⟩ : ByteArray)⟩ : S37), (⟨2, 0, a3⟩ : S37), (⟨bt318.1, bt318.2.1, bt318.2.2⟩ : S37), (⟨bt321.1, bt321.2.1, bt321.2.2⟩ : S37)] : List (S37)))).bind fun t327 => (if t327 = true then ((some (([] : List Int) : List Int)).bind fun y328 => (if y328.length + l1.length < 17592186044416 then ((value_Fits.f k1 t296 (y328 ++ l1)).bind fun t334 => ((weighhouseref02_Fits.f k1 l0 l1).bind fun t335 => (if (t334 == t335) = true then ((weighhouselaw02_Same.f k1 t296 l0).bind fun t336 => (if t336 = true then ((weighhouselaw02_knows.f k1).bind fun t337 => (some t337)) else (some false))) else (some false)))) else (none))) else (some false)))))) = some r := H
        have A23 := Aside0.mk A230
        clear A230
        replace H := Option.bind_eq_some_iff.mp H
        obtain ⟨⟨t312, t313, t314⟩, A240, H⟩ := H
        replace H : ((weighhouseref02_Truth.f (decide (a2 > 0))).bind fun bt318 => ((weighhouseref02_Zero.f a2).bind fun bt321 => ((weighhouselaw02_Same.f k1 (([(⟨t303, t304, t305⟩ : S37), (⟨t306, t307, t308⟩ : S37), (⟨t309, t310, t311⟩ : S37), (⟨t312, t313, t314⟩ : S37)] : List (S37))) (([(⟨1, a2, (⟨#[]⟩ : ByteArray)⟩ : S37), (⟨2, 0, a3⟩ : S37), (⟨bt318.1, bt318.2.1, bt318.2.2⟩ : S37), (⟨bt321.1, bt321.2.1, bt321.2.2⟩ : S37)] : List (S37)))).bind fun t327 => (if t327 = true then ((some (([] : List Int) : List Int)).bind fun y328 => (if y328.length + l1.length < 17592186044416 then ((value_Fits.f k1 t296 (y328 ++ l1)).bind fun t334 => ((weighhouseref02_Fits.f k1 l0 l1).bind fun t335 => (if (t334 == t335) = true then ((weighhouselaw02_Same.f k1 t296 l0).bind fun t336 => (if t336 = true then ((weighhouselaw02_knows.f k1).bind fun t337 => (some t337)) else (some false))) else (some false)))) else (none))) else (some false))))) = some r := H
        have A24 := Aside0.mk A240
        clear A240
        obtain ⟨y315, hy315⟩ : ∃ y_ : List (S37), y_ = (([(⟨t303, t304, t305⟩ : S37), (⟨t306, t307, t308⟩ : S37), (⟨t309, t310, t311⟩ : S37), (⟨t312, t313, t314⟩ : S37)] : List (S37))) := ⟨_, rfl⟩
        replace H : ((weighhouseref02_Truth.f (decide (a2 > 0))).bind fun bt318 => ((weighhouseref02_Zero.f a2).bind fun bt321 => ((weighhouselaw02_Same.f k1 y315 (([(⟨1, a2, (⟨#[]⟩ : ByteArray)⟩ : S37), (⟨2, 0, a3⟩ : S37), (⟨bt318.1, bt318.2.1, bt318.2.2⟩ : S37), (⟨bt321.1, bt321.2.1, bt321.2.2⟩ : S37)] : List (S37)))).bind fun t327 => (if t327 = true then ((some (([] : List Int) : List Int)).bind fun y328 => (if y328.length + l1.length < 17592186044416 then ((value_Fits.f k1 t296 (y328 ++ l1)).bind fun t334 => ((weighhouseref02_Fits.f k1 l0 l1).bind fun t335 => (if (t334 == t335) = true then ((weighhouselaw02_Same.f k1 t296 l0).bind fun t336 => (if t336 = true then ((weighhouselaw02_knows.f k1).bind fun t337 => (some t337)) else (some false))) else (some false)))) else (none))) else (some false))))) = some r := by first | (rw [hy315]; with_reducible exact H) | (have H2_ := (Option.bind_some _ _).symm.trans H; rw [hy315]; with_reducible exact H2_) | (have H2_ := (Option.bind_some _ _).symm.trans H; with_reducible exact H2_) | with_reducible exact H | (rw [hy315]; exact H) | exact H
        have Ny315 := Aside0.mk hy315
        clear hy315
        replace H := Option.bind_eq_some_iff.mp H
        obtain ⟨⟨t318, t319, t320⟩, A250, H⟩ := H
        replace H : ((weighhouseref02_Zero.f a2).bind fun bt321 => ((weighhouselaw02_Same.f k1 y315 (([(⟨1, a2, (⟨#[]⟩ : ByteArray)⟩ : S37), (⟨2, 0, a3⟩ : S37), (⟨t318, t319, t320⟩ : S37), (⟨bt321.1, bt321.2.1, bt321.2.2⟩ : S37)] : List (S37)))).bind fun t327 => (if t327 = true then ((some (([] : List Int) : List Int)).bind fun y328 => (if y328.length + l1.length < 17592186044416 then ((value_Fits.f k1 t296 (y328 ++ l1)).bind fun t334 => ((weighhouseref02_Fits.f k1 l0 l1).bind fun t335 => (if (t334 == t335) = true then ((weighhouselaw02_Same.f k1 t296 l0).bind fun t336 => (if t336 = true then ((weighhouselaw02_knows.f k1).bind fun t337 => (some t337)) else (some false))) else (some false)))) else (none))) else (some false)))) = some r := H
        have A25 := Aside0.mk A250
        clear A250
        replace H := Option.bind_eq_some_iff.mp H
        obtain ⟨⟨t321, t322, t323⟩, A260, H⟩ := H
        replace H : ((weighhouselaw02_Same.f k1 y315 (([(⟨1, a2, (⟨#[]⟩ : ByteArray)⟩ : S37), (⟨2, 0, a3⟩ : S37), (⟨t318, t319, t320⟩ : S37), (⟨t321, t322, t323⟩ : S37)] : List (S37)))).bind fun t327 => (if t327 = true then ((some (([] : List Int) : List Int)).bind fun y328 => (if y328.length + l1.length < 17592186044416 then ((value_Fits.f k1 t296 (y328 ++ l1)).bind fun t334 => ((weighhouseref02_Fits.f k1 l0 l1).bind fun t335 => (if (t334 == t335) = true then ((weighhouselaw02_Same.f k1 t296 l0).bind fun t336 => (if t336 = true then ((weighhouselaw02_knows.f k1).bind fun t337 => (some t337)) else (some false))) else (some false)))) else (none))) else (some false))) = some r := H
        have A26 := Aside0.mk A260
        clear A260
        obtain ⟨y324, hy324⟩ : ∃ y_ : List (S37), y_ = (([(⟨1, a2, (⟨#[]⟩ : ByteArray)⟩ : S37), (⟨2, 0, a3⟩ : S37), (⟨t318, t319, t320⟩ : S37), (⟨t321, t322, t323⟩ : S37)] : List (S37))) := ⟨_, rfl⟩
        replace H : ((weighhouselaw02_Same.f k1 y315 y324).bind fun t327 => (if t327 = true then ((some (([] : List Int) : List Int)).bind fun y328 => (if y328.length + l1.length < 17592186044416 then ((value_Fits.f k1 t296 (y328 ++ l1)).bind fun t334 => ((weighhouseref02_Fits.f k1 l0 l1).bind fun t335 => (if (t334 == t335) = true then ((weighhouselaw02_Same.f k1 t296 l0).bind fun t336 => (if t336 = true then ((weighhouselaw02_knows.f k1).bind fun t337 => (some t337)) else (some false))) else (some false)))) else (none))) else (some false))) = some r := by first | (rw [hy324]; with_reducible exact H) | (have H2_ := (Option.bind_some _ _).symm.trans H; rw [hy324]; with_reducible exact H2_) | (have H2_ := (Option.bind_some _ _).symm.trans H; with_reducible exact H2_) | with_reducible exact H | (rw [hy324]; exact H) | exact H
        have Ny324 := Aside0.mk hy324
        clear hy324
        replace H := Option.bind_eq_some_iff.mp H
        obtain ⟨t327, A270, H⟩ := H
        replace H : (if t327 = true then ((some (([] : List Int) : List Int)).bind fun y328 => (if y328.length + l1.length < 17592186044416 then ((value_Fits.f k1 t296 (y328 ++ l1)).bind fun t334 => ((weighhouseref02_Fits.f k1 l0 l1).bind fun t335 => (if (t334 == t335) = true then ((weighhouselaw02_Same.f k1 t296 l0).bind fun t336 => (if t336 = true then ((weighhouselaw02_knows.f k1).bind fun t337 => (some t337)) else (some false))) else (some false)))) else (none))) else (some false)) = some r := H
        have A27 := Aside0.mk A270
        clear A270
        by_cases c28 : t327 = true
        · subst c28
          have H1 : ((some (([] : List Int) : List Int)).bind fun y328 => (if y328.length + l1.length < 17592186044416 then ((value_Fits.f k1 t296 (y328 ++ l1)).bind fun t334 => ((weighhouseref02_Fits.f k1 l0 l1).bind fun t335 => (if (t334 == t335) = true then ((weighhouselaw02_Same.f k1 t296 l0).bind fun t336 => (if t336 = true then ((weighhouselaw02_knows.f k1).bind fun t337 => (some t337)) else (some false))) else (some false)))) else (none))) = some r := by rw [if_pos rfl] at H; exact H
          clear H
          have H := H1
          clear H1
          obtain ⟨y328, hy328⟩ : ∃ y_ : List Int, y_ = (([] : List Int)) := ⟨_, rfl⟩
          replace H : (if y328.length + l1.length < 17592186044416 then ((value_Fits.f k1 t296 (y328 ++ l1)).bind fun t334 => ((weighhouseref02_Fits.f k1 l0 l1).bind fun t335 => (if (t334 == t335) = true then ((weighhouselaw02_Same.f k1 t296 l0).bind fun t336 => (if t336 = true then ((weighhouselaw02_knows.f k1).bind fun t337 => (some t337)) else (some false))) else (some false)))) else (none)) = some r := by first | (rw [hy328]; with_reducible exact H) | (have H2_ := (Option.bind_some _ _).symm.trans H; rw [hy328]; with_reducible exact H2_) | (have H2_ := (Option.bind_some _ _).symm.trans H; with_reducible exact H2_) | with_reducible exact H | (rw [hy328]; exact H) | exact H
          have Ny328 := Aside0.mk hy328
          clear hy328
          by_cases c29 : y328.length + l1.length < 17592186044416
          · rw [if_pos c29] at H
            have LMc29 := Aside0.mk c29
            clear c29
            obtain ⟨y331, hy331⟩ : ∃ y_ : List Int, y_ = (y328 ++ l1) := ⟨_, rfl⟩
            replace H : ((value_Fits.f k1 t296 y331).bind fun t334 => ((weighhouseref02_Fits.f k1 l0 l1).bind fun t335 => (if (t334 == t335) = true then ((weighhouselaw02_Same.f k1 t296 l0).bind fun t336 => (if t336 = true then ((weighhouselaw02_knows.f k1).bind fun t337 => (some t337)) else (some false))) else (some false)))) = some r := by first | (rw [hy331]; with_reducible exact H) | (have H2_ := (Option.bind_some _ _).symm.trans H; rw [hy331]; with_reducible exact H2_) | (have H2_ := (Option.bind_some _ _).symm.trans H; with_reducible exact H2_) | with_reducible exact H | (rw [hy331]; exact H) | exact H
            have Ny331 := Aside0.mk hy331
            clear hy331
            replace H := Option.bind_eq_some_iff.mp H
            obtain ⟨t334, A300, H⟩ := H
            replace H : ((weighhouseref02_Fits.f k1 l0 l1).bind fun t335 => (if (t334 == t335) = true then ((weighhouselaw02_Same.f k1 t296 l0).bind fun t336 => (if t336 = true then ((weighhouselaw02_knows.f k1).bind fun t337 => (some t337)) else (some false))) else (some false))) = some r := H
            have A30 := Aside0.mk A300
            clear A300
            replace H := Option.bind_eq_some_iff.mp H
            obtain ⟨t335, A310, H⟩ := H
            replace H : (if (t334 == t335) = true then ((weighhouselaw02_Same.f k1 t296 l0).bind fun t336 => (if t336 = true then ((weighhouselaw02_knows.f k1).bind fun t337 => (some t337)) else (some false))) else (some false)) = some r := H
            have A31 := Aside0.mk A310
            clear A310
            by_cases c32 : (t334 == t335) = true
            · rw [if_pos c32] at H
              have c32b0 : (t334 == t335) = true := c32
              (try (have c32b1 : decide (t334 = t335) = true := by simpa using c32))
              (try (have c32b2 : (t334 == t335) = true := by simpa using c32))
              clear c32
              replace H := Option.bind_eq_some_iff.mp H
              obtain ⟨t336, A330, H⟩ := H
              replace H : (if t336 = true then ((weighhouselaw02_knows.f k1).bind fun t337 => (some t337)) else (some false)) = some r := H
              have A33 := Aside0.mk A330
              clear A330
              by_cases c34 : t336 = true
              · subst c34
                have H1 : ((weighhouselaw02_knows.f k1).bind fun t337 => (some t337)) = some r := by rw [if_pos rfl] at H; exact H
                clear H
                have H := H1
                clear H1
                replace H := Option.bind_eq_some_iff.mp H
                obtain ⟨t337, A350, H⟩ := H
                replace H : (some t337) = some r := H
                have A35 := Aside0.mk A350
                clear A350
                obtain rfl := Option.some.inj H
                go_wp2_with (first | ((with_reducible refine gate_callee (f := 18) rfl ?_); refine goesL_ (some 33) rfl rfl Tryd.func18 (by kernel_rfl) rfl #[.int .i64 a2] rfl (by (try simp only [List.map_toArray, List.map_cons, List.map_nil]); first | done | rfl | (simp only [List.length_drop, List.length_take]; rfl)) ?_; (with_reducible refine (value_Number.calls a2 t303 t304 t305 _ A21.out).mono ?_); rintro e w36 ⟨rfl, hb⟩; refine ⟨_, rfl, ?_⟩; have n0_ := Aside0.mk (Kd.R_below (by (with_reducible repeat (first | apply Kd.R_alloc | apply Kd.R_drewN | apply Kd.R_drew)); exact HO_9.out) hb); have n1_ := Aside0.mk (below_step (by repeat (first | (with_reducible first | exact HB.out | apply below_alloc | apply pw_below_drewN | apply below_drew1) | exact HB.out)) hb); clear HO_9; clear HB; have HO_9 := n0_; have HB := n1_; clear n0_ n1_; (try clear hb); (try clear hb2); (try clear hk); (try clear hi)) | ((with_reducible refine gate_callee (f := 19) rfl ?_); refine goesL_ (some 35) rfl rfl Tryd.func19 (by kernel_rfl) rfl #[.string a3] rfl (by (try simp only [List.map_toArray, List.map_cons, List.map_nil]); first | done | rfl | (simp only [List.length_drop, List.length_take]; rfl)) ?_; (with_reducible refine (value_Text.calls a3 t306 t307 t308 _ A22.out).mono ?_); rintro e w37 ⟨rfl, hb⟩; refine ⟨_, rfl, ?_⟩; have n0_ := Aside0.mk (Kd.R_below (by (with_reducible repeat (first | apply Kd.R_alloc | apply Kd.R_drewN | apply Kd.R_drew)); exact HO_9.out) hb); have n1_ := Aside0.mk (below_step (by repeat (first | (with_reducible first | exact HB.out | apply below_alloc | apply pw_below_drewN | apply below_drew1) | exact HB.out)) hb); clear HO_9; clear HB; have HO_9 := n0_; have HB := n1_; clear n0_ n1_; (try clear hb); (try clear hb2); (try clear hk); (try clear hi)) | ((with_reducible refine gate_callee (f := 20) rfl ?_); refine goesL_ (some 38) rfl rfl Tryd.func20 (by kernel_rfl) rfl #[.bool (decide (a2 > 0))] rfl (by (try simp only [List.map_toArray, List.map_cons, List.map_nil]); first | done | rfl | (simp only [List.length_drop, List.length_take]; rfl)) ?_; (with_reducible refine (value_Truth.calls (decide (a2 > 0)) t309 t310 t311 _ A23.out).mono ?_); rintro e w38 ⟨rfl, hb⟩; refine ⟨_, rfl, ?_⟩; have n0_ := Aside0.mk (Kd.R_below (by (with_reducible repeat (first | apply Kd.R_alloc | apply Kd.R_drewN | apply Kd.R_drew)); exact HO_9.out) hb); have n1_ := Aside0.mk (below_step (by repeat (first | (with_reducible first | exact HB.out | apply below_alloc | apply pw_below_drewN | apply below_drew1) | exact HB.out)) hb); clear HO_9; clear HB; have HO_9 := n0_; have HB := n1_; clear n0_ n1_; (try clear hb); (try clear hb2); (try clear hk); (try clear hi)) | ((with_reducible refine gate_callee (f := 21) rfl ?_); refine goesL_ (some 40) rfl rfl Tryd.func21 (by kernel_rfl) rfl #[.int .i64 a2] rfl (by (try simp only [List.map_toArray, List.map_cons, List.map_nil]); first | done | rfl | (simp only [List.length_drop, List.length_take]; rfl)) ?_; (with_reducible refine (value_Zero.calls a2 t312 t313 t314 _ A24.out).mono ?_); rintro e w39 ⟨rfl, hb⟩; refine ⟨_, rfl, ?_⟩; have n0_ := Aside0.mk (Kd.R_below (by (with_reducible repeat (first | apply Kd.R_alloc | apply Kd.R_drewN | apply Kd.R_drew)); exact HO_9.out) hb); have n1_ := Aside0.mk (below_step (by repeat (first | (with_reducible first | exact HB.out | apply below_alloc | apply pw_below_drewN | apply below_drew1) | exact HB.out)) hb); clear HO_9; clear HB; have HO_9 := n0_; have HB := n1_; clear n0_ n1_; (try clear hb); (try clear hb2); (try clear hk); (try clear hi)) | ((with_reducible refine gate_dst (N := 41) rfl ?_); (try (refine gate_guard (by rfl) ?_; dsimp only)); refine Kd.R_lit k37 _ 37 ?hg (N := 41) ?hd (xs := ([(⟨t303, t304, t305⟩ : S37), (⟨t306, t307, t308⟩ : S37), (⟨t309, t310, t311⟩ : S37), (⟨t312, t313, t314⟩ : S37)] : List (S37))) (inner := [.int .i64 t303, .int .i64 t304, .string t305, .int .i64 t306, .int .i64 t307, .string t308, .int .i64 t309, .int .i64 t310, .string t311, .int .i64 t312, .int .i64 t313, .string t314]) (ok := fun _ => True) (okp := fun _ => True) ?hr ?hp (fun _ hk => hk) trivial (Below.refl _ _) (Nat.le_refl _) (by simp) ?_; (case hd => rfl); (case hg => rfl); (case hr => first | (go_simp; done) | (go_simp; rfl)); (case hp => exact (Reps.c3 (show Kd.M k37 _ _ _ (⟨t303, t304, t305⟩ : S37) [.int .i64 t303, .int .i64 t304, .string t305] from (k37_mkM _ _ _ (⟨t303, t304, t305⟩ : S37) )) (Reps.c3 (show Kd.M k37 _ _ _ (⟨t306, t307, t308⟩ : S37) [.int .i64 t306, .int .i64 t307, .string t308] from (k37_mkM _ _ _ (⟨t306, t307, t308⟩ : S37) )) (Reps.c3 (show Kd.M k37 _ _ _ (⟨t309, t310, t311⟩ : S37) [.int .i64 t309, .int .i64 t310, .string t311] from (k37_mkM _ _ _ (⟨t309, t310, t311⟩ : S37) )) (Reps.c3 (show Kd.M k37 _ _ _ (⟨t312, t313, t314⟩ : S37) [.int .i64 t312, .int .i64 t313, .string t314] from (k37_mkM _ _ _ (⟨t312, t313, t314⟩ : S37) )) (Reps.none _ _)))))); intro v316 w40 ho41 hb hg_ hnew_; clear hg_ hnew_; (first | rw [← Ny315.out] at ho41 | (simp only [Int.reduceToNat] at ho41; rw [← Ny315.out] at ho41)); have n0_ := Aside0.mk (Kd.R_elder' (by (with_reducible repeat (first | apply Kd.R_alloc | apply Kd.R_drewN | apply Kd.R_drew)); exact HO_9.out) (Kd.R_base ho41) hb); have n1_ := Aside0.mk (Kd.R_lower (Kd.R_new' ho41 (Kd.R_lt (by (with_reducible repeat (first | apply Kd.R_alloc | apply Kd.R_drewN | apply Kd.R_drew)); exact HO_9.out))) (below_size (by repeat (first | (with_reducible first | exact HB.out | apply below_alloc | apply pw_below_drewN | apply below_drew1) | exact HB.out)))); have n2_ := Aside0.mk (below_step (by repeat (first | (with_reducible first | exact HB.out | apply below_alloc | apply pw_below_drewN | apply below_drew1) | exact HB.out)) hb); clear HO_9; clear HB; have HO_9 := n0_; have HO317 := n1_; have HB := n2_; clear n0_ n1_ n2_; clear hb ho41) | ((with_reducible refine gate_callee (f := 22) rfl ?_); refine goesL_ (some 48) rfl rfl Tryd.func22 (by kernel_rfl) rfl #[.bool (decide (a2 > 0))] rfl (by (try simp only [List.map_toArray, List.map_cons, List.map_nil]); first | done | rfl | (simp only [List.length_drop, List.length_take]; rfl)) ?_; (with_reducible refine (weighhouseref02_Truth.calls (decide (a2 > 0)) t318 t319 t320 _ A25.out).mono ?_); rintro e w42 ⟨rfl, hb⟩; refine ⟨_, rfl, ?_⟩; have n0_ := Aside0.mk (Kd.R_below (by (with_reducible repeat (first | apply Kd.R_alloc | apply Kd.R_drewN | apply Kd.R_drew)); exact HO_9.out) hb); have n1_ := Aside0.mk (Kd.R_below (by (with_reducible repeat (first | apply Kd.R_alloc | apply Kd.R_drewN | apply Kd.R_drew)); exact HO317.out) hb); have n2_ := Aside0.mk (below_step (by repeat (first | (with_reducible first | exact HB.out | apply below_alloc | apply pw_below_drewN | apply below_drew1) | exact HB.out)) hb); clear HO_9; clear HO317; clear HB; have HO_9 := n0_; have HO317 := n1_; have HB := n2_; clear n0_ n1_ n2_; (try clear hb); (try clear hb2); (try clear hk); (try clear hi)) | ((with_reducible refine gate_callee (f := 23) rfl ?_); refine goesL_ (some 50) rfl rfl Tryd.func23 (by kernel_rfl) rfl #[.int .i64 a2] rfl (by (try simp only [List.map_toArray, List.map_cons, List.map_nil]); first | done | rfl | (simp only [List.length_drop, List.length_take]; rfl)) ?_; (with_reducible refine (weighhouseref02_Zero.calls a2 t321 t322 t323 _ A26.out).mono ?_); rintro e w43 ⟨rfl, hb⟩; refine ⟨_, rfl, ?_⟩; have n0_ := Aside0.mk (Kd.R_below (by (with_reducible repeat (first | apply Kd.R_alloc | apply Kd.R_drewN | apply Kd.R_drew)); exact HO_9.out) hb); have n1_ := Aside0.mk (Kd.R_below (by (with_reducible repeat (first | apply Kd.R_alloc | apply Kd.R_drewN | apply Kd.R_drew)); exact HO317.out) hb); have n2_ := Aside0.mk (below_step (by repeat (first | (with_reducible first | exact HB.out | apply below_alloc | apply pw_below_drewN | apply below_drew1) | exact HB.out)) hb); clear HO_9; clear HO317; clear HB; have HO_9 := n0_; have HO317 := n1_; have HB := n2_; clear n0_ n1_ n2_; (try clear hb); (try clear hb2); (try clear hk); (try clear hi)) | ((with_reducible refine gate_dst (N := 51) rfl ?_); (try (refine gate_guard (by rfl) ?_; dsimp only)); refine Kd.R_lit k37 _ 37 ?hg (N := 51) ?hd (xs := ([(⟨1, a2, (⟨#[]⟩ : ByteArray)⟩ : S37), (⟨2, 0, a3⟩ : S37), (⟨t318, t319, t320⟩ : S37), (⟨t321, t322, t323⟩ : S37)] : List (S37))) (inner := [.int .i64 1, .int .i64 a2, .string (⟨#[]⟩ : ByteArray), .int .i64 2, .int .i64 0, .string a3, .int .i64 t318, .int .i64 t319, .string t320, .int .i64 t321, .int .i64 t322, .string t323]) (ok := fun _ => True) (okp := fun _ => True) ?hr ?hp (fun _ hk => hk) trivial (Below.refl _ _) (Nat.le_refl _) (by simp) ?_; (case hd => rfl); (case hg => rfl); (case hr => first | (go_simp; done) | (go_simp; rfl)); (case hp => exact (Reps.c3 (show Kd.M k37 _ _ _ (⟨1, a2, (⟨#[]⟩ : ByteArray)⟩ : S37) [.int .i64 1, .int .i64 a2, .string (⟨#[]⟩ : ByteArray)] from (k37_mkM _ _ _ (⟨1, a2, (⟨#[]⟩ : ByteArray)⟩ : S37) )) (Reps.c3 (show Kd.M k37 _ _ _ (⟨2, 0, a3⟩ : S37) [.int .i64 2, .int .i64 0, .string a3] from (k37_mkM _ _ _ (⟨2, 0, a3⟩ : S37) )) (Reps.c3 (show Kd.M k37 _ _ _ (⟨t318, t319, t320⟩ : S37) [.int .i64 t318, .int .i64 t319, .string t320] from (k37_mkM _ _ _ (⟨t318, t319, t320⟩ : S37) )) (Reps.c3 (show Kd.M k37 _ _ _ (⟨t321, t322, t323⟩ : S37) [.int .i64 t321, .int .i64 t322, .string t323] from (k37_mkM _ _ _ (⟨t321, t322, t323⟩ : S37) )) (Reps.none _ _)))))); intro v325 w44 ho45 hb hg_ hnew_; clear hg_ hnew_; (first | rw [← Ny324.out] at ho45 | (simp only [Int.reduceToNat] at ho45; rw [← Ny324.out] at ho45)); have n0_ := Aside0.mk (Kd.R_elder' (by (with_reducible repeat (first | apply Kd.R_alloc | apply Kd.R_drewN | apply Kd.R_drew)); exact HO_9.out) (Kd.R_base ho45) hb); have n1_ := Aside0.mk (Kd.R_elder' (by (with_reducible repeat (first | apply Kd.R_alloc | apply Kd.R_drewN | apply Kd.R_drew)); exact HO317.out) (Kd.R_base ho45) hb); have n2_ := Aside0.mk (Kd.R_lower (Kd.R_new' (Kd.R_new' ho45 (Kd.R_lt (by (with_reducible repeat (first | apply Kd.R_alloc | apply Kd.R_drewN | apply Kd.R_drew)); exact HO_9.out))) (Kd.R_lt (by (with_reducible repeat (first | apply Kd.R_alloc | apply Kd.R_drewN | apply Kd.R_drew)); exact HO317.out))) (below_size (by repeat (first | (with_reducible first | exact HB.out | apply below_alloc | apply pw_below_drewN | apply below_drew1) | exact HB.out)))); have n3_ := Aside0.mk (below_step (by repeat (first | (with_reducible first | exact HB.out | apply below_alloc | apply pw_below_drewN | apply below_drew1) | exact HB.out)) hb); clear HO_9; clear HO317; clear HB; have HO_9 := n0_; have HO317 := n1_; have HO326 := n2_; have HB := n3_; clear n0_ n1_ n2_ n3_; clear hb ho45; obtain ⟨Ao46, co46, eo46⟩ := Kd.R_slice HO317.out; subst eo46; obtain ⟨Ao47, co47, eo47⟩ := Kd.R_slice HO326.out; subst eo47) | ((with_reducible refine gate_callee (f := 12) rfl ?_); refine goesL_ (some 54) rfl rfl Tryd.func12 (by kernel_rfl) rfl #[.slice Ao46 y315.length co46, .slice Ao47 y324.length co47] rfl (by (try simp only [List.map_toArray, List.map_cons, List.map_nil]); first | done | rfl | (simp only [List.length_drop, List.length_take]; rfl)) ?_; (with_reducible refine (weighhouselaw02_Same.calls k1 _ _ y315 _ _ y324 true _ ?side1 ?side2 ?side3 ?side4 A27.out).mono ?_); (case side1 => repeat (first | exact (Kd.R_reads' HO317.out).2.2 | (with_reducible refine Kd.C_alloc ?_ _) | (with_reducible refine Kd.C_drewN ?_ _) | (with_reducible refine Kd.C_drew ?_))); (case side2 => exact (Kd.R_reads' HO317.out).2.1); (case side3 => repeat (first | exact (Kd.R_reads' HO326.out).2.2 | (with_reducible refine Kd.C_alloc ?_ _) | (with_reducible refine Kd.C_drewN ?_ _) | (with_reducible refine Kd.C_drew ?_))); (case side4 => exact (Kd.R_reads' HO326.out).2.1); rintro e w' ⟨rfl, ⟨nd, rfl⟩⟩; refine ⟨_, rfl, ?_⟩) | ((with_reducible refine gate_dst (N := 57) rfl ?_); (try (refine gate_guard (by rfl) ?_; dsimp only)); refine Kd.R_lit (Kd.int .i64) _ 3 ?hg (N := 57) ?hd (xs := ([] : List Int)) (inner := []) (ok := fun _ => True) (okp := fun _ => True) ?hr ?hp (fun _ hk => hk) trivial (Below.refl _ _) (Nat.le_refl _) (by simp) ?_; (case hd => rfl); (case hg => rfl); (case hr => first | (go_simp; done) | (go_simp; rfl)); (case hp => exact (Reps.none _ _)); intro v329 w48 ho49 hb hg_ hnew_; clear hg_ hnew_; (first | rw [← Ny328.out] at ho49 | (simp only [Int.reduceToNat] at ho49; rw [← Ny328.out] at ho49)); have n0_ := Aside0.mk (Kd.R_below (by (with_reducible repeat (first | apply Kd.R_alloc | apply Kd.R_drewN | apply Kd.R_drew)); exact HO_9.out) hb); have n1_ := Aside0.mk (Kd.R_below (by (with_reducible repeat (first | apply Kd.R_alloc | apply Kd.R_drewN | apply Kd.R_drew)); exact HO317.out) hb); have n2_ := Aside0.mk (Kd.R_below (by (with_reducible repeat (first | apply Kd.R_alloc | apply Kd.R_drewN | apply Kd.R_drew)); exact HO326.out) hb); have n3_ := Aside0.mk (Kd.R_lower ho49 (below_size (by repeat (first | (with_reducible first | exact HB.out | apply below_alloc | apply pw_below_drewN | apply below_drew1) | exact HB.out)))); have n4_ := Aside0.mk (below_step (by repeat (first | (with_reducible first | exact HB.out | apply below_alloc | apply pw_below_drewN | apply below_drew1) | exact HB.out)) hb); clear HO_9; clear HO317; clear HO326; clear HB; have HO_9 := n0_; have HO317 := n1_; have HO326 := n2_; have HO330 := n3_; have HB := n4_; clear n0_ n1_ n2_ n3_ n4_; clear hb ho49) | ((with_reducible refine gate_builtin (b := .append) (xs := #[.tmp 57, .tmp 58]) rfl ?_); (try (refine gate_guard (by rfl) ?_; dsimp only)); at_builtin; refine Kd.R_append_rows (Kd.int .i64) (w0 := w) w.heap.size rfl (.tmp 57) (.tmp 58) 35 3 (.int .i64 0) 8 rfl Tryd.underlying35 info3 rfl (by decide) (by omega) v329 y328 l1 _ _ _ (fun _ => True) (fun _ => False) rfl rfl ?aO ?aR (fun _ _ h => h) (fun _ h => h.elim) ?aF ?aB ?aS ?aL ?_; (case aR => repeat (first | exact (Kd.C_below HR1.out HB.out) | (with_reducible refine Kd.C_alloc ?_ _) | (with_reducible refine Kd.C_drewN ?_ _) | (with_reducible refine Kd.C_drew ?_))); (case aB => exact (by repeat (first | (with_reducible first | exact HB.out | apply below_alloc | apply pw_below_drewN | apply below_drew1) | exact HB.out))); (case aF => exact (fun _ _ => trivial)); (case aO => exact (by (with_reducible repeat (first | apply Kd.R_alloc | apply Kd.R_drewN | apply Kd.R_drew)); exact HO330.out)); (case aS => exact (below_size (by repeat (first | (with_reducible first | exact HB.out | apply below_alloc | apply pw_below_drewN | apply below_drew1) | exact HB.out)))); (case aL => have := LMc29.out; omega); intro v332 w50 ho hb hg hat; rw [← Ny331.out] at ho; have n0_ := Aside0.mk (Kd.R_over' (by (with_reducible repeat (first | apply Kd.R_alloc | apply Kd.R_drewN | apply Kd.R_drew)); exact HO_9.out) (Kd.R_typed (by (with_reducible repeat (first | apply Kd.R_alloc | apply Kd.R_drewN | apply Kd.R_drew)); exact HO330.out)) (by decide) hg); have n1_ := Aside0.mk (Kd.R_over' (by (with_reducible repeat (first | apply Kd.R_alloc | apply Kd.R_drewN | apply Kd.R_drew)); exact HO317.out) (Kd.R_typed (by (with_reducible repeat (first | apply Kd.R_alloc | apply Kd.R_drewN | apply Kd.R_drew)); exact HO330.out)) (by decide) hg); have n2_ := Aside0.mk (Kd.R_over' (by (with_reducible repeat (first | apply Kd.R_alloc | apply Kd.R_drewN | apply Kd.R_drew)); exact HO326.out) (Kd.R_typed (by (with_reducible repeat (first | apply Kd.R_alloc | apply Kd.R_drewN | apply Kd.R_drew)); exact HO330.out)) (by decide) hg); have n3_ := Aside0.mk (hb); have n4_ := Aside0.mk (ho); clear HO_9; clear HO317; clear HO326; clear HB; clear HO330; have HO_9 := n0_; have HO317 := n1_; have HO326 := n2_; have HB := n3_; have HO333 := n4_; clear n0_ n1_ n2_ n3_ n4_; clear ho hb hg hat; obtain ⟨Ao51, co51, eo51⟩ := Kd.R_slice HO_9.out; subst eo51; obtain ⟨Ao52, co52, eo52⟩ := Kd.R_slice HO333.out; subst eo52) | (go_at_call 16; (with_reducible refine (value_Fits.calls k1 _ _ t296 _ _ y331 t334 _ ?side1 ?side2 ?side3 ?side4 A30.out).mono ?_); (case side1 => repeat (first | exact (Kd.R_reads' HO_9.out).2.2 | (with_reducible refine Kd.C_alloc ?_ _) | (with_reducible refine Kd.C_drewN ?_ _) | (with_reducible refine Kd.C_drew ?_))); (case side2 => exact (Kd.R_reads' HO_9.out).2.1); (case side3 => repeat (first | exact (Kd.R_reads' HO333.out).2.2 | (with_reducible refine Kd.C_alloc ?_ _) | (with_reducible refine Kd.C_drewN ?_ _) | (with_reducible refine Kd.C_drew ?_))); (case side4 => exact (Kd.R_reads' HO333.out).2.1); rintro e w53 ⟨rfl, hb⟩; have n0_ := Aside0.mk (Kd.R_below (by (with_reducible repeat (first | apply Kd.R_alloc | apply Kd.R_drewN | apply Kd.R_drew)); exact HO_9.out) hb); have n1_ := Aside0.mk (Kd.R_below (by (with_reducible repeat (first | apply Kd.R_alloc | apply Kd.R_drewN | apply Kd.R_drew)); exact HO317.out) hb); have n2_ := Aside0.mk (Kd.R_below (by (with_reducible repeat (first | apply Kd.R_alloc | apply Kd.R_drewN | apply Kd.R_drew)); exact HO326.out) hb); have n3_ := Aside0.mk (Kd.R_below (by (with_reducible repeat (first | apply Kd.R_alloc | apply Kd.R_drewN | apply Kd.R_drew)); exact HO333.out) hb); have n4_ := Aside0.mk (below_step (by repeat (first | (with_reducible first | exact HB.out | apply below_alloc | apply pw_below_drewN | apply below_drew1) | exact HB.out)) hb); clear HO_9; clear HO317; clear HO326; clear HO333; clear HB; have HO_9 := n0_; have HO317 := n1_; have HO326 := n2_; have HO333 := n3_; have HB := n4_; clear n0_ n1_ n2_ n3_ n4_; (try clear hb); (try clear hb2); (try clear hk); (try clear hi)) | (go_at_call 24; (with_reducible refine (weighhouseref02_Fits.calls k1 _ _ l0 _ _ l1 t335 _ ?side1 ?side2 ?side3 ?side4 A31.out).mono ?_); (case side1 => repeat (first | exact (Kd.C_below HR0.out HB.out) | (with_reducible refine Kd.C_alloc ?_ _) | (with_reducible refine Kd.C_drewN ?_ _) | (with_reducible refine Kd.C_drew ?_))); (case side2 => exact HC0.out); (case side3 => repeat (first | exact (Kd.C_below HR1.out HB.out) | (with_reducible refine Kd.C_alloc ?_ _) | (with_reducible refine Kd.C_drewN ?_ _) | (with_reducible refine Kd.C_drew ?_))); (case side4 => exact HC1.out); rintro e w54 ⟨rfl, hb⟩; have n0_ := Aside0.mk (Kd.R_below (by (with_reducible repeat (first | apply Kd.R_alloc | apply Kd.R_drewN | apply Kd.R_drew)); exact HO_9.out) hb); have n1_ := Aside0.mk (Kd.R_below (by (with_reducible repeat (first | apply Kd.R_alloc | apply Kd.R_drewN | apply Kd.R_drew)); exact HO317.out) hb); have n2_ := Aside0.mk (Kd.R_below (by (with_reducible repeat (first | apply Kd.R_alloc | apply Kd.R_drewN | apply Kd.R_drew)); exact HO326.out) hb); have n3_ := Aside0.mk (Kd.R_below (by (with_reducible repeat (first | apply Kd.R_alloc | apply Kd.R_drewN | apply Kd.R_drew)); exact HO333.out) hb); have n4_ := Aside0.mk (below_step (by repeat (first | (with_reducible first | exact HB.out | apply below_alloc | apply pw_below_drewN | apply below_drew1) | exact HB.out)) hb); clear HO_9; clear HO317; clear HO326; clear HO333; clear HB; have HO_9 := n0_; have HO317 := n1_; have HO326 := n2_; have HO333 := n3_; have HB := n4_; clear n0_ n1_ n2_ n3_ n4_; (try clear hb); (try clear hb2); (try clear hk); (try clear hi)) | (go_at_call 12; (with_reducible refine (weighhouselaw02_Same.calls k1 _ _ t296 _ _ l0 true _ ?side1 ?side2 ?side3 ?side4 A33.out).mono ?_); (case side1 => repeat (first | exact (Kd.R_reads' HO_9.out).2.2 | (with_reducible refine Kd.C_alloc ?_ _) | (with_reducible refine Kd.C_drewN ?_ _) | (with_reducible refine Kd.C_drew ?_))); (case side2 => exact (Kd.R_reads' HO_9.out).2.1); (case side3 => repeat (first | exact (Kd.C_below HR0.out HB.out) | (with_reducible refine Kd.C_alloc ?_ _) | (with_reducible refine Kd.C_drewN ?_ _) | (with_reducible refine Kd.C_drew ?_))); (case side4 => exact HC0.out); rintro e w' ⟨rfl, ⟨nd, rfl⟩⟩) | (go_at_call 14; (with_reducible refine (weighhouselaw02_knows.calls k1  t337 _ A35.out ?sideV).mono ?_); (case sideV => exact HV.out.below (by repeat (first | (with_reducible first | exact HB.out | apply below_alloc | apply pw_below_drewN | apply below_drew1) | exact HB.out))); rintro e w55 ⟨rfl, hb⟩; have n0_ := Aside0.mk (Kd.R_below (by (with_reducible repeat (first | apply Kd.R_alloc | apply Kd.R_drewN | apply Kd.R_drew)); exact HO_9.out) hb); have n1_ := Aside0.mk (Kd.R_below (by (with_reducible repeat (first | apply Kd.R_alloc | apply Kd.R_drewN | apply Kd.R_drew)); exact HO317.out) hb); have n2_ := Aside0.mk (Kd.R_below (by (with_reducible repeat (first | apply Kd.R_alloc | apply Kd.R_drewN | apply Kd.R_drew)); exact HO326.out) hb); have n3_ := Aside0.mk (Kd.R_below (by (with_reducible repeat (first | apply Kd.R_alloc | apply Kd.R_drewN | apply Kd.R_drew)); exact HO333.out) hb); have n4_ := Aside0.mk (below_step (by repeat (first | (with_reducible first | exact HB.out | apply below_alloc | apply pw_below_drewN | apply below_drew1) | exact HB.out)) hb); clear HO_9; clear HO317; clear HO326; clear HO333; clear HB; have HO_9 := n0_; have HO317 := n1_; have HO326 := n2_; have HO333 := n3_; have HB := n4_; clear n0_ n1_ n2_ n3_ n4_; (try clear hb); (try clear hb2); (try clear hk); (try clear hi)))
                go_ret
                exact ⟨by first | rfl | (simp [errW_none, errW_some] <;> rfl) | (simp [*, errW_none, errW_some] <;> rfl), by repeat (first | (with_reducible first | exact HB.out | apply below_alloc | apply pw_below_drewN | apply below_drew1) | exact HB.out)⟩
              · replace c34 := Bool.eq_false_iff.mpr c34
                subst c34
                have H1 : (some false) = some r := by rw [if_neg (show ¬ (false = true) by decide)] at H; exact H
                clear H
                have H := H1
                clear H1
                obtain rfl := Option.some.inj H
                go_wp2_with (first | ((with_reducible refine gate_callee (f := 18) rfl ?_); refine goesL_ (some 33) rfl rfl Tryd.func18 (by kernel_rfl) rfl #[.int .i64 a2] rfl (by (try simp only [List.map_toArray, List.map_cons, List.map_nil]); first | done | rfl | (simp only [List.length_drop, List.length_take]; rfl)) ?_; (with_reducible refine (value_Number.calls a2 t303 t304 t305 _ A21.out).mono ?_); rintro e w56 ⟨rfl, hb⟩; refine ⟨_, rfl, ?_⟩; have n0_ := Aside0.mk (Kd.R_below (by (with_reducible repeat (first | apply Kd.R_alloc | apply Kd.R_drewN | apply Kd.R_drew)); exact HO_9.out) hb); have n1_ := Aside0.mk (below_step (by repeat (first | (with_reducible first | exact HB.out | apply below_alloc | apply pw_below_drewN | apply below_drew1) | exact HB.out)) hb); clear HO_9; clear HB; have HO_9 := n0_; have HB := n1_; clear n0_ n1_; (try clear hb); (try clear hb2); (try clear hk); (try clear hi)) | ((with_reducible refine gate_callee (f := 19) rfl ?_); refine goesL_ (some 35) rfl rfl Tryd.func19 (by kernel_rfl) rfl #[.string a3] rfl (by (try simp only [List.map_toArray, List.map_cons, List.map_nil]); first | done | rfl | (simp only [List.length_drop, List.length_take]; rfl)) ?_; (with_reducible refine (value_Text.calls a3 t306 t307 t308 _ A22.out).mono ?_); rintro e w57 ⟨rfl, hb⟩; refine ⟨_, rfl, ?_⟩; have n0_ := Aside0.mk (Kd.R_below (by (with_reducible repeat (first | apply Kd.R_alloc | apply Kd.R_drewN | apply Kd.R_drew)); exact HO_9.out) hb); have n1_ := Aside0.mk (below_step (by repeat (first | (with_reducible first | exact HB.out | apply below_alloc | apply pw_below_drewN | apply below_drew1) | exact HB.out)) hb); clear HO_9; clear HB; have HO_9 := n0_; have HB := n1_; clear n0_ n1_; (try clear hb); (try clear hb2); (try clear hk); (try clear hi)) | ((with_reducible refine gate_callee (f := 20) rfl ?_); refine goesL_ (some 38) rfl rfl Tryd.func20 (by kernel_rfl) rfl #[.bool (decide (a2 > 0))] rfl (by (try simp only [List.map_toArray, List.map_cons, List.map_nil]); first | done | rfl | (simp only [List.length_drop, List.length_take]; rfl)) ?_; (with_reducible refine (value_Truth.calls (decide (a2 > 0)) t309 t310 t311 _ A23.out).mono ?_); rintro e w58 ⟨rfl, hb⟩; refine ⟨_, rfl, ?_⟩; have n0_ := Aside0.mk (Kd.R_below (by (with_reducible repeat (first | apply Kd.R_alloc | apply Kd.R_drewN | apply Kd.R_drew)); exact HO_9.out) hb); have n1_ := Aside0.mk (below_step (by repeat (first | (with_reducible first | exact HB.out | apply below_alloc | apply pw_below_drewN | apply below_drew1) | exact HB.out)) hb); clear HO_9; clear HB; have HO_9 := n0_; have HB := n1_; clear n0_ n1_; (try clear hb); (try clear hb2); (try clear hk); (try clear hi)) | ((with_reducible refine gate_callee (f := 21) rfl ?_); refine goesL_ (some 40) rfl rfl Tryd.func21 (by kernel_rfl) rfl #[.int .i64 a2] rfl (by (try simp only [List.map_toArray, List.map_cons, List.map_nil]); first | done | rfl | (simp only [List.length_drop, List.length_take]; rfl)) ?_; (with_reducible refine (value_Zero.calls a2 t312 t313 t314 _ A24.out).mono ?_); rintro e w59 ⟨rfl, hb⟩; refine ⟨_, rfl, ?_⟩; have n0_ := Aside0.mk (Kd.R_below (by (with_reducible repeat (first | apply Kd.R_alloc | apply Kd.R_drewN | apply Kd.R_drew)); exact HO_9.out) hb); have n1_ := Aside0.mk (below_step (by repeat (first | (with_reducible first | exact HB.out | apply below_alloc | apply pw_below_drewN | apply below_drew1) | exact HB.out)) hb); clear HO_9; clear HB; have HO_9 := n0_; have HB := n1_; clear n0_ n1_; (try clear hb); (try clear hb2); (try clear hk); (try clear hi)) | ((with_reducible refine gate_dst (N := 41) rfl ?_); (try (refine gate_guard (by rfl) ?_; dsimp only)); refine Kd.R_lit k37 _ 37 ?hg (N := 41) ?hd (xs := ([(⟨t303, t304, t305⟩ : S37), (⟨t306, t307, t308⟩ : S37), (⟨t309, t310, t311⟩ : S37), (⟨t312, t313, t314⟩ : S37)] : List (S37))) (inner := [.int .i64 t303, .int .i64 t304, .string t305, .int .i64 t306, .int .i64 t307, .string t308, .int .i64 t309, .int .i64 t310, .string t311, .int .i64 t312, .int .i64 t313, .string t314]) (ok := fun _ => True) (okp := fun _ => True) ?hr ?hp (fun _ hk => hk) trivial (Below.refl _ _) (Nat.le_refl _) (by simp) ?_; (case hd => rfl); (case hg => rfl); (case hr => first | (go_simp; done) | (go_simp; rfl)); (case hp => exact (Reps.c3 (show Kd.M k37 _ _ _ (⟨t303, t304, t305⟩ : S37) [.int .i64 t303, .int .i64 t304, .string t305] from (k37_mkM _ _ _ (⟨t303, t304, t305⟩ : S37) )) (Reps.c3 (show Kd.M k37 _ _ _ (⟨t306, t307, t308⟩ : S37) [.int .i64 t306, .int .i64 t307, .string t308] from (k37_mkM _ _ _ (⟨t306, t307, t308⟩ : S37) )) (Reps.c3 (show Kd.M k37 _ _ _ (⟨t309, t310, t311⟩ : S37) [.int .i64 t309, .int .i64 t310, .string t311] from (k37_mkM _ _ _ (⟨t309, t310, t311⟩ : S37) )) (Reps.c3 (show Kd.M k37 _ _ _ (⟨t312, t313, t314⟩ : S37) [.int .i64 t312, .int .i64 t313, .string t314] from (k37_mkM _ _ _ (⟨t312, t313, t314⟩ : S37) )) (Reps.none _ _)))))); intro v316 w60 ho61 hb hg_ hnew_; clear hg_ hnew_; (first | rw [← Ny315.out] at ho61 | (simp only [Int.reduceToNat] at ho61; rw [← Ny315.out] at ho61)); have n0_ := Aside0.mk (Kd.R_elder' (by (with_reducible repeat (first | apply Kd.R_alloc | apply Kd.R_drewN | apply Kd.R_drew)); exact HO_9.out) (Kd.R_base ho61) hb); have n1_ := Aside0.mk (Kd.R_lower (Kd.R_new' ho61 (Kd.R_lt (by (with_reducible repeat (first | apply Kd.R_alloc | apply Kd.R_drewN | apply Kd.R_drew)); exact HO_9.out))) (below_size (by repeat (first | (with_reducible first | exact HB.out | apply below_alloc | apply pw_below_drewN | apply below_drew1) | exact HB.out)))); have n2_ := Aside0.mk (below_step (by repeat (first | (with_reducible first | exact HB.out | apply below_alloc | apply pw_below_drewN | apply below_drew1) | exact HB.out)) hb); clear HO_9; clear HB; have HO_9 := n0_; have HO317 := n1_; have HB := n2_; clear n0_ n1_ n2_; clear hb ho61) | ((with_reducible refine gate_callee (f := 22) rfl ?_); refine goesL_ (some 48) rfl rfl Tryd.func22 (by kernel_rfl) rfl #[.bool (decide (a2 > 0))] rfl (by (try simp only [List.map_toArray, List.map_cons, List.map_nil]); first | done | rfl | (simp only [List.length_drop, List.length_take]; rfl)) ?_; (with_reducible refine (weighhouseref02_Truth.calls (decide (a2 > 0)) t318 t319 t320 _ A25.out).mono ?_); rintro e w62 ⟨rfl, hb⟩; refine ⟨_, rfl, ?_⟩; have n0_ := Aside0.mk (Kd.R_below (by (with_reducible repeat (first | apply Kd.R_alloc | apply Kd.R_drewN | apply Kd.R_drew)); exact HO_9.out) hb); have n1_ := Aside0.mk (Kd.R_below (by (with_reducible repeat (first | apply Kd.R_alloc | apply Kd.R_drewN | apply Kd.R_drew)); exact HO317.out) hb); have n2_ := Aside0.mk (below_step (by repeat (first | (with_reducible first | exact HB.out | apply below_alloc | apply pw_below_drewN | apply below_drew1) | exact HB.out)) hb); clear HO_9; clear HO317; clear HB; have HO_9 := n0_; have HO317 := n1_; have HB := n2_; clear n0_ n1_ n2_; (try clear hb); (try clear hb2); (try clear hk); (try clear hi)) | ((with_reducible refine gate_callee (f := 23) rfl ?_); refine goesL_ (some 50) rfl rfl Tryd.func23 (by kernel_rfl) rfl #[.int .i64 a2] rfl (by (try simp only [List.map_toArray, List.map_cons, List.map_nil]); first | done | rfl | (simp only [List.length_drop, List.length_take]; rfl)) ?_; (with_reducible refine (weighhouseref02_Zero.calls a2 t321 t322 t323 _ A26.out).mono ?_); rintro e w63 ⟨rfl, hb⟩; refine ⟨_, rfl, ?_⟩; have n0_ := Aside0.mk (Kd.R_below (by (with_reducible repeat (first | apply Kd.R_alloc | apply Kd.R_drewN | apply Kd.R_drew)); exact HO_9.out) hb); have n1_ := Aside0.mk (Kd.R_below (by (with_reducible repeat (first | apply Kd.R_alloc | apply Kd.R_drewN | apply Kd.R_drew)); exact HO317.out) hb); have n2_ := Aside0.mk (below_step (by repeat (first | (with_reducible first | exact HB.out | apply below_alloc | apply pw_below_drewN | apply below_drew1) | exact HB.out)) hb); clear HO_9; clear HO317; clear HB; have HO_9 := n0_; have HO317 := n1_; have HB := n2_; clear n0_ n1_ n2_; (try clear hb); (try clear hb2); (try clear hk); (try clear hi)) | ((with_reducible refine gate_dst (N := 51) rfl ?_); (try (refine gate_guard (by rfl) ?_; dsimp only)); refine Kd.R_lit k37 _ 37 ?hg (N := 51) ?hd (xs := ([(⟨1, a2, (⟨#[]⟩ : ByteArray)⟩ : S37), (⟨2, 0, a3⟩ : S37), (⟨t318, t319, t320⟩ : S37), (⟨t321, t322, t323⟩ : S37)] : List (S37))) (inner := [.int .i64 1, .int .i64 a2, .string (⟨#[]⟩ : ByteArray), .int .i64 2, .int .i64 0, .string a3, .int .i64 t318, .int .i64 t319, .string t320, .int .i64 t321, .int .i64 t322, .string t323]) (ok := fun _ => True) (okp := fun _ => True) ?hr ?hp (fun _ hk => hk) trivial (Below.refl _ _) (Nat.le_refl _) (by simp) ?_; (case hd => rfl); (case hg => rfl); (case hr => first | (go_simp; done) | (go_simp; rfl)); (case hp => exact (Reps.c3 (show Kd.M k37 _ _ _ (⟨1, a2, (⟨#[]⟩ : ByteArray)⟩ : S37) [.int .i64 1, .int .i64 a2, .string (⟨#[]⟩ : ByteArray)] from (k37_mkM _ _ _ (⟨1, a2, (⟨#[]⟩ : ByteArray)⟩ : S37) )) (Reps.c3 (show Kd.M k37 _ _ _ (⟨2, 0, a3⟩ : S37) [.int .i64 2, .int .i64 0, .string a3] from (k37_mkM _ _ _ (⟨2, 0, a3⟩ : S37) )) (Reps.c3 (show Kd.M k37 _ _ _ (⟨t318, t319, t320⟩ : S37) [.int .i64 t318, .int .i64 t319, .string t320] from (k37_mkM _ _ _ (⟨t318, t319, t320⟩ : S37) )) (Reps.c3 (show Kd.M k37 _ _ _ (⟨t321, t322, t323⟩ : S37) [.int .i64 t321, .int .i64 t322, .string t323] from (k37_mkM _ _ _ (⟨t321, t322, t323⟩ : S37) )) (Reps.none _ _)))))); intro v325 w64 ho65 hb hg_ hnew_; clear hg_ hnew_; (first | rw [← Ny324.out] at ho65 | (simp only [Int.reduceToNat] at ho65; rw [← Ny324.out] at ho65)); have n0_ := Aside0.mk (Kd.R_elder' (by (with_reducible repeat (first | apply Kd.R_alloc | apply Kd.R_drewN | apply Kd.R_drew)); exact HO_9.out) (Kd.R_base ho65) hb); have n1_ := Aside0.mk (Kd.R_elder' (by (with_reducible repeat (first | apply Kd.R_alloc | apply Kd.R_drewN | apply Kd.R_drew)); exact HO317.out) (Kd.R_base ho65) hb); have n2_ := Aside0.mk (Kd.R_lower (Kd.R_new' (Kd.R_new' ho65 (Kd.R_lt (by (with_reducible repeat (first | apply Kd.R_alloc | apply Kd.R_drewN | apply Kd.R_drew)); exact HO_9.out))) (Kd.R_lt (by (with_reducible repeat (first | apply Kd.R_alloc | apply Kd.R_drewN | apply Kd.R_drew)); exact HO317.out))) (below_size (by repeat (first | (with_reducible first | exact HB.out | apply below_alloc | apply pw_below_drewN | apply below_drew1) | exact HB.out)))); have n3_ := Aside0.mk (below_step (by repeat (first | (with_reducible first | exact HB.out | apply below_alloc | apply pw_below_drewN | apply below_drew1) | exact HB.out)) hb); clear HO_9; clear HO317; clear HB; have HO_9 := n0_; have HO317 := n1_; have HO326 := n2_; have HB := n3_; clear n0_ n1_ n2_ n3_; clear hb ho65; obtain ⟨Ao66, co66, eo66⟩ := Kd.R_slice HO317.out; subst eo66; obtain ⟨Ao67, co67, eo67⟩ := Kd.R_slice HO326.out; subst eo67) | ((with_reducible refine gate_callee (f := 12) rfl ?_); refine goesL_ (some 54) rfl rfl Tryd.func12 (by kernel_rfl) rfl #[.slice Ao66 y315.length co66, .slice Ao67 y324.length co67] rfl (by (try simp only [List.map_toArray, List.map_cons, List.map_nil]); first | done | rfl | (simp only [List.length_drop, List.length_take]; rfl)) ?_; (with_reducible refine (weighhouselaw02_Same.calls k1 _ _ y315 _ _ y324 true _ ?side1 ?side2 ?side3 ?side4 A27.out).mono ?_); (case side1 => repeat (first | exact (Kd.R_reads' HO317.out).2.2 | (with_reducible refine Kd.C_alloc ?_ _) | (with_reducible refine Kd.C_drewN ?_ _) | (with_reducible refine Kd.C_drew ?_))); (case side2 => exact (Kd.R_reads' HO317.out).2.1); (case side3 => repeat (first | exact (Kd.R_reads' HO326.out).2.2 | (with_reducible refine Kd.C_alloc ?_ _) | (with_reducible refine Kd.C_drewN ?_ _) | (with_reducible refine Kd.C_drew ?_))); (case side4 => exact (Kd.R_reads' HO326.out).2.1); rintro e w' ⟨rfl, ⟨nd, rfl⟩⟩; refine ⟨_, rfl, ?_⟩) | ((with_reducible refine gate_dst (N := 57) rfl ?_); (try (refine gate_guard (by rfl) ?_; dsimp only)); refine Kd.R_lit (Kd.int .i64) _ 3 ?hg (N := 57) ?hd (xs := ([] : List Int)) (inner := []) (ok := fun _ => True) (okp := fun _ => True) ?hr ?hp (fun _ hk => hk) trivial (Below.refl _ _) (Nat.le_refl _) (by simp) ?_; (case hd => rfl); (case hg => rfl); (case hr => first | (go_simp; done) | (go_simp; rfl)); (case hp => exact (Reps.none _ _)); intro v329 w68 ho69 hb hg_ hnew_; clear hg_ hnew_; (first | rw [← Ny328.out] at ho69 | (simp only [Int.reduceToNat] at ho69; rw [← Ny328.out] at ho69)); have n0_ := Aside0.mk (Kd.R_below (by (with_reducible repeat (first | apply Kd.R_alloc | apply Kd.R_drewN | apply Kd.R_drew)); exact HO_9.out) hb); have n1_ := Aside0.mk (Kd.R_below (by (with_reducible repeat (first | apply Kd.R_alloc | apply Kd.R_drewN | apply Kd.R_drew)); exact HO317.out) hb); have n2_ := Aside0.mk (Kd.R_below (by (with_reducible repeat (first | apply Kd.R_alloc | apply Kd.R_drewN | apply Kd.R_drew)); exact HO326.out) hb); have n3_ := Aside0.mk (Kd.R_lower ho69 (below_size (by repeat (first | (with_reducible first | exact HB.out | apply below_alloc | apply pw_below_drewN | apply below_drew1) | exact HB.out)))); have n4_ := Aside0.mk (below_step (by repeat (first | (with_reducible first | exact HB.out | apply below_alloc | apply pw_below_drewN | apply below_drew1) | exact HB.out)) hb); clear HO_9; clear HO317; clear HO326; clear HB; have HO_9 := n0_; have HO317 := n1_; have HO326 := n2_; have HO330 := n3_; have HB := n4_; clear n0_ n1_ n2_ n3_ n4_; clear hb ho69) | ((with_reducible refine gate_builtin (b := .append) (xs := #[.tmp 57, .tmp 58]) rfl ?_); (try (refine gate_guard (by rfl) ?_; dsimp only)); at_builtin; refine Kd.R_append_rows (Kd.int .i64) (w0 := w) w.heap.size rfl (.tmp 57) (.tmp 58) 35 3 (.int .i64 0) 8 rfl Tryd.underlying35 info3 rfl (by decide) (by omega) v329 y328 l1 _ _ _ (fun _ => True) (fun _ => False) rfl rfl ?aO ?aR (fun _ _ h => h) (fun _ h => h.elim) ?aF ?aB ?aS ?aL ?_; (case aR => repeat (first | exact (Kd.C_below HR1.out HB.out) | (with_reducible refine Kd.C_alloc ?_ _) | (with_reducible refine Kd.C_drewN ?_ _) | (with_reducible refine Kd.C_drew ?_))); (case aB => exact (by repeat (first | (with_reducible first | exact HB.out | apply below_alloc | apply pw_below_drewN | apply below_drew1) | exact HB.out))); (case aF => exact (fun _ _ => trivial)); (case aO => exact (by (with_reducible repeat (first | apply Kd.R_alloc | apply Kd.R_drewN | apply Kd.R_drew)); exact HO330.out)); (case aS => exact (below_size (by repeat (first | (with_reducible first | exact HB.out | apply below_alloc | apply pw_below_drewN | apply below_drew1) | exact HB.out)))); (case aL => have := LMc29.out; omega); intro v332 w70 ho hb hg hat; rw [← Ny331.out] at ho; have n0_ := Aside0.mk (Kd.R_over' (by (with_reducible repeat (first | apply Kd.R_alloc | apply Kd.R_drewN | apply Kd.R_drew)); exact HO_9.out) (Kd.R_typed (by (with_reducible repeat (first | apply Kd.R_alloc | apply Kd.R_drewN | apply Kd.R_drew)); exact HO330.out)) (by decide) hg); have n1_ := Aside0.mk (Kd.R_over' (by (with_reducible repeat (first | apply Kd.R_alloc | apply Kd.R_drewN | apply Kd.R_drew)); exact HO317.out) (Kd.R_typed (by (with_reducible repeat (first | apply Kd.R_alloc | apply Kd.R_drewN | apply Kd.R_drew)); exact HO330.out)) (by decide) hg); have n2_ := Aside0.mk (Kd.R_over' (by (with_reducible repeat (first | apply Kd.R_alloc | apply Kd.R_drewN | apply Kd.R_drew)); exact HO326.out) (Kd.R_typed (by (with_reducible repeat (first | apply Kd.R_alloc | apply Kd.R_drewN | apply Kd.R_drew)); exact HO330.out)) (by decide) hg); have n3_ := Aside0.mk (hb); have n4_ := Aside0.mk (ho); clear HO_9; clear HO317; clear HO326; clear HB; clear HO330; have HO_9 := n0_; have HO317 := n1_; have HO326 := n2_; have HB := n3_; have HO333 := n4_; clear n0_ n1_ n2_ n3_ n4_; clear ho hb hg hat; obtain ⟨Ao71, co71, eo71⟩ := Kd.R_slice HO_9.out; subst eo71; obtain ⟨Ao72, co72, eo72⟩ := Kd.R_slice HO333.out; subst eo72) | (go_at_call 16; (with_reducible refine (value_Fits.calls k1 _ _ t296 _ _ y331 t334 _ ?side1 ?side2 ?side3 ?side4 A30.out).mono ?_); (case side1 => repeat (first | exact (Kd.R_reads' HO_9.out).2.2 | (with_reducible refine Kd.C_alloc ?_ _) | (with_reducible refine Kd.C_drewN ?_ _) | (with_reducible refine Kd.C_drew ?_))); (case side2 => exact (Kd.R_reads' HO_9.out).2.1); (case side3 => repeat (first | exact (Kd.R_reads' HO333.out).2.2 | (with_reducible refine Kd.C_alloc ?_ _) | (with_reducible refine Kd.C_drewN ?_ _) | (with_reducible refine Kd.C_drew ?_))); (case side4 => exact (Kd.R_reads' HO333.out).2.1); rintro e w73 ⟨rfl, hb⟩; have n0_ := Aside0.mk (Kd.R_below (by (with_reducible repeat (first | apply Kd.R_alloc | apply Kd.R_drewN | apply Kd.R_drew)); exact HO_9.out) hb); have n1_ := Aside0.mk (Kd.R_below (by (with_reducible repeat (first | apply Kd.R_alloc | apply Kd.R_drewN | apply Kd.R_drew)); exact HO317.out) hb); have n2_ := Aside0.mk (Kd.R_below (by (with_reducible repeat (first | apply Kd.R_alloc | apply Kd.R_drewN | apply Kd.R_drew)); exact HO326.out) hb); have n3_ := Aside0.mk (Kd.R_below (by (with_reducible repeat (first | apply Kd.R_alloc | apply Kd.R_drewN | apply Kd.R_drew)); exact HO333.out) hb); have n4_ := Aside0.mk (below_step (by repeat (first | (with_reducible first | exact HB.out | apply below_alloc | apply pw_below_drewN | apply below_drew1) | exact HB.out)) hb); clear HO_9; clear HO317; clear HO326; clear HO333; clear HB; have HO_9 := n0_; have HO317 := n1_; have HO326 := n2_; have HO333 := n3_; have HB := n4_; clear n0_ n1_ n2_ n3_ n4_; (try clear hb); (try clear hb2); (try clear hk); (try clear hi)) | (go_at_call 24; (with_reducible refine (weighhouseref02_Fits.calls k1 _ _ l0 _ _ l1 t335 _ ?side1 ?side2 ?side3 ?side4 A31.out).mono ?_); (case side1 => repeat (first | exact (Kd.C_below HR0.out HB.out) | (with_reducible refine Kd.C_alloc ?_ _) | (with_reducible refine Kd.C_drewN ?_ _) | (with_reducible refine Kd.C_drew ?_))); (case side2 => exact HC0.out); (case side3 => repeat (first | exact (Kd.C_below HR1.out HB.out) | (with_reducible refine Kd.C_alloc ?_ _) | (with_reducible refine Kd.C_drewN ?_ _) | (with_reducible refine Kd.C_drew ?_))); (case side4 => exact HC1.out); rintro e w74 ⟨rfl, hb⟩; have n0_ := Aside0.mk (Kd.R_below (by (with_reducible repeat (first | apply Kd.R_alloc | apply Kd.R_drewN | apply Kd.R_drew)); exact HO_9.out) hb); have n1_ := Aside0.mk (Kd.R_below (by (with_reducible repeat (first | apply Kd.R_alloc | apply Kd.R_drewN | apply Kd.R_drew)); exact HO317.out) hb); have n2_ := Aside0.mk (Kd.R_below (by (with_reducible repeat (first | apply Kd.R_alloc | apply Kd.R_drewN | apply Kd.R_drew)); exact HO326.out) hb); have n3_ := Aside0.mk (Kd.R_below (by (with_reducible repeat (first | apply Kd.R_alloc | apply Kd.R_drewN | apply Kd.R_drew)); exact HO333.out) hb); have n4_ := Aside0.mk (below_step (by repeat (first | (with_reducible first | exact HB.out | apply below_alloc | apply pw_below_drewN | apply below_drew1) | exact HB.out)) hb); clear HO_9; clear HO317; clear HO326; clear HO333; clear HB; have HO_9 := n0_; have HO317 := n1_; have HO326 := n2_; have HO333 := n3_; have HB := n4_; clear n0_ n1_ n2_ n3_ n4_; (try clear hb); (try clear hb2); (try clear hk); (try clear hi)) | (go_at_call 12; (with_reducible refine (weighhouselaw02_Same.calls k1 _ _ t296 _ _ l0 false _ ?side1 ?side2 ?side3 ?side4 A33.out).mono ?_); (case side1 => repeat (first | exact (Kd.R_reads' HO_9.out).2.2 | (with_reducible refine Kd.C_alloc ?_ _) | (with_reducible refine Kd.C_drewN ?_ _) | (with_reducible refine Kd.C_drew ?_))); (case side2 => exact (Kd.R_reads' HO_9.out).2.1); (case side3 => repeat (first | exact (Kd.C_below HR0.out HB.out) | (with_reducible refine Kd.C_alloc ?_ _) | (with_reducible refine Kd.C_drewN ?_ _) | (with_reducible refine Kd.C_drew ?_))); (case side4 => exact HC0.out); rintro e w' ⟨rfl, ⟨nd, rfl⟩⟩))
                go_ret
                exact ⟨by first | rfl | (simp [errW_none, errW_some] <;> rfl) | (simp [*, errW_none, errW_some] <;> rfl), by repeat (first | (with_reducible first | exact HB.out | apply below_alloc | apply pw_below_drewN | apply below_drew1) | exact HB.out)⟩
            · rw [if_neg c32] at H
              have c32b0 : (t334 == t335) = false := by simpa using c32
              (try (have c32b1 : decide (t334 = t335) = false := by simpa using c32))
              (try (have c32b2 : (t334 == t335) = false := by simpa using c32))
              (try (have c32b3 : ¬ (t334 = t335) := by simpa using c32))
              clear c32
              obtain rfl := Option.some.inj H
              go_wp2_with (first | ((with_reducible refine gate_callee (f := 18) rfl ?_); refine goesL_ (some 33) rfl rfl Tryd.func18 (by kernel_rfl) rfl #[.int .i64 a2] rfl (by (try simp only [List.map_toArray, List.map_cons, List.map_nil]); first | done | rfl | (simp only [List.length_drop, List.length_take]; rfl)) ?_; (with_reducible refine (value_Number.calls a2 t303 t304 t305 _ A21.out).mono ?_); rintro e w75 ⟨rfl, hb⟩; refine ⟨_, rfl, ?_⟩; have n0_ := Aside0.mk (Kd.R_below (by (with_reducible repeat (first | apply Kd.R_alloc | apply Kd.R_drewN | apply Kd.R_drew)); exact HO_9.out) hb); have n1_ := Aside0.mk (below_step (by repeat (first | (with_reducible first | exact HB.out | apply below_alloc | apply pw_below_drewN | apply below_drew1) | exact HB.out)) hb); clear HO_9; clear HB; have HO_9 := n0_; have HB := n1_; clear n0_ n1_; (try clear hb); (try clear hb2); (try clear hk); (try clear hi)) | ((with_reducible refine gate_callee (f := 19) rfl ?_); refine goesL_ (some 35) rfl rfl Tryd.func19 (by kernel_rfl) rfl #[.string a3] rfl (by (try simp only [List.map_toArray, List.map_cons, List.map_nil]); first | done | rfl | (simp only [List.length_drop, List.length_take]; rfl)) ?_; (with_reducible refine (value_Text.calls a3 t306 t307 t308 _ A22.out).mono ?_); rintro e w76 ⟨rfl, hb⟩; refine ⟨_, rfl, ?_⟩; have n0_ := Aside0.mk (Kd.R_below (by (with_reducible repeat (first | apply Kd.R_alloc | apply Kd.R_drewN | apply Kd.R_drew)); exact HO_9.out) hb); have n1_ := Aside0.mk (below_step (by repeat (first | (with_reducible first | exact HB.out | apply below_alloc | apply pw_below_drewN | apply below_drew1) | exact HB.out)) hb); clear HO_9; clear HB; have HO_9 := n0_; have HB := n1_; clear n0_ n1_; (try clear hb); (try clear hb2); (try clear hk); (try clear hi)) | ((with_reducible refine gate_callee (f := 20) rfl ?_); refine goesL_ (some 38) rfl rfl Tryd.func20 (by kernel_rfl) rfl #[.bool (decide (a2 > 0))] rfl (by (try simp only [List.map_toArray, List.map_cons, List.map_nil]); first | done | rfl | (simp only [List.length_drop, List.length_take]; rfl)) ?_; (with_reducible refine (value_Truth.calls (decide (a2 > 0)) t309 t310 t311 _ A23.out).mono ?_); rintro e w77 ⟨rfl, hb⟩; refine ⟨_, rfl, ?_⟩; have n0_ := Aside0.mk (Kd.R_below (by (with_reducible repeat (first | apply Kd.R_alloc | apply Kd.R_drewN | apply Kd.R_drew)); exact HO_9.out) hb); have n1_ := Aside0.mk (below_step (by repeat (first | (with_reducible first | exact HB.out | apply below_alloc | apply pw_below_drewN | apply below_drew1) | exact HB.out)) hb); clear HO_9; clear HB; have HO_9 := n0_; have HB := n1_; clear n0_ n1_; (try clear hb); (try clear hb2); (try clear hk); (try clear hi)) | ((with_reducible refine gate_callee (f := 21) rfl ?_); refine goesL_ (some 40) rfl rfl Tryd.func21 (by kernel_rfl) rfl #[.int .i64 a2] rfl (by (try simp only [List.map_toArray, List.map_cons, List.map_nil]); first | done | rfl | (simp only [List.length_drop, List.length_take]; rfl)) ?_; (with_reducible refine (value_Zero.calls a2 t312 t313 t314 _ A24.out).mono ?_); rintro e w78 ⟨rfl, hb⟩; refine ⟨_, rfl, ?_⟩; have n0_ := Aside0.mk (Kd.R_below (by (with_reducible repeat (first | apply Kd.R_alloc | apply Kd.R_drewN | apply Kd.R_drew)); exact HO_9.out) hb); have n1_ := Aside0.mk (below_step (by repeat (first | (with_reducible first | exact HB.out | apply below_alloc | apply pw_below_drewN | apply below_drew1) | exact HB.out)) hb); clear HO_9; clear HB; have HO_9 := n0_; have HB := n1_; clear n0_ n1_; (try clear hb); (try clear hb2); (try clear hk); (try clear hi)) | ((with_reducible refine gate_dst (N := 41) rfl ?_); (try (refine gate_guard (by rfl) ?_; dsimp only)); refine Kd.R_lit k37 _ 37 ?hg (N := 41) ?hd (xs := ([(⟨t303, t304, t305⟩ : S37), (⟨t306, t307, t308⟩ : S37), (⟨t309, t310, t311⟩ : S37), (⟨t312, t313, t314⟩ : S37)] : List (S37))) (inner := [.int .i64 t303, .int .i64 t304, .string t305, .int .i64 t306, .int .i64 t307, .string t308, .int .i64 t309, .int .i64 t310, .string t311, .int .i64 t312, .int .i64 t313, .string t314]) (ok := fun _ => True) (okp := fun _ => True) ?hr ?hp (fun _ hk => hk) trivial (Below.refl _ _) (Nat.le_refl _) (by simp) ?_; (case hd => rfl); (case hg => rfl); (case hr => first | (go_simp; done) | (go_simp; rfl)); (case hp => exact (Reps.c3 (show Kd.M k37 _ _ _ (⟨t303, t304, t305⟩ : S37) [.int .i64 t303, .int .i64 t304, .string t305] from (k37_mkM _ _ _ (⟨t303, t304, t305⟩ : S37) )) (Reps.c3 (show Kd.M k37 _ _ _ (⟨t306, t307, t308⟩ : S37) [.int .i64 t306, .int .i64 t307, .string t308] from (k37_mkM _ _ _ (⟨t306, t307, t308⟩ : S37) )) (Reps.c3 (show Kd.M k37 _ _ _ (⟨t309, t310, t311⟩ : S37) [.int .i64 t309, .int .i64 t310, .string t311] from (k37_mkM _ _ _ (⟨t309, t310, t311⟩ : S37) )) (Reps.c3 (show Kd.M k37 _ _ _ (⟨t312, t313, t314⟩ : S37) [.int .i64 t312, .int .i64 t313, .string t314] from (k37_mkM _ _ _ (⟨t312, t313, t314⟩ : S37) )) (Reps.none _ _)))))); intro v316 w79 ho80 hb hg_ hnew_; clear hg_ hnew_; (first | rw [← Ny315.out] at ho80 | (simp only [Int.reduceToNat] at ho80; rw [← Ny315.out] at ho80)); have n0_ := Aside0.mk (Kd.R_elder' (by (with_reducible repeat (first | apply Kd.R_alloc | apply Kd.R_drewN | apply Kd.R_drew)); exact HO_9.out) (Kd.R_base ho80) hb); have n1_ := Aside0.mk (Kd.R_lower (Kd.R_new' ho80 (Kd.R_lt (by (with_reducible repeat (first | apply Kd.R_alloc | apply Kd.R_drewN | apply Kd.R_drew)); exact HO_9.out))) (below_size (by repeat (first | (with_reducible first | exact HB.out | apply below_alloc | apply pw_below_drewN | apply below_drew1) | exact HB.out)))); have n2_ := Aside0.mk (below_step (by repeat (first | (with_reducible first | exact HB.out | apply below_alloc | apply pw_below_drewN | apply below_drew1) | exact HB.out)) hb); clear HO_9; clear HB; have HO_9 := n0_; have HO317 := n1_; have HB := n2_; clear n0_ n1_ n2_; clear hb ho80) | ((with_reducible refine gate_callee (f := 22) rfl ?_); refine goesL_ (some 48) rfl rfl Tryd.func22 (by kernel_rfl) rfl #[.bool (decide (a2 > 0))] rfl (by (try simp only [List.map_toArray, List.map_cons, List.map_nil]); first | done | rfl | (simp only [List.length_drop, List.length_take]; rfl)) ?_; (with_reducible refine (weighhouseref02_Truth.calls (decide (a2 > 0)) t318 t319 t320 _ A25.out).mono ?_); rintro e w81 ⟨rfl, hb⟩; refine ⟨_, rfl, ?_⟩; have n0_ := Aside0.mk (Kd.R_below (by (with_reducible repeat (first | apply Kd.R_alloc | apply Kd.R_drewN | apply Kd.R_drew)); exact HO_9.out) hb); have n1_ := Aside0.mk (Kd.R_below (by (with_reducible repeat (first | apply Kd.R_alloc | apply Kd.R_drewN | apply Kd.R_drew)); exact HO317.out) hb); have n2_ := Aside0.mk (below_step (by repeat (first | (with_reducible first | exact HB.out | apply below_alloc | apply pw_below_drewN | apply below_drew1) | exact HB.out)) hb); clear HO_9; clear HO317; clear HB; have HO_9 := n0_; have HO317 := n1_; have HB := n2_; clear n0_ n1_ n2_; (try clear hb); (try clear hb2); (try clear hk); (try clear hi)) | ((with_reducible refine gate_callee (f := 23) rfl ?_); refine goesL_ (some 50) rfl rfl Tryd.func23 (by kernel_rfl) rfl #[.int .i64 a2] rfl (by (try simp only [List.map_toArray, List.map_cons, List.map_nil]); first | done | rfl | (simp only [List.length_drop, List.length_take]; rfl)) ?_; (with_reducible refine (weighhouseref02_Zero.calls a2 t321 t322 t323 _ A26.out).mono ?_); rintro e w82 ⟨rfl, hb⟩; refine ⟨_, rfl, ?_⟩; have n0_ := Aside0.mk (Kd.R_below (by (with_reducible repeat (first | apply Kd.R_alloc | apply Kd.R_drewN | apply Kd.R_drew)); exact HO_9.out) hb); have n1_ := Aside0.mk (Kd.R_below (by (with_reducible repeat (first | apply Kd.R_alloc | apply Kd.R_drewN | apply Kd.R_drew)); exact HO317.out) hb); have n2_ := Aside0.mk (below_step (by repeat (first | (with_reducible first | exact HB.out | apply below_alloc | apply pw_below_drewN | apply below_drew1) | exact HB.out)) hb); clear HO_9; clear HO317; clear HB; have HO_9 := n0_; have HO317 := n1_; have HB := n2_; clear n0_ n1_ n2_; (try clear hb); (try clear hb2); (try clear hk); (try clear hi)) | ((with_reducible refine gate_dst (N := 51) rfl ?_); (try (refine gate_guard (by rfl) ?_; dsimp only)); refine Kd.R_lit k37 _ 37 ?hg (N := 51) ?hd (xs := ([(⟨1, a2, (⟨#[]⟩ : ByteArray)⟩ : S37), (⟨2, 0, a3⟩ : S37), (⟨t318, t319, t320⟩ : S37), (⟨t321, t322, t323⟩ : S37)] : List (S37))) (inner := [.int .i64 1, .int .i64 a2, .string (⟨#[]⟩ : ByteArray), .int .i64 2, .int .i64 0, .string a3, .int .i64 t318, .int .i64 t319, .string t320, .int .i64 t321, .int .i64 t322, .string t323]) (ok := fun _ => True) (okp := fun _ => True) ?hr ?hp (fun _ hk => hk) trivial (Below.refl _ _) (Nat.le_refl _) (by simp) ?_; (case hd => rfl); (case hg => rfl); (case hr => first | (go_simp; done) | (go_simp; rfl)); (case hp => exact (Reps.c3 (show Kd.M k37 _ _ _ (⟨1, a2, (⟨#[]⟩ : ByteArray)⟩ : S37) [.int .i64 1, .int .i64 a2, .string (⟨#[]⟩ : ByteArray)] from (k37_mkM _ _ _ (⟨1, a2, (⟨#[]⟩ : ByteArray)⟩ : S37) )) (Reps.c3 (show Kd.M k37 _ _ _ (⟨2, 0, a3⟩ : S37) [.int .i64 2, .int .i64 0, .string a3] from (k37_mkM _ _ _ (⟨2, 0, a3⟩ : S37) )) (Reps.c3 (show Kd.M k37 _ _ _ (⟨t318, t319, t320⟩ : S37) [.int .i64 t318, .int .i64 t319, .string t320] from (k37_mkM _ _ _ (⟨t318, t319, t320⟩ : S37) )) (Reps.c3 (show Kd.M k37 _ _ _ (⟨t321, t322, t323⟩ : S37) [.int .i64 t321, .int .i64 t322, .string t323] from (k37_mkM _ _ _ (⟨t321, t322, t323⟩ : S37) )) (Reps.none _ _)))))); intro v325 w83 ho84 hb hg_ hnew_; clear hg_ hnew_; (first | rw [← Ny324.out] at ho84 | (simp only [Int.reduceToNat] at ho84; rw [← Ny324.out] at ho84)); have n0_ := Aside0.mk (Kd.R_elder' (by (with_reducible repeat (first | apply Kd.R_alloc | apply Kd.R_drewN | apply Kd.R_drew)); exact HO_9.out) (Kd.R_base ho84) hb); have n1_ := Aside0.mk (Kd.R_elder' (by (with_reducible repeat (first | apply Kd.R_alloc | apply Kd.R_drewN | apply Kd.R_drew)); exact HO317.out) (Kd.R_base ho84) hb); have n2_ := Aside0.mk (Kd.R_lower (Kd.R_new' (Kd.R_new' ho84 (Kd.R_lt (by (with_reducible repeat (first | apply Kd.R_alloc | apply Kd.R_drewN | apply Kd.R_drew)); exact HO_9.out))) (Kd.R_lt (by (with_reducible repeat (first | apply Kd.R_alloc | apply Kd.R_drewN | apply Kd.R_drew)); exact HO317.out))) (below_size (by repeat (first | (with_reducible first | exact HB.out | apply below_alloc | apply pw_below_drewN | apply below_drew1) | exact HB.out)))); have n3_ := Aside0.mk (below_step (by repeat (first | (with_reducible first | exact HB.out | apply below_alloc | apply pw_below_drewN | apply below_drew1) | exact HB.out)) hb); clear HO_9; clear HO317; clear HB; have HO_9 := n0_; have HO317 := n1_; have HO326 := n2_; have HB := n3_; clear n0_ n1_ n2_ n3_; clear hb ho84; obtain ⟨Ao85, co85, eo85⟩ := Kd.R_slice HO317.out; subst eo85; obtain ⟨Ao86, co86, eo86⟩ := Kd.R_slice HO326.out; subst eo86) | ((with_reducible refine gate_callee (f := 12) rfl ?_); refine goesL_ (some 54) rfl rfl Tryd.func12 (by kernel_rfl) rfl #[.slice Ao85 y315.length co85, .slice Ao86 y324.length co86] rfl (by (try simp only [List.map_toArray, List.map_cons, List.map_nil]); first | done | rfl | (simp only [List.length_drop, List.length_take]; rfl)) ?_; (with_reducible refine (weighhouselaw02_Same.calls k1 _ _ y315 _ _ y324 true _ ?side1 ?side2 ?side3 ?side4 A27.out).mono ?_); (case side1 => repeat (first | exact (Kd.R_reads' HO317.out).2.2 | (with_reducible refine Kd.C_alloc ?_ _) | (with_reducible refine Kd.C_drewN ?_ _) | (with_reducible refine Kd.C_drew ?_))); (case side2 => exact (Kd.R_reads' HO317.out).2.1); (case side3 => repeat (first | exact (Kd.R_reads' HO326.out).2.2 | (with_reducible refine Kd.C_alloc ?_ _) | (with_reducible refine Kd.C_drewN ?_ _) | (with_reducible refine Kd.C_drew ?_))); (case side4 => exact (Kd.R_reads' HO326.out).2.1); rintro e w' ⟨rfl, ⟨nd, rfl⟩⟩; refine ⟨_, rfl, ?_⟩) | ((with_reducible refine gate_dst (N := 57) rfl ?_); (try (refine gate_guard (by rfl) ?_; dsimp only)); refine Kd.R_lit (Kd.int .i64) _ 3 ?hg (N := 57) ?hd (xs := ([] : List Int)) (inner := []) (ok := fun _ => True) (okp := fun _ => True) ?hr ?hp (fun _ hk => hk) trivial (Below.refl _ _) (Nat.le_refl _) (by simp) ?_; (case hd => rfl); (case hg => rfl); (case hr => first | (go_simp; done) | (go_simp; rfl)); (case hp => exact (Reps.none _ _)); intro v329 w87 ho88 hb hg_ hnew_; clear hg_ hnew_; (first | rw [← Ny328.out] at ho88 | (simp only [Int.reduceToNat] at ho88; rw [← Ny328.out] at ho88)); have n0_ := Aside0.mk (Kd.R_below (by (with_reducible repeat (first | apply Kd.R_alloc | apply Kd.R_drewN | apply Kd.R_drew)); exact HO_9.out) hb); have n1_ := Aside0.mk (Kd.R_below (by (with_reducible repeat (first | apply Kd.R_alloc | apply Kd.R_drewN | apply Kd.R_drew)); exact HO317.out) hb); have n2_ := Aside0.mk (Kd.R_below (by (with_reducible repeat (first | apply Kd.R_alloc | apply Kd.R_drewN | apply Kd.R_drew)); exact HO326.out) hb); have n3_ := Aside0.mk (Kd.R_lower ho88 (below_size (by repeat (first | (with_reducible first | exact HB.out | apply below_alloc | apply pw_below_drewN | apply below_drew1) | exact HB.out)))); have n4_ := Aside0.mk (below_step (by repeat (first | (with_reducible first | exact HB.out | apply below_alloc | apply pw_below_drewN | apply below_drew1) | exact HB.out)) hb); clear HO_9; clear HO317; clear HO326; clear HB; have HO_9 := n0_; have HO317 := n1_; have HO326 := n2_; have HO330 := n3_; have HB := n4_; clear n0_ n1_ n2_ n3_ n4_; clear hb ho88) | ((with_reducible refine gate_builtin (b := .append) (xs := #[.tmp 57, .tmp 58]) rfl ?_); (try (refine gate_guard (by rfl) ?_; dsimp only)); at_builtin; refine Kd.R_append_rows (Kd.int .i64) (w0 := w) w.heap.size rfl (.tmp 57) (.tmp 58) 35 3 (.int .i64 0) 8 rfl Tryd.underlying35 info3 rfl (by decide) (by omega) v329 y328 l1 _ _ _ (fun _ => True) (fun _ => False) rfl rfl ?aO ?aR (fun _ _ h => h) (fun _ h => h.elim) ?aF ?aB ?aS ?aL ?_; (case aR => repeat (first | exact (Kd.C_below HR1.out HB.out) | (with_reducible refine Kd.C_alloc ?_ _) | (with_reducible refine Kd.C_drewN ?_ _) | (with_reducible refine Kd.C_drew ?_))); (case aB => exact (by repeat (first | (with_reducible first | exact HB.out | apply below_alloc | apply pw_below_drewN | apply below_drew1) | exact HB.out))); (case aF => exact (fun _ _ => trivial)); (case aO => exact (by (with_reducible repeat (first | apply Kd.R_alloc | apply Kd.R_drewN | apply Kd.R_drew)); exact HO330.out)); (case aS => exact (below_size (by repeat (first | (with_reducible first | exact HB.out | apply below_alloc | apply pw_below_drewN | apply below_drew1) | exact HB.out)))); (case aL => have := LMc29.out; omega); intro v332 w89 ho hb hg hat; rw [← Ny331.out] at ho; have n0_ := Aside0.mk (Kd.R_over' (by (with_reducible repeat (first | apply Kd.R_alloc | apply Kd.R_drewN | apply Kd.R_drew)); exact HO_9.out) (Kd.R_typed (by (with_reducible repeat (first | apply Kd.R_alloc | apply Kd.R_drewN | apply Kd.R_drew)); exact HO330.out)) (by decide) hg); have n1_ := Aside0.mk (Kd.R_over' (by (with_reducible repeat (first | apply Kd.R_alloc | apply Kd.R_drewN | apply Kd.R_drew)); exact HO317.out) (Kd.R_typed (by (with_reducible repeat (first | apply Kd.R_alloc | apply Kd.R_drewN | apply Kd.R_drew)); exact HO330.out)) (by decide) hg); have n2_ := Aside0.mk (Kd.R_over' (by (with_reducible repeat (first | apply Kd.R_alloc | apply Kd.R_drewN | apply Kd.R_drew)); exact HO326.out) (Kd.R_typed (by (with_reducible repeat (first | apply Kd.R_alloc | apply Kd.R_drewN | apply Kd.R_drew)); exact HO330.out)) (by decide) hg); have n3_ := Aside0.mk (hb); have n4_ := Aside0.mk (ho); clear HO_9; clear HO317; clear HO326; clear HB; clear HO330; have HO_9 := n0_; have HO317 := n1_; have HO326 := n2_; have HB := n3_; have HO333 := n4_; clear n0_ n1_ n2_ n3_ n4_; clear ho hb hg hat; obtain ⟨Ao90, co90, eo90⟩ := Kd.R_slice HO_9.out; subst eo90; obtain ⟨Ao91, co91, eo91⟩ := Kd.R_slice HO333.out; subst eo91) | (go_at_call 16; (with_reducible refine (value_Fits.calls k1 _ _ t296 _ _ y331 t334 _ ?side1 ?side2 ?side3 ?side4 A30.out).mono ?_); (case side1 => repeat (first | exact (Kd.R_reads' HO_9.out).2.2 | (with_reducible refine Kd.C_alloc ?_ _) | (with_reducible refine Kd.C_drewN ?_ _) | (with_reducible refine Kd.C_drew ?_))); (case side2 => exact (Kd.R_reads' HO_9.out).2.1); (case side3 => repeat (first | exact (Kd.R_reads' HO333.out).2.2 | (with_reducible refine Kd.C_alloc ?_ _) | (with_reducible refine Kd.C_drewN ?_ _) | (with_reducible refine Kd.C_drew ?_))); (case side4 => exact (Kd.R_reads' HO333.out).2.1); rintro e w92 ⟨rfl, hb⟩; have n0_ := Aside0.mk (Kd.R_below (by (with_reducible repeat (first | apply Kd.R_alloc | apply Kd.R_drewN | apply Kd.R_drew)); exact HO_9.out) hb); have n1_ := Aside0.mk (Kd.R_below (by (with_reducible repeat (first | apply Kd.R_alloc | apply Kd.R_drewN | apply Kd.R_drew)); exact HO317.out) hb); have n2_ := Aside0.mk (Kd.R_below (by (with_reducible repeat (first | apply Kd.R_alloc | apply Kd.R_drewN | apply Kd.R_drew)); exact HO326.out) hb); have n3_ := Aside0.mk (Kd.R_below (by (with_reducible repeat (first | apply Kd.R_alloc | apply Kd.R_drewN | apply Kd.R_drew)); exact HO333.out) hb); have n4_ := Aside0.mk (below_step (by repeat (first | (with_reducible first | exact HB.out | apply below_alloc | apply pw_below_drewN | apply below_drew1) | exact HB.out)) hb); clear HO_9; clear HO317; clear HO326; clear HO333; clear HB; have HO_9 := n0_; have HO317 := n1_; have HO326 := n2_; have HO333 := n3_; have HB := n4_; clear n0_ n1_ n2_ n3_ n4_; (try clear hb); (try clear hb2); (try clear hk); (try clear hi)) | (go_at_call 24; (with_reducible refine (weighhouseref02_Fits.calls k1 _ _ l0 _ _ l1 t335 _ ?side1 ?side2 ?side3 ?side4 A31.out).mono ?_); (case side1 => repeat (first | exact (Kd.C_below HR0.out HB.out) | (with_reducible refine Kd.C_alloc ?_ _) | (with_reducible refine Kd.C_drewN ?_ _) | (with_reducible refine Kd.C_drew ?_))); (case side2 => exact HC0.out); (case side3 => repeat (first | exact (Kd.C_below HR1.out HB.out) | (with_reducible refine Kd.C_alloc ?_ _) | (with_reducible refine Kd.C_drewN ?_ _) | (with_reducible refine Kd.C_drew ?_))); (case side4 => exact HC1.out); rintro e w93 ⟨rfl, hb⟩; have n0_ := Aside0.mk (Kd.R_below (by (with_reducible repeat (first | apply Kd.R_alloc | apply Kd.R_drewN | apply Kd.R_drew)); exact HO_9.out) hb); have n1_ := Aside0.mk (Kd.R_below (by (with_reducible repeat (first | apply Kd.R_alloc | apply Kd.R_drewN | apply Kd.R_drew)); exact HO317.out) hb); have n2_ := Aside0.mk (Kd.R_below (by (with_reducible repeat (first | apply Kd.R_alloc | apply Kd.R_drewN | apply Kd.R_drew)); exact HO326.out) hb); have n3_ := Aside0.mk (Kd.R_below (by (with_reducible repeat (first | apply Kd.R_alloc | apply Kd.R_drewN | apply Kd.R_drew)); exact HO333.out) hb); have n4_ := Aside0.mk (below_step (by repeat (first | (with_reducible first | exact HB.out | apply below_alloc | apply pw_below_drewN | apply below_drew1) | exact HB.out)) hb); clear HO_9; clear HO317; clear HO326; clear HO333; clear HB; have HO_9 := n0_; have HO317 := n1_; have HO326 := n2_; have HO333 := n3_; have HB := n4_; clear n0_ n1_ n2_ n3_ n4_; (try clear hb); (try clear hb2); (try clear hk); (try clear hi)))
              go_ret
              exact ⟨by first | rfl | (simp [errW_none, errW_some] <;> rfl) | (simp [*, errW_none, errW_some] <;> rfl), by repeat (first | (with_reducible first | exact HB.out | apply below_alloc | apply pw_below_drewN | apply below_drew1) | exact HB.out)⟩
          · rw [if_neg c29] at H
            exact absurd H (by simp)
        · replace c28 := Bool.eq_false_iff.mpr c28
          subst c28
          have H1 : (some false) = some r := by rw [if_neg (show ¬ (false = true) by decide)] at H; exact H
          clear H
          have H := H1
          clear H1
          obtain rfl := Option.some.inj H
          go_wp2_with (first | ((with_reducible refine gate_callee (f := 18) rfl ?_); refine goesL_ (some 33) rfl rfl Tryd.func18 (by kernel_rfl) rfl #[.int .i64 a2] rfl (by (try simp only [List.map_toArray, List.map_cons, List.map_nil]); first | done | rfl | (simp only [List.length_drop, List.length_take]; rfl)) ?_; (with_reducible refine (value_Number.calls a2 t303 t304 t305 _ A21.out).mono ?_); rintro e w94 ⟨rfl, hb⟩; refine ⟨_, rfl, ?_⟩; have n0_ := Aside0.mk (Kd.R_below (by (with_reducible repeat (first | apply Kd.R_alloc | apply Kd.R_drewN | apply Kd.R_drew)); exact HO_9.out) hb); have n1_ := Aside0.mk (below_step (by repeat (first | (with_reducible first | exact HB.out | apply below_alloc | apply pw_below_drewN | apply below_drew1) | exact HB.out)) hb); clear HO_9; clear HB; have HO_9 := n0_; have HB := n1_; clear n0_ n1_; (try clear hb); (try clear hb2); (try clear hk); (try clear hi)) | ((with_reducible refine gate_callee (f := 19) rfl ?_); refine goesL_ (some 35) rfl rfl Tryd.func19 (by kernel_rfl) rfl #[.string a3] rfl (by (try simp only [List.map_toArray, List.map_cons, List.map_nil]); first | done | rfl | (simp only [List.length_drop, List.length_take]; rfl)) ?_; (with_reducible refine (value_Text.calls a3 t306 t307 t308 _ A22.out).mono ?_); rintro e w95 ⟨rfl, hb⟩; refine ⟨_, rfl, ?_⟩; have n0_ := Aside0.mk (Kd.R_below (by (with_reducible repeat (first | apply Kd.R_alloc | apply Kd.R_drewN | apply Kd.R_drew)); exact HO_9.out) hb); have n1_ := Aside0.mk (below_step (by repeat (first | (with_reducible first | exact HB.out | apply below_alloc | apply pw_below_drewN | apply below_drew1) | exact HB.out)) hb); clear HO_9; clear HB; have HO_9 := n0_; have HB := n1_; clear n0_ n1_; (try clear hb); (try clear hb2); (try clear hk); (try clear hi)) | ((with_reducible refine gate_callee (f := 20) rfl ?_); refine goesL_ (some 38) rfl rfl Tryd.func20 (by kernel_rfl) rfl #[.bool (decide (a2 > 0))] rfl (by (try simp only [List.map_toArray, List.map_cons, List.map_nil]); first | done | rfl | (simp only [List.length_drop, List.length_take]; rfl)) ?_; (with_reducible refine (value_Truth.calls (decide (a2 > 0)) t309 t310 t311 _ A23.out).mono ?_); rintro e w96 ⟨rfl, hb⟩; refine ⟨_, rfl, ?_⟩; have n0_ := Aside0.mk (Kd.R_below (by (with_reducible repeat (first | apply Kd.R_alloc | apply Kd.R_drewN | apply Kd.R_drew)); exact HO_9.out) hb); have n1_ := Aside0.mk (below_step (by repeat (first | (with_reducible first | exact HB.out | apply below_alloc | apply pw_below_drewN | apply below_drew1) | exact HB.out)) hb); clear HO_9; clear HB; have HO_9 := n0_; have HB := n1_; clear n0_ n1_; (try clear hb); (try clear hb2); (try clear hk); (try clear hi)) | ((with_reducible refine gate_callee (f := 21) rfl ?_); refine goesL_ (some 40) rfl rfl Tryd.func21 (by kernel_rfl) rfl #[.int .i64 a2] rfl (by (try simp only [List.map_toArray, List.map_cons, List.map_nil]); first | done | rfl | (simp only [List.length_drop, List.length_take]; rfl)) ?_; (with_reducible refine (value_Zero.calls a2 t312 t313 t314 _ A24.out).mono ?_); rintro e w97 ⟨rfl, hb⟩; refine ⟨_, rfl, ?_⟩; have n0_ := Aside0.mk (Kd.R_below (by (with_reducible repeat (first | apply Kd.R_alloc | apply Kd.R_drewN | apply Kd.R_drew)); exact HO_9.out) hb); have n1_ := Aside0.mk (below_step (by repeat (first | (with_reducible first | exact HB.out | apply below_alloc | apply pw_below_drewN | apply below_drew1) | exact HB.out)) hb); clear HO_9; clear HB; have HO_9 := n0_; have HB := n1_; clear n0_ n1_; (try clear hb); (try clear hb2); (try clear hk); (try clear hi)) | ((with_reducible refine gate_dst (N := 41) rfl ?_); (try (refine gate_guard (by rfl) ?_; dsimp only)); refine Kd.R_lit k37 _ 37 ?hg (N := 41) ?hd (xs := ([(⟨t303, t304, t305⟩ : S37), (⟨t306, t307, t308⟩ : S37), (⟨t309, t310, t311⟩ : S37), (⟨t312, t313, t314⟩ : S37)] : List (S37))) (inner := [.int .i64 t303, .int .i64 t304, .string t305, .int .i64 t306, .int .i64 t307, .string t308, .int .i64 t309, .int .i64 t310, .string t311, .int .i64 t312, .int .i64 t313, .string t314]) (ok := fun _ => True) (okp := fun _ => True) ?hr ?hp (fun _ hk => hk) trivial (Below.refl _ _) (Nat.le_refl _) (by simp) ?_; (case hd => rfl); (case hg => rfl); (case hr => first | (go_simp; done) | (go_simp; rfl)); (case hp => exact (Reps.c3 (show Kd.M k37 _ _ _ (⟨t303, t304, t305⟩ : S37) [.int .i64 t303, .int .i64 t304, .string t305] from (k37_mkM _ _ _ (⟨t303, t304, t305⟩ : S37) )) (Reps.c3 (show Kd.M k37 _ _ _ (⟨t306, t307, t308⟩ : S37) [.int .i64 t306, .int .i64 t307, .string t308] from (k37_mkM _ _ _ (⟨t306, t307, t308⟩ : S37) )) (Reps.c3 (show Kd.M k37 _ _ _ (⟨t309, t310, t311⟩ : S37) [.int .i64 t309, .int .i64 t310, .string t311] from (k37_mkM _ _ _ (⟨t309, t310, t311⟩ : S37) )) (Reps.c3 (show Kd.M k37 _ _ _ (⟨t312, t313, t314⟩ : S37) [.int .i64 t312, .int .i64 t313, .string t314] from (k37_mkM _ _ _ (⟨t312, t313, t314⟩ : S37) )) (Reps.none _ _)))))); intro v316 w98 ho99 hb hg_ hnew_; clear hg_ hnew_; (first | rw [← Ny315.out] at ho99 | (simp only [Int.reduceToNat] at ho99; rw [← Ny315.out] at ho99)); have n0_ := Aside0.mk (Kd.R_elder' (by (with_reducible repeat (first | apply Kd.R_alloc | apply Kd.R_drewN | apply Kd.R_drew)); exact HO_9.out) (Kd.R_base ho99) hb); have n1_ := Aside0.mk (Kd.R_lower (Kd.R_new' ho99 (Kd.R_lt (by (with_reducible repeat (first | apply Kd.R_alloc | apply Kd.R_drewN | apply Kd.R_drew)); exact HO_9.out))) (below_size (by repeat (first | (with_reducible first | exact HB.out | apply below_alloc | apply pw_below_drewN | apply below_drew1) | exact HB.out)))); have n2_ := Aside0.mk (below_step (by repeat (first | (with_reducible first | exact HB.out | apply below_alloc | apply pw_below_drewN | apply below_drew1) | exact HB.out)) hb); clear HO_9; clear HB; have HO_9 := n0_; have HO317 := n1_; have HB := n2_; clear n0_ n1_ n2_; clear hb ho99) | ((with_reducible refine gate_callee (f := 22) rfl ?_); refine goesL_ (some 48) rfl rfl Tryd.func22 (by kernel_rfl) rfl #[.bool (decide (a2 > 0))] rfl (by (try simp only [List.map_toArray, List.map_cons, List.map_nil]); first | done | rfl | (simp only [List.length_drop, List.length_take]; rfl)) ?_; (with_reducible refine (weighhouseref02_Truth.calls (decide (a2 > 0)) t318 t319 t320 _ A25.out).mono ?_); rintro e w100 ⟨rfl, hb⟩; refine ⟨_, rfl, ?_⟩; have n0_ := Aside0.mk (Kd.R_below (by (with_reducible repeat (first | apply Kd.R_alloc | apply Kd.R_drewN | apply Kd.R_drew)); exact HO_9.out) hb); have n1_ := Aside0.mk (Kd.R_below (by (with_reducible repeat (first | apply Kd.R_alloc | apply Kd.R_drewN | apply Kd.R_drew)); exact HO317.out) hb); have n2_ := Aside0.mk (below_step (by repeat (first | (with_reducible first | exact HB.out | apply below_alloc | apply pw_below_drewN | apply below_drew1) | exact HB.out)) hb); clear HO_9; clear HO317; clear HB; have HO_9 := n0_; have HO317 := n1_; have HB := n2_; clear n0_ n1_ n2_; (try clear hb); (try clear hb2); (try clear hk); (try clear hi)) | ((with_reducible refine gate_callee (f := 23) rfl ?_); refine goesL_ (some 50) rfl rfl Tryd.func23 (by kernel_rfl) rfl #[.int .i64 a2] rfl (by (try simp only [List.map_toArray, List.map_cons, List.map_nil]); first | done | rfl | (simp only [List.length_drop, List.length_take]; rfl)) ?_; (with_reducible refine (weighhouseref02_Zero.calls a2 t321 t322 t323 _ A26.out).mono ?_); rintro e w101 ⟨rfl, hb⟩; refine ⟨_, rfl, ?_⟩; have n0_ := Aside0.mk (Kd.R_below (by (with_reducible repeat (first | apply Kd.R_alloc | apply Kd.R_drewN | apply Kd.R_drew)); exact HO_9.out) hb); have n1_ := Aside0.mk (Kd.R_below (by (with_reducible repeat (first | apply Kd.R_alloc | apply Kd.R_drewN | apply Kd.R_drew)); exact HO317.out) hb); have n2_ := Aside0.mk (below_step (by repeat (first | (with_reducible first | exact HB.out | apply below_alloc | apply pw_below_drewN | apply below_drew1) | exact HB.out)) hb); clear HO_9; clear HO317; clear HB; have HO_9 := n0_; have HO317 := n1_; have HB := n2_; clear n0_ n1_ n2_; (try clear hb); (try clear hb2); (try clear hk); (try clear hi)) | ((with_reducible refine gate_dst (N := 51) rfl ?_); (try (refine gate_guard (by rfl) ?_; dsimp only)); refine Kd.R_lit k37 _ 37 ?hg (N := 51) ?hd (xs := ([(⟨1, a2, (⟨#[]⟩ : ByteArray)⟩ : S37), (⟨2, 0, a3⟩ : S37), (⟨t318, t319, t320⟩ : S37), (⟨t321, t322, t323⟩ : S37)] : List (S37))) (inner := [.int .i64 1, .int .i64 a2, .string (⟨#[]⟩ : ByteArray), .int .i64 2, .int .i64 0, .string a3, .int .i64 t318, .int .i64 t319, .string t320, .int .i64 t321, .int .i64 t322, .string t323]) (ok := fun _ => True) (okp := fun _ => True) ?hr ?hp (fun _ hk => hk) trivial (Below.refl _ _) (Nat.le_refl _) (by simp) ?_; (case hd => rfl); (case hg => rfl); (case hr => first | (go_simp; done) | (go_simp; rfl)); (case hp => exact (Reps.c3 (show Kd.M k37 _ _ _ (⟨1, a2, (⟨#[]⟩ : ByteArray)⟩ : S37) [.int .i64 1, .int .i64 a2, .string (⟨#[]⟩ : ByteArray)] from (k37_mkM _ _ _ (⟨1, a2, (⟨#[]⟩ : ByteArray)⟩ : S37) )) (Reps.c3 (show Kd.M k37 _ _ _ (⟨2, 0, a3⟩ : S37) [.int .i64 2, .int .i64 0, .string a3] from (k37_mkM _ _ _ (⟨2, 0, a3⟩ : S37) )) (Reps.c3 (show Kd.M k37 _ _ _ (⟨t318, t319, t320⟩ : S37) [.int .i64 t318, .int .i64 t319, .string t320] from (k37_mkM _ _ _ (⟨t318, t319, t320⟩ : S37) )) (Reps.c3 (show Kd.M k37 _ _ _ (⟨t321, t322, t323⟩ : S37) [.int .i64 t321, .int .i64 t322, .string t323] from (k37_mkM _ _ _ (⟨t321, t322, t323⟩ : S37) )) (Reps.none _ _)))))); intro v325 w102 ho103 hb hg_ hnew_; clear hg_ hnew_; (first | rw [← Ny324.out] at ho103 | (simp only [Int.reduceToNat] at ho103; rw [← Ny324.out] at ho103)); have n0_ := Aside0.mk (Kd.R_elder' (by (with_reducible repeat (first | apply Kd.R_alloc | apply Kd.R_drewN | apply Kd.R_drew)); exact HO_9.out) (Kd.R_base ho103) hb); have n1_ := Aside0.mk (Kd.R_elder' (by (with_reducible repeat (first | apply Kd.R_alloc | apply Kd.R_drewN | apply Kd.R_drew)); exact HO317.out) (Kd.R_base ho103) hb); have n2_ := Aside0.mk (Kd.R_lower (Kd.R_new' (Kd.R_new' ho103 (Kd.R_lt (by (with_reducible repeat (first | apply Kd.R_alloc | apply Kd.R_drewN | apply Kd.R_drew)); exact HO_9.out))) (Kd.R_lt (by (with_reducible repeat (first | apply Kd.R_alloc | apply Kd.R_drewN | apply Kd.R_drew)); exact HO317.out))) (below_size (by repeat (first | (with_reducible first | exact HB.out | apply below_alloc | apply pw_below_drewN | apply below_drew1) | exact HB.out)))); have n3_ := Aside0.mk (below_step (by repeat (first | (with_reducible first | exact HB.out | apply below_alloc | apply pw_below_drewN | apply below_drew1) | exact HB.out)) hb); clear HO_9; clear HO317; clear HB; have HO_9 := n0_; have HO317 := n1_; have HO326 := n2_; have HB := n3_; clear n0_ n1_ n2_ n3_; clear hb ho103; obtain ⟨Ao104, co104, eo104⟩ := Kd.R_slice HO317.out; subst eo104; obtain ⟨Ao105, co105, eo105⟩ := Kd.R_slice HO326.out; subst eo105) | ((with_reducible refine gate_callee (f := 12) rfl ?_); refine goesL_ (some 54) rfl rfl Tryd.func12 (by kernel_rfl) rfl #[.slice Ao104 y315.length co104, .slice Ao105 y324.length co105] rfl (by (try simp only [List.map_toArray, List.map_cons, List.map_nil]); first | done | rfl | (simp only [List.length_drop, List.length_take]; rfl)) ?_; (with_reducible refine (weighhouselaw02_Same.calls k1 _ _ y315 _ _ y324 false _ ?side1 ?side2 ?side3 ?side4 A27.out).mono ?_); (case side1 => repeat (first | exact (Kd.R_reads' HO317.out).2.2 | (with_reducible refine Kd.C_alloc ?_ _) | (with_reducible refine Kd.C_drewN ?_ _) | (with_reducible refine Kd.C_drew ?_))); (case side2 => exact (Kd.R_reads' HO317.out).2.1); (case side3 => repeat (first | exact (Kd.R_reads' HO326.out).2.2 | (with_reducible refine Kd.C_alloc ?_ _) | (with_reducible refine Kd.C_drewN ?_ _) | (with_reducible refine Kd.C_drew ?_))); (case side4 => exact (Kd.R_reads' HO326.out).2.1); rintro e w' ⟨rfl, ⟨nd, rfl⟩⟩; refine ⟨_, rfl, ?_⟩))
          go_ret
          exact ⟨by first | rfl | (simp [errW_none, errW_some] <;> rfl) | (simp [*, errW_none, errW_some] <;> rfl), by repeat (first | (with_reducible first | exact HB.out | apply below_alloc | apply pw_below_drewN | apply below_drew1) | exact HB.out)⟩

end Go.Proofs.YtblaibigjhlblaaDoor.Q
end

section
/- what the readings of the parameters of ValueWhich give -/
set_option linter.unusedVariables false
set_option linter.unusedSimpArgs false
namespace Go.Proofs.YtblaibigjhlblaaDoor.OpValueWhich
open Go.RowKit Go.Proofs.YtblaibigjhlblaaDoorW.PrintWords Go.Proofs.YtblaibigjhlblaaDoorW.Hb Go.Proofs.YtblaibigjhlblaaDoorW.Ho Go.Proofs.YtblaibigjhlblaaDoor.Q

theorem opens_slice' {P : Program} {t : TypeId} {α : Type} {d : Kd α} {e B : Nat} {Q : α → Prop} (ht : P.underlying t = some (.slice e)) (hs : P.cellsOf e = d.sz) (hB : P.bytesOf e = B) (hp : Opens P d e Q) :
    Opens P (Kd.slice e d) t (fun xs => xs.length * B ≤ reachBytes ∧ xs.length ≤ maxLen ∧ ∀ x ∈ xs, Q x) := by
  subst hB
  exact opens_slice ht hs hp
def QS37 (x : S37) : Prop := ((Lit.int .i64 (x.f0)).wf = true) ∧ ((Lit.int .i64 (x.f1)).wf = true) ∧ ((x.f2).size ≤ reachBytes)
theorem open_S37 : Opens Tryd.prog k37 37 QS37 := by
  intro H enc w base spare held fuel cs x h hw
  obtain ⟨xs, n, _, hx, hl, hxl, hf⟩ := DataW.trod_struct Tryd.underlying37 h
  rw [show Tryd.prog.cellsOf 37 = 3 from by kernel_rfl] at hl
  obtain ⟨c0, c1, c2, rfl⟩ : ∃ c0 c1 c2, cs = [c0, c1, c2] := by
    clear hf hx h
    match cs, hl with
    | [c0, c1, c2], _ => exact ⟨c0, c1, c2, rfl⟩
  obtain ⟨y0, y1, y2, rfl⟩ : ∃ y0 y1 y2, xs = [y0, y1, y2] := by
    have hxl2 : xs.length = 3 := hxl
    clear hxl hf hx
    match xs, hxl2 with
    | [y0, y1, y2], _ => exact ⟨y0, y1, y2, rfl⟩
  subst hx
  have g0 : DataW.trod enc Tryd.prog w base spare held n 3 (([c0, c1, c2].drop 0).take (Tryd.prog.cellsOf 3)) = some y0 := hf 0 _ rfl
  rw [show Tryd.prog.cellsOf 3 = 1 from by kernel_rfl] at g0
  replace g0 : DataW.trod enc Tryd.prog w base spare held n 3 [c0] = some y0 := g0
  obtain ⟨v0, K0, q0⟩ := (opens_int Tryd.underlying3) enc w base spare held n _ _ g0 (fun m hm => hw m (weights_field (j := 0) (tj := 3) Tryd.underlying37 rfl rfl m hm))
  have g1 : DataW.trod enc Tryd.prog w base spare held n 3 (([c0, c1, c2].drop 1).take (Tryd.prog.cellsOf 3)) = some y1 := hf 1 _ rfl
  rw [show Tryd.prog.cellsOf 3 = 1 from by kernel_rfl] at g1
  replace g1 : DataW.trod enc Tryd.prog w base spare held n 3 [c1] = some y1 := g1
  obtain ⟨v1, K1, q1⟩ := (opens_int Tryd.underlying3) enc w base spare held n _ _ g1 (fun m hm => hw m (weights_field (j := 1) (tj := 3) Tryd.underlying37 rfl rfl m hm))
  have g2 : DataW.trod enc Tryd.prog w base spare held n 9 (([c0, c1, c2].drop 2).take (Tryd.prog.cellsOf 9)) = some y2 := hf 2 _ rfl
  rw [show Tryd.prog.cellsOf 9 = 1 from by kernel_rfl] at g2
  replace g2 : DataW.trod enc Tryd.prog w base spare held n 9 [c2] = some y2 := g2
  obtain ⟨v2, K2, q2⟩ := (opens_string Tryd.underlying9) enc w base spare held n _ _ g2 (fun m hm => hw m (weights_field (j := 2) (tj := 9) Tryd.underlying37 rfl rfl m hm))
  exact ⟨⟨v0, v1, v2⟩, ⟨[c0], [c1, c2], rfl, K0, ⟨[c1], [c2], rfl, K1, K2⟩⟩, ⟨q0, q1, q2⟩⟩
end Go.Proofs.YtblaibigjhlblaaDoor.OpValueWhich
end

section
/- the pure statement of ValueWhich -/
namespace Go.Proofs.YtblaibigjhlblaaDoor.PuValueWhich
open Go.RowKit Go.Proofs.YtblaibigjhlblaaDoorW.PrintWords Go.Proofs.YtblaibigjhlblaaDoorW.Hb Go.Proofs.YtblaibigjhlblaaDoorW.Ho Go.Proofs.YtblaibigjhlblaaDoor.Q Go.Proofs.YtblaibigjhlblaaDoor.OpValueWhich
def Pure : Prop := ∀ (x0 : List (S37)) (x1 : List (Int)) (x2 : Int) (x3 : ByteArray), ((x0).length * 32 ≤ reachBytes ∧ (x0).length ≤ maxLen ∧ ∀ y ∈ (x0), QS37 (y)) → ((x1).length * 8 ≤ reachBytes ∧ (x1).length ≤ maxLen ∧ ∀ y ∈ (x1), (Lit.int .i64 (y)).wf = true) → (Lit.int .i64 (x2)).wf = true → (x3).size ≤ reachBytes → ∃ k, weighhouselaw02_ValueWhich.f k x0 x1 x2 x3 = some true
end Go.Proofs.YtblaibigjhlblaaDoor.PuValueWhich
end

section
/- ValueWhich: the pure statement, proved: the checks agree with the document's; what the makers make is what the document says -/
set_option linter.unusedVariables false
set_option linter.unusedSimpArgs false
namespace Go.Proofs.YtblaibigjhlblaaDoor.PuValueWhich
open Go.RowKit Go.Proofs.YtblaibigjhlblaaDoorW.PrintWords Go.Proofs.YtblaibigjhlblaaDoorW.Hb Go.Proofs.YtblaibigjhlblaaDoorW.Ho Go.Proofs.YtblaibigjhlblaaDoor.Q Go.Proofs.YtblaibigjhlblaaDoor.OpValueWhich

theorem w64 {x : Int} (h0 : -9223372036854775808 ≤ x) (h1 : x ≤ 9223372036854775807) : wrap64 x = x := by unfold wrap64; omega
def allF (p : Nat → Bool) : Nat → Nat → Bool
  | 0, _ => true
  | d + 1, i => if p i = true then allF p d (i + 1) else false
theorem allF_true {p : Nat → Bool} (n : Nat) (hp : ∀ i, i < n → p i = true) : ∀ d i, i + d = n → allF p d i = true := by
  intro d
  induction d with
  | zero => intro i _; rfl
  | succ d ih =>
    intro i hi
    show (if p i = true then allF p d (i + 1) else false) = true
    rw [if_pos (hp i (by omega))]
    exact ih (i + 1) (by omega)
theorem scan_ev (g : Nat → Int → Option Bool) (n : Nat) (p : Nat → Bool)
    (hs : ∀ k (i : Nat), i < n → g (k + 1) (i : Int) = if p i = true then g k ((i + 1 : Nat) : Int) else some false)
    (he : ∀ k, g (k + 1) (n : Int) = some true) : ∀ d i, i + d = n → Ev (fun k => g k (i : Int)) (allF p d i) := by
  intro d
  induction d with
  | zero =>
    intro i hi
    obtain rfl : i = n := hi
    exact Ev.step (f := fun _ => some true) (fun k => he k) (Ev.now _)
  | succ d ih =>
    intro i hi
    show Ev _ (if p i = true then allF p d (i + 1) else false)
    by_cases hp : p i = true
    · rw [if_pos hp]
      refine Ev.step (f := fun k => g k ((i + 1 : Nat) : Int)) (fun k => ?_) (ih (i + 1) (by omega))
      show g (k + 1) (i : Int) = _
      rw [hs k i (by omega), if_pos hp]
    · rw [if_neg hp]
      refine Ev.step (f := fun _ => some false) (fun k => ?_) (Ev.now _)
      show g (k + 1) (i : Int) = _
      rw [hs k i (by omega), if_neg hp]
/-- A value is in order. -/
def okv (a b : Int) (s : ByteArray) : Bool :=
  if a = 1 then s.toList == [] else if a = 2 then (if b = 0 then decide ((s.size : Int) ≤ 256) else false) else if a = 3 then (if b = 0 then s.toList == [] else if b = 1 then s.toList == [] else false) else false
theorem emptyL : (⟨#[]⟩ : ByteArray).toList = [] := by rw [ByteArray.toList_eq]
theorem right_ok (a b : Int) (s : ByteArray) : value_Right.f a b s = some (okv a b s) := by
  unfold value_Right.f okv value_Number.f value_Text.f value_Truth.f
  by_cases h1 : a = 1
  · rw [if_pos h1, if_pos h1]
    simp [h1, emptyL]
  · rw [if_neg h1, if_neg h1]
    by_cases h2 : a = 2
    · rw [if_pos h2, if_pos h2]
      by_cases hb : b = 0
      · simp [h2, hb]
      · simp [h2, hb]
    · rw [if_neg h2, if_neg h2]
      by_cases h3 : a = 3
      · rw [if_pos h3, if_pos h3]
        by_cases hb : b = 0
        · by_cases hs : s.toList = [] <;> simp [h3, hb, hs, emptyL]
        · by_cases hb1 : b = 1
          · by_cases hs : s.toList = [] <;> simp [h3, hb1, hs, emptyL]
          · simp [h3, hb, hb1, emptyL]
      · rw [if_neg h3, if_neg h3]
theorem refRight_ok (a b : Int) (s : ByteArray) : weighhouseref02_Right.f a b s = some (okv a b s) := by
  unfold weighhouseref02_Right.f okv
  repeat' split
  all_goals first | rfl | (exfalso; omega)
def okS (s : S37) : Bool := okv s.f0 s.f1 s.f2
def allOk (l : List S37) : Bool := allF (fun i => okS (rd_T37 l (i : Int))) l.length 0
theorem all_ev (l : List S37) (hm : l.length ≤ 4611686018427387904) : Ev (fun k => value_all.f k l) (allOk l) := by
  refine scan_ev (fun k i => value_all.l0 k l (l.length : Int) i) l.length _ (fun k i hi => ?_) (fun k => ?_) l.length 0 (by omega)
  · simp only [value_all.l0]
    rw [if_pos (by omega), if_pos (by omega), if_pos (by omega), right_ok, Option.bind_some, w64 (by omega) (by omega)]
    rfl
  · simp only [value_all.l0]
    rw [if_neg (by omega)]
theorem refAll_ev (l : List S37) (hm : l.length ≤ 4611686018427387904) : Ev (fun k => weighhouseref02_All.f k l) (allOk l) := by
  refine scan_ev (fun k i => weighhouseref02_All.l0 k l i) l.length _ (fun k i hi => ?_) (fun k => ?_) l.length 0 (by omega)
  · simp only [weighhouseref02_All.l0]
    rw [if_pos (by omega), if_pos (by omega), refRight_ok, Option.bind_some, w64 (by omega) (by omega)]
    rfl
  · simp only [weighhouseref02_All.l0]
    rw [if_neg (by omega)]
/-- The kinds are the ones asked for. -/
def fitsP (l : List S37) (t : List Int) (i : Nat) : Bool := decide ((rd_T37 l (i : Int)).f0 = rd t (i : Int))
def fits (l : List S37) (t : List Int) : Bool := if l.length = t.length then (if allOk l = true then allF (fitsP l t) l.length 0 else false) else false
theorem fits_ev (l : List S37) (t : List Int) (hm : l.length ≤ 4611686018427387904) : Ev (fun k => value_Fits.f k l t) (fits l t) := by
  unfold fits
  by_cases hl : l.length = t.length
  · rw [if_pos hl]
    refine Ev.congr (f := fun k => (value_all.f k l).bind fun q => value_Fits.j0 k l t (!q)) (fun k => ?_) (Ev.bind (all_ev l hm) ?_)
    · unfold value_Fits.f
      rw [if_pos (by omega)]
    · by_cases ha : allOk l = true
      · rw [if_pos ha]
        refine Ev.step (f := fun k => value_Fits.l0 k t l (l.length : Int) 0) (fun k => ?_) ?_
        · rw [ha]
          simp only [value_Fits.j0]
          rfl
        · refine scan_ev (fun k i => value_Fits.l0 k t l (l.length : Int) i) l.length _ (fun k i hi => ?_) (fun k => ?_) l.length 0 (by omega)
          · simp only [value_Fits.l0]
            rw [if_pos (by omega), if_pos (by omega), if_pos (by omega), if_pos (by omega), w64 (by omega) (by omega)]
            by_cases hq : (rd_T37 l (i : Int)).f0 = rd t (i : Int)
            · rw [if_pos hq, if_pos (show fitsP l t i = true from decide_eq_true hq)]; rfl
            · rw [if_neg hq, if_neg (show ¬ fitsP l t i = true from fun h => hq (of_decide_eq_true h))]
          · simp only [value_Fits.l0]
            rw [if_neg (by omega)]
      · rw [if_neg ha]
        have ha' : allOk l = false := by simpa using ha
        refine Ev.step (f := fun _ => some false) (fun k => ?_) (Ev.now _)
        rw [ha']
        simp only [value_Fits.j0]
        rfl
  · rw [if_neg hl]
    refine Ev.step (f := fun _ => some false) (fun k => ?_) (Ev.now _)
    unfold value_Fits.f
    rw [if_neg (by omega)]
    simp only [value_Fits.j0]
    rfl
theorem refFits_ev (l : List S37) (t : List Int) (hm : l.length ≤ 4611686018427387904) : Ev (fun k => weighhouseref02_Fits.f k l t) (fits l t) := by
  unfold fits
  by_cases hl : l.length = t.length
  · rw [if_pos hl]
    refine Ev.congr (f := fun k => (weighhouseref02_All.f k l).bind fun q => weighhouseref02_Fits.j0 k l t (!q)) (fun k => ?_) (Ev.bind (refAll_ev l hm) ?_)
    · unfold weighhouseref02_Fits.f
      rw [if_pos (by omega)]
    · by_cases ha : allOk l = true
      · rw [if_pos ha]
        refine Ev.step (f := fun k => weighhouseref02_Fits.l0 k l t 0) (fun k => ?_) ?_
        · rw [ha]
          simp only [weighhouseref02_Fits.j0]
          rfl
        · refine scan_ev (fun k i => weighhouseref02_Fits.l0 k l t i) l.length _ (fun k i hi => ?_) (fun k => ?_) l.length 0 (by omega)
          · simp only [weighhouseref02_Fits.l0]
            rw [if_pos (by omega), if_pos (by omega), if_pos (by omega), w64 (by omega) (by omega)]
            by_cases hq : (rd_T37 l (i : Int)).f0 = rd t (i : Int)
            · rw [if_pos hq, if_pos (show fitsP l t i = true from decide_eq_true hq)]; rfl
            · rw [if_neg hq, if_neg (show ¬ fitsP l t i = true from fun h => hq (of_decide_eq_true h))]
          · simp only [weighhouseref02_Fits.l0]
            rw [if_neg (by omega)]
      · rw [if_neg ha]
        have ha' : allOk l = false := by simpa using ha
        refine Ev.step (f := fun _ => some false) (fun k => ?_) (Ev.now _)
        rw [ha']
        simp only [weighhouseref02_Fits.j0]
        rfl
  · rw [if_neg hl]
    refine Ev.step (f := fun _ => some false) (fun k => ?_) (Ev.now _)
    unfold weighhouseref02_Fits.f
    rw [if_neg (by omega)]
    simp only [weighhouseref02_Fits.j0]
    rfl
theorem same_ev (l : List S37) (hm : l.length ≤ 4611686018427387904) : Ev (fun k => weighhouselaw02_Same.f k l l) true := by
  have h := scan_ev (fun k i => weighhouselaw02_Same.l0 k l l i) l.length (fun _ => true) (fun k i hi => ?_) (fun k => ?_) l.length 0 (by omega)
  · rw [allF_true l.length (fun _ _ => rfl) l.length 0 (by omega)] at h
    refine Ev.congr (fun k => ?_) h
    unfold weighhouselaw02_Same.f
    rw [if_pos rfl]
    rfl
  · simp only [weighhouselaw02_Same.l0]
    rw [if_pos (by omega), if_pos (by omega), if_pos (by omega), if_pos True.intro, if_pos True.intro, if_pos True.intro, w64 (by omega) (by omega), if_pos True.intro]
    rfl
  · simp only [weighhouselaw02_Same.l0]
    rw [if_neg (by omega)]
set_option maxRecDepth 100000 in
theorem knows_50 : weighhouselaw02_knows.f 50 = some true := by decide +kernel
theorem knows_ev : Ev (fun k => weighhouselaw02_knows.f k) true := Ev.of (fun k => weighhouselaw02_knows.mono k) knows_50
theorem zero_ok (x : Int) : value_Zero.f x = weighhouseref02_Zero.f x := by
  unfold value_Zero.f weighhouseref02_Zero.f
  repeat' split
  all_goals first | rfl | (exfalso; omega)
theorem truth_ok (b : Bool) : value_Truth.f b = weighhouseref02_Truth.f b := by cases b <;> rfl
theorem own_ok (l : List S37) (h : l.length < 4398046511104) : weighhouselaw02_Own.f l = some l := by
  unfold weighhouselaw02_Own.f
  rw [Option.bind_some, if_pos (by simpa using h)]
  rfl
theorem zero_some (x : Int) : ∃ a, weighhouseref02_Zero.f x = some a := by
  unfold weighhouseref02_Zero.f
  repeat' split
  all_goals exact ⟨_, rfl⟩
theorem pure : Pure := by
  intro x0 x1 x2 x3 h0 h1 h2 h3
  have b0 : x0.length < 4398046511104 := by have := h0.1; unfold reachBytes at this; omega
  have b1 : x1.length < 17592186044416 := by have := h1.1; unfold reachBytes at this; omega
  obtain ⟨z, hz⟩ := zero_some x2
  have loop : ∀ d i, i + d = x0.length → Ev (fun k => weighhouselaw02_ValueWhich.l0 k x0 x1 x2 x3 x0 (i : Int)) true := by
    intro d
    induction d with
    | zero =>
      intro i hi
      refine Ev.step (f := fun k => (weighhouselaw02_Same.f k [(⟨1, x2, ⟨#[]⟩⟩ : S37), ⟨2, 0, x3⟩, ⟨3, if decide (x2 > 0) = true then 1 else 0, ⟨#[]⟩⟩, ⟨z.1, z.2.1, z.2.2⟩] [(⟨1, x2, ⟨#[]⟩⟩ : S37), ⟨2, 0, x3⟩, ⟨3, if decide (x2 > 0) = true then 1 else 0, ⟨#[]⟩⟩, ⟨z.1, z.2.1, z.2.2⟩]).bind fun q => if q = true then ((value_Fits.f k x0 x1).bind fun a => (weighhouseref02_Fits.f k x0 x1).bind fun b => if (a == b) = true then ((weighhouselaw02_Same.f k x0 x0).bind fun c => if c = true then ((weighhouselaw02_knows.f k).bind fun e => some e) else some false) else some false) else some false) (fun k => ?_) ?_
      · have hr : weighhouseref02_Truth.f (decide (x2 > 0)) = some (3, if decide (x2 > 0) = true then 1 else 0, ⟨#[]⟩) := (truth_ok _).symm
        simp only [weighhouselaw02_ValueWhich.l0]
        rw [if_neg (by omega), hr, zero_ok, hz]
        simp only [value_Number.f, value_Text.f, value_Truth.f, Option.bind_some, List.nil_append, List.length_nil, Nat.zero_add]
        rw [if_pos b1]
      · refine Ev.bind (same_ev _ (by simp)) (Ev.congr (fun k => if_pos rfl) ?_)
        refine Ev.bind (fits_ev x0 x1 (by omega)) (Ev.bind (refFits_ev x0 x1 (by omega)) (Ev.congr (fun k => if_pos (by simp)) ?_))
        refine Ev.bind (same_ev x0 (by omega)) (Ev.congr (fun k => if_pos rfl) ?_)
        exact Ev.bind knows_ev (Ev.now _)
    | succ d ih =>
      intro i hi
      refine Ev.step (f := fun k => weighhouselaw02_ValueWhich.l0 k x0 x1 x2 x3 x0 ((i + 1 : Nat) : Int)) (fun k => ?_) (ih (i + 1) (by omega))
      simp only [weighhouselaw02_ValueWhich.l0]
      rw [if_pos (by omega), if_pos (by omega), if_pos (by omega), right_ok, refRight_ok, Option.bind_some, Option.bind_some, if_neg (by simp), w64 (by omega) (by omega)]
      rfl
  obtain ⟨k, hk⟩ := (loop x0.length 0 (by omega)).rounds
  refine ⟨k, ?_⟩
  unfold weighhouselaw02_ValueWhich.f
  rw [own_ok x0 b0, Option.bind_some]
  exact hk
end Go.Proofs.YtblaibigjhlblaaDoor.PuValueWhich
end
