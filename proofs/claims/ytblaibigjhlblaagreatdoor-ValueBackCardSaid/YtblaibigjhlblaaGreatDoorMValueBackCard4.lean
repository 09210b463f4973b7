/- texts of one claim, merged: each in a section of its own -/
import Derived.Test.YtblaibigjhlblaaGreatDoorMValueBackCard3
section
-- written by hprint.py (a program of these sessions) out of the translation; Lean checks it
namespace Go.Proofs.YtblaibigjhlblaaGreatDoor.Q
open Go.RowKit Go.Proofs.YtblaibigjhlblaaGreatDoorW.Hb Go.Proofs.YtblaibigjhlblaaGreatDoorW.PrintWords Go.Proofs.YtblaibigjhlblaaGreatDoorW.PrintLast Go.Proofs.YtblaibigjhlblaaGreatDoorW.PrintMore
attribute [local go_sem] max2_int min2_int max_two min_two max_three min_three max_four min_four   -- for this text's walks alone
set_option linter.unusedVariables false
set_option linter.unusedSimpArgs false

attribute [local go_sem high] eqA47
/-! ### value_Right: function 37 -/
def value_Right.f (a0_0 : Int) (a0_1 : Int) (a0_2 : ByteArray) : Option (Bool) := if a0_0 = 1 then ((value_Number.f a0_1).bind fun bt125 => (some (a0_0 == bt125.1 && (a0_1 == bt125.2.1 && (a0_2.toList == bt125.2.2.toList))))) else (if a0_0 = 2 then ((value_Text.f a0_2).bind fun bt128 => (if (a0_0 == bt128.1 && (a0_1 == bt128.2.1 && (a0_2.toList == bt128.2.2.toList))) = true then (some (decide ((a0_2.size : Int) ≤ 256))) else (some false))) else (if a0_0 = 3 then ((value_Truth.f false).bind fun bt131 => (if (a0_0 == bt131.1 && (a0_1 == bt131.2.1 && (a0_2.toList == bt131.2.2.toList))) = true then (some true) else ((value_Truth.f true).bind fun bt134 => (some (a0_0 == bt134.1 && (a0_1 == bt134.2.1 && (a0_2.toList == bt134.2.2.toList))))))) else (some false)))
def value_Right.T5 : Bool × List (List Nat × List Nat) := (true, [([], []), ([], []), ([1], [1]), ([2], [2]), ([0, 3], [0, 3]), ([4, 3], [4]), ([5], [5]), ([6, 5], [5, 6]), ([7, 5], [5, 7]), ([8, 5], [5, 8]), ([5, 9], [5, 9]), ([10, 5, 0, 1, 2, 3, 4, 5, 6, 7, 8, 9, 10], [10])])
def value_Right.B5 : List Nat := [0, 0, 2, 6, 15, 31, 63, 127, 255, 511, 1023, 2047]
theorem value_Right.tab5 : rtab .any (opsOf Tryz.f37 5) = value_Right.T5 := by kernel_rfl
theorem value_Right.bits5 : waitsOk value_Right.T5.2 value_Right.B5 = true := by kernel_rfl
def value_Right.T7 : Bool × List (List Nat × List Nat) := (true, [([], []), ([], []), ([0, 1], [0, 1]), ([2, 1], [2]), ([3], [3]), ([3, 3], [3]), ([4, 5, 3], [3, 4, 5]), ([3, 6], [3, 6]), ([7, 5, 0, 1, 2, 3, 4, 5, 6, 7], [7])])
def value_Right.B7 : List Nat := [0, 0, 3, 7, 15, 15, 63, 127, 255]
theorem value_Right.tab7 : rtab .any (opsOf Tryz.f37 7) = value_Right.T7 := by kernel_rfl
theorem value_Right.bits7 : waitsOk value_Right.T7.2 value_Right.B7 = true := by kernel_rfl
set_option maxHeartbeats 8000000 in
set_option maxRecDepth 100000 in
theorem value_Right.calls (a0_0 : Int) (a0_1 : Int) (a0_2 : ByteArray) (r : Bool) (w : World) (h : value_Right.f a0_0 a0_1 a0_2 = some r) :
    Calls Tryz.prog 37 #[.agg #[.int .i64 a0_0, .int .i64 a0_1, .string a0_2]] w fun e w' => e = .returned (.bool r) ∧ Below w.heap.size w w' := by
  have hu47 := Tryz.underlying47
  have HB := Aside0.mk (Below.refl w.heap.size w)
  have H : (if a0_0 = 1 then ((value_Number.f a0_1).bind fun bt125 => (some (a0_0 == bt125.1 && (a0_1 == bt125.2.1 && (a0_2.toList == bt125.2.2.toList))))) else (if a0_0 = 2 then ((value_Text.f a0_2).bind fun bt128 => (if (a0_0 == bt128.1 && (a0_1 == bt128.2.1 && (a0_2.toList == bt128.2.2.toList))) = true then (some (decide ((a0_2.size : Int) ≤ 256))) else (some false))) else (if a0_0 = 3 then ((value_Truth.f false).bind fun bt131 => (if (a0_0 == bt131.1 && (a0_1 == bt131.2.1 && (a0_2.toList == bt131.2.2.toList))) = true then (some true) else ((value_Truth.f true).bind fun bt134 => (some (a0_0 == bt134.1 && (a0_1 == bt134.2.1 && (a0_2.toList == bt134.2.2.toList))))))) else (some false)))) = some r := h
  clear h
  by_cases c2 : a0_0 = 1
  · rw [if_pos c2] at H
    have c2b0 : (a0_0 == 1) = true := beq_iff_eq.mpr c2
    have c2b1 : (a0_0 != 1) = false := bne_eq_false_iff_eq.mpr c2
    clear c2
    replace H := Option.bind_eq_some_iff.mp H
    obtain ⟨⟨t125, t126, t127⟩, A30, H⟩ := H
    replace H : (some (a0_0 == t125 && (a0_1 == t126 && (a0_2.toList == t127.toList)))) = some r := H
    have A3 := Aside0.mk A30
    clear A30
    obtain rfl := Option.some.inj H
    go_enter Tryz.func37, Tryz.ntmps37
    try go_wp2_with (first | ((with_reducible refine gate_dst (N := 1) rfl ?_); (try (refine gate_guard (by rfl) ?_; dsimp only)); refine box_event ?hg (N := 1) ?hd (cs := #[.int .i64 a0_0, .int .i64 a0_1, .string a0_2]) (t := 47) ?hr ?_; (case hd => rfl); (case hg => rfl); (case hr => first | (go_simp; done) | (go_simp; rfl)); intro gb124 hg w4 hbox hb; have n0_ := Aside0.mk (below_step (by repeat (first | (with_reducible first | exact HB.out | apply below_alloc | apply pw_below_drewN | apply below_drew1) | exact HB.out)) hb); have n1_ := Aside0.mk (hbox); have n2_ := Aside0.mk ((by rw [hg]; exact (below_size (by repeat (first | (with_reducible first | exact HB.out | apply below_alloc | apply pw_below_drewN | apply below_drew1) | exact HB.out))) : w.heap.size ≤ gb124)); have n3_ := Aside0.mk ((by rw [hg]; exact (below_size (by repeat (first | (with_reducible first | exact HB.out | apply below_alloc | apply pw_below_drewN | apply below_drew1) | exact HB.out))) : w.heap.size ≤ gb124)); clear HB; have HB := n0_; have BK124 := n1_; have GW124 := n2_; have GE124 := n3_; clear n0_ n1_ n2_ n3_; clear hb hbox hg; have hcz5_0 : w4.cell? ⟨gb124, 0, none⟩ = some (.int .i64 a0_0) := (blk_cell BK124.out 0).trans rfl; have hcz5_1 : w4.cell? ⟨gb124, 1, none⟩ = some (.int .i64 a0_1) := (blk_cell BK124.out 1).trans rfl; have hcz5_2 : w4.cell? ⟨gb124, 2, none⟩ = some (.string a0_2) := (blk_cell BK124.out 2).trans rfl; have hfz5_0 := blk_frozen BK124.out 0; have hfz5_1 := blk_frozen BK124.out 1; have hfz5_2 := blk_frozen BK124.out 2))
    have n0_ := Aside0.mk (blk_drew BK124.out)
    have n1_ := Aside0.mk (below_drew1 HB.out)
    clear BK124
    clear HB
    have BK124 := n0_
    have HB := n1_
    clear n0_ n1_
    refine start_ (n := 6) (S := fun w' => w'.cell? ⟨gb124, 0, none⟩ = some (.int .i64 a0_0) ∧ w'.cell? ⟨gb124, 1, none⟩ = some (.int .i64 a0_1) ∧ w'.cell? ⟨gb124, 2, none⟩ = some (.string a0_2)) (ds := []) #[false, false, false, false, false, false] (by kernel_rfl) rfl rfl ⟨(blk_cell BK124.out 0).trans rfl, (blk_cell BK124.out 1).trans rfl, (blk_cell BK124.out 2).trans rfl⟩ (fun hHeld => ?_)
    generalize w4.drew = w6 at BK124 HB hHeld ⊢
    refine pure_ (i := 1) (N := some 8) (v := ?_) (a' := ?_) #[false, true, false, false, false, false] rfl rfl (by kernel_rfl) (fun _ _ _ h => h) (Or.inl ⟨by rfl, ?_⟩) ?_ ?_
    rotate_left
    · intro w'
      go_simp
      with_reducible rfl
    rotate_left
    · simp only [Act.put, List.setIfInBounds_toArray, List.set_cons_zero, List.set_cons_succ, i64_w, i32_w]
      rfl
    refine take_ (i := 0) (N := some 7) (v := ?_) (a' := ?_) #[true, true, false, false, false, false] rfl rfl (by kernel_rfl) (fun _ _ _ h => h) (Or.inl ⟨by rfl, ?_⟩) hHeld ?_ ?_
    rotate_left
    · rintro w' ⟨s0, s1, s2⟩
      go_simp
      with_reducible rfl
    rotate_left
    · simp only [Act.put, List.setIfInBounds_toArray, List.set_cons_zero, List.set_cons_succ, i64_w, i32_w]
      rfl
    refine take_ (i := 2) (N := some 9) (v := ?_) (a' := ?_) #[true, true, true, false, false, false] rfl rfl (by kernel_rfl) (fun _ _ _ h => h) (Or.inl ⟨by rfl, ?_⟩) hHeld ?_ ?_
    rotate_left
    · rintro w' ⟨s0, s1, s2⟩
      go_simp
      with_reducible rfl
    rotate_left
    · simp only [Act.put, List.setIfInBounds_toArray, List.set_cons_zero, List.set_cons_succ, i64_w, i32_w]
      rfl
    refine one_ (i := 3) (N := some 10) #[true, true, true, true, false, false] rfl rfl (by kernel_rfl) (by decide) (fun K hK => ?_)
    refine goes_ Tryz.func34 (by kernel_rfl) rfl #[.int .i64 a0_1] (by rfl) rfl rfl (by (try simp only [List.map_toArray, List.map_cons, List.map_nil]); first | done | rfl | (simp only [List.length_drop, List.length_take]; rfl)) ?_
    with_reducible refine (value_Number.calls a0_1 t125 t126 t127 _ A3.out).mono ?_
    rintro e w7 ⟨rfl, hb⟩
    refine ⟨_, rfl, ?_⟩
    have n0_ := Aside0.mk (blk_below (g := gb124) (o := .cells #[.int .i64 a0_0, .int .i64 a0_1, .string a0_2] 47 (0, 0)) (by (with_reducible repeat (first | refine blk_drewN ?_ _ | refine blk_drew ?_ | refine blk_alloc ?_ _)); exact BK124.out) hb)
    have n1_ := Aside0.mk (below_step (by repeat (first | (with_reducible first | exact HB.out | apply below_alloc | apply pw_below_drewN | apply below_drew1 | refine below_set ?_ GE124.out) | exact HB.out)) hb)
    clear BK124
    clear HB
    have BK124 := n0_
    have HB := n1_
    clear n0_ n1_
    (try clear hb)
    (try clear hb2)
    (try clear hk)
    (try clear hi)
    refine hK.out _ _ ⟨(blk_cell BK124.out 0).trans rfl, (blk_cell BK124.out 1).trans rfl, (blk_cell BK124.out 2).trans rfl⟩ (fun hHeld => ?_)
    clear hK K
    refine norm_ (a' := ?_) ?_ ?_
    rotate_left
    · show Act.put _ (some 10) _ = _
      simp only [Act.put, List.setIfInBounds_toArray, List.set_cons_zero, List.set_cons_succ, i64_w, i32_w]
      rfl
    refine pure_ (i := 4) (N := some 11) (v := ?_) (a' := ?_) #[true, true, true, true, true, false] rfl rfl (by kernel_rfl) (fun _ _ _ h => h) (Or.inl ⟨by rfl, ?_⟩) ?_ ?_
    rotate_left
    · intro w'
      go_simp
      with_reducible rfl
    rotate_left
    · simp only [Act.put, List.setIfInBounds_toArray, List.set_cons_zero, List.set_cons_succ, i64_w, i32_w]
      rfl
    refine pure_ (i := 5) (N := some 2) (v := ?_) (a' := ?_) #[true, true, true, true, true, true] rfl rfl (by kernel_rfl) (fun _ _ _ h => h) (Or.inl ⟨by rfl, ?_⟩) ?_ ?_
    rotate_left
    · intro w'
      go_simp
      with_reducible rfl
    rotate_left
    · simp only [Act.put, List.setIfInBounds_toArray, List.set_cons_zero, List.set_cons_succ, i64_w, i32_w]
      rfl
    refine done_ (by kernel_rfl) ?_
    try go_wp2
    go_ret
    exact ⟨by first | rfl | (simp [errW_none, errW_some] <;> rfl) | (simp [*, errW_none, errW_some] <;> rfl), by repeat (first | (with_reducible first | exact HB.out | apply below_alloc | apply pw_below_drewN | apply below_drew1 | refine below_set ?_ GE124.out) | exact HB.out)⟩
  · rw [if_neg c2] at H
    have c2b0 : (a0_0 == 1) = false := beq_eq_false_iff_ne.mpr c2
    have c2b1 : (a0_0 != 1) = true := bne_iff_ne.mpr c2
    by_cases c8 : a0_0 = 2
    · rw [if_pos c8] at H
      have c8b0 : (a0_0 == 2) = true := beq_iff_eq.mpr c8
      have c8b1 : (a0_0 != 2) = false := bne_eq_false_iff_eq.mpr c8
      clear c8
      replace H := Option.bind_eq_some_iff.mp H
      obtain ⟨⟨t128, t129, t130⟩, A90, H⟩ := H
      replace H : (if (a0_0 == t128 && (a0_1 == t129 && (a0_2.toList == t130.toList))) = true then (some (decide ((a0_2.size : Int) ≤ 256))) else (some false)) = some r := H
      have A9 := Aside0.mk A90
      clear A90
      by_cases c10 : (a0_0 == t128 && (a0_1 == t129 && (a0_2.toList == t130.toList))) = true
      · rw [if_pos c10] at H
        have c10b0 : (a0_0 == t128 && (a0_1 == t129 && (a0_2.toList == t130.toList))) = true := c10
        (try (have c10b1 : decide (a0_0 = t128 && (a0_1 == t129 && (a0_2.toList == t130.toList))) = true := by simpa using c10))
        (try (have c10b2 : (a0_0 == t128 && (a0_1 == t129 && (a0_2.toList == t130.toList))) = true := by simpa using c10))
        clear c10
        obtain rfl := Option.some.inj H
        go_enter Tryz.func37, Tryz.ntmps37
        try go_wp2_with (first | ((with_reducible refine gate_dst (N := 1) rfl ?_); (try (refine gate_guard (by rfl) ?_; dsimp only)); refine box_event ?hg (N := 1) ?hd (cs := #[.int .i64 a0_0, .int .i64 a0_1, .string a0_2]) (t := 47) ?hr ?_; (case hd => rfl); (case hg => rfl); (case hr => first | (go_simp; done) | (go_simp; rfl)); intro gb124 hg w11 hbox hb; have n0_ := Aside0.mk (below_step (by repeat (first | (with_reducible first | exact HB.out | apply below_alloc | apply pw_below_drewN | apply below_drew1) | exact HB.out)) hb); have n1_ := Aside0.mk (hbox); have n2_ := Aside0.mk ((by rw [hg]; exact (below_size (by repeat (first | (with_reducible first | exact HB.out | apply below_alloc | apply pw_below_drewN | apply below_drew1) | exact HB.out))) : w.heap.size ≤ gb124)); have n3_ := Aside0.mk ((by rw [hg]; exact (below_size (by repeat (first | (with_reducible first | exact HB.out | apply below_alloc | apply pw_below_drewN | apply below_drew1) | exact HB.out))) : w.heap.size ≤ gb124)); clear HB; have HB := n0_; have BK124 := n1_; have GW124 := n2_; have GE124 := n3_; clear n0_ n1_ n2_ n3_; clear hb hbox hg; have hcz12_0 : w11.cell? ⟨gb124, 0, none⟩ = some (.int .i64 a0_0) := (blk_cell BK124.out 0).trans rfl; have hcz12_1 : w11.cell? ⟨gb124, 1, none⟩ = some (.int .i64 a0_1) := (blk_cell BK124.out 1).trans rfl; have hcz12_2 : w11.cell? ⟨gb124, 2, none⟩ = some (.string a0_2) := (blk_cell BK124.out 2).trans rfl; have hfz12_0 := blk_frozen BK124.out 0; have hfz12_1 := blk_frozen BK124.out 1; have hfz12_2 := blk_frozen BK124.out 2))
        have n0_ := Aside0.mk (blk_drew BK124.out)
        have n1_ := Aside0.mk (below_drew1 HB.out)
        clear BK124
        clear HB
        have BK124 := n0_
        have HB := n1_
        clear n0_ n1_
        refine start_ (n := 12) (S := fun w' => w'.cell? ⟨gb124, 0, none⟩ = some (.int .i64 a0_0) ∧ w'.cell? ⟨gb124, 1, none⟩ = some (.int .i64 a0_1) ∧ w'.cell? ⟨gb124, 2, none⟩ = some (.string a0_2)) (ds := []) #[false, false, false, false, false, false, false, false, false, false, false, false] (by kernel_rfl) rfl rfl ⟨(blk_cell BK124.out 0).trans rfl, (blk_cell BK124.out 1).trans rfl, (blk_cell BK124.out 2).trans rfl⟩ (fun hHeld => ?_); refine with_tabW value_Right.tab5 value_Right.bits5 (fun HT_ HW_ => ?_)
        generalize w11.drew = w13 at BK124 HB hHeld ⊢
        refine pure_ (i := 1) (N := some 15) (v := ?_) (a' := ?_) #[false, true, false, false, false, false, false, false, false, false, false, false] rfl rfl (any_of HT_.out (by kernel_rfl)) (fun _ _ _ h => h) (Or.inl ⟨by rfl, ?_⟩) ?_ ?_
        rotate_left
        · intro w'
          go_simp
          with_reducible rfl
        rotate_left
        · simp only [Act.put, List.setIfInBounds_toArray, List.set_cons_zero, List.set_cons_succ, i64_w, i32_w]
          rfl
        refine take_ (i := 0) (N := some 14) (v := ?_) (a' := ?_) #[true, true, false, false, false, false, false, false, false, false, false, false] rfl rfl (take_ofW HT_.out HW_.out (by kernel_rfl)) (fun _ _ _ h => h) (Or.inl ⟨by rfl, ?_⟩) hHeld ?_ ?_
        rotate_left
        · rintro w' ⟨s0, s1, s2⟩
          go_simp
          with_reducible rfl
        rotate_left
        · simp only [Act.put, List.setIfInBounds_toArray, List.set_cons_zero, List.set_cons_succ, i64_w, i32_w]
          rfl
        refine take_ (i := 2) (N := some 16) (v := ?_) (a' := ?_) #[true, true, true, false, false, false, false, false, false, false, false, false] rfl rfl (take_ofW HT_.out HW_.out (by kernel_rfl)) (fun _ _ _ h => h) (Or.inl ⟨by rfl, ?_⟩) hHeld ?_ ?_
        rotate_left
        · rintro w' ⟨s0, s1, s2⟩
          go_simp
          with_reducible rfl
        rotate_left
        · simp only [Act.put, List.setIfInBounds_toArray, List.set_cons_zero, List.set_cons_succ, i64_w, i32_w]
          rfl
        refine one_ (i := 3) (N := some 17) #[true, true, true, true, false, false, false, false, false, false, false, false] rfl rfl (one_of HT_.out (by kernel_rfl)) (by decide) (fun K hK => ?_)
        refine goes_ Tryz.func35 (by kernel_rfl) rfl #[.string a0_2] (by rfl) rfl rfl (by (try simp only [List.map_toArray, List.map_cons, List.map_nil]); first | done | rfl | (simp only [List.length_drop, List.length_take]; rfl)) ?_
        with_reducible refine (value_Text.calls a0_2 t128 t129 t130 _ A9.out).mono ?_
        rintro e w14 ⟨rfl, hb⟩
        refine ⟨_, rfl, ?_⟩
        have n0_ := Aside0.mk (blk_below (g := gb124) (o := .cells #[.int .i64 a0_0, .int .i64 a0_1, .string a0_2] 47 (0, 0)) (by (with_reducible repeat (first | refine blk_drewN ?_ _ | refine blk_drew ?_ | refine blk_alloc ?_ _)); exact BK124.out) hb)
        have n1_ := Aside0.mk (below_step (by repeat (first | (with_reducible first | exact HB.out | apply below_alloc | apply pw_below_drewN | apply below_drew1 | refine below_set ?_ GE124.out) | exact HB.out)) hb)
        clear BK124
        clear HB
        have BK124 := n0_
        have HB := n1_
        clear n0_ n1_
        (try clear hb)
        (try clear hb2)
        (try clear hk)
        (try clear hi)
        refine hK.out _ _ ⟨(blk_cell BK124.out 0).trans rfl, (blk_cell BK124.out 1).trans rfl, (blk_cell BK124.out 2).trans rfl⟩ (fun hHeld => ?_)
        clear hK K
        refine norm_ (a' := ?_) ?_ ?_
        rotate_left
        · show Act.put _ (some 17) _ = _
          simp only [Act.put, List.setIfInBounds_toArray, List.set_cons_zero, List.set_cons_succ, i64_w, i32_w]
          rfl
        refine pure_ (i := 4) (N := some 18) (v := ?_) (a' := ?_) #[true, true, true, true, true, false, false, false, false, false, false, false] rfl rfl (any_of HT_.out (by kernel_rfl)) (fun _ _ _ h => h) (Or.inl ⟨by rfl, ?_⟩) ?_ ?_
        rotate_left
        · intro w'
          go_simp
          with_reducible rfl
        rotate_left
        · simp only [Act.put, List.setIfInBounds_toArray, List.set_cons_zero, List.set_cons_succ, i64_w, i32_w]
          rfl
        refine pure_ (i := 5) (N := some 19) (v := ?_) (a' := ?_) #[true, true, true, true, true, true, false, false, false, false, false, false] rfl rfl (any_of HT_.out (by kernel_rfl)) (fun _ _ _ h => h) (Or.inl ⟨by rfl, ?_⟩) ?_ ?_
        rotate_left
        · intro w'
          go_simp
          with_reducible rfl
        rotate_left
        · simp only [Act.put, List.setIfInBounds_toArray, List.set_cons_zero, List.set_cons_succ, i64_w, i32_w]
          rfl
        refine pure_ (i := 6) (N := some 20) (v := ?_) (a' := ?_) #[true, true, true, true, true, true, true, false, false, false, false, false] rfl rfl (any_of HT_.out (by kernel_rfl)) (fun _ _ _ h => h) (Or.inl ⟨by rfl, ?_⟩) ?_ ?_
        rotate_left
        · intro w'
          go_simp
          with_reducible rfl
        rotate_left
        · simp only [Act.put, List.setIfInBounds_toArray, List.set_cons_zero, List.set_cons_succ, i64_w, i32_w]
          rfl
        refine take_ (i := 7) (N := some 21) (v := ?_) (a' := ?_) #[true, true, true, true, true, true, true, true, false, false, false, false] rfl rfl (take_ofW HT_.out HW_.out (by kernel_rfl)) (fun _ _ _ h => h) (Or.inl ⟨by rfl, ?_⟩) hHeld ?_ ?_
        rotate_left
        · rintro w' ⟨s0, s1, s2⟩
          go_simp
          with_reducible rfl
        rotate_left
        · simp only [Act.put, List.setIfInBounds_toArray, List.set_cons_zero, List.set_cons_succ, i64_w, i32_w]
          rfl
        refine pure_ (i := 8) (N := some 22) (v := ?_) (a' := ?_) #[true, true, true, true, true, true, true, true, true, false, false, false] rfl rfl (any_of HT_.out (by kernel_rfl)) (fun _ _ _ h => h) (Or.inl ⟨by rfl, ?_⟩) ?_ ?_
        rotate_left
        · intro w'
          go_simp
          with_reducible rfl
        rotate_left
        · simp only [Act.put, List.setIfInBounds_toArray, List.set_cons_zero, List.set_cons_succ, i64_w, i32_w]
          rfl
        refine pure_ (i := 9) (N := some 23) (v := ?_) (a' := ?_) #[true, true, true, true, true, true, true, true, true, true, false, false] rfl rfl (any_of HT_.out (by kernel_rfl)) (fun _ _ _ h => h) (Or.inl ⟨by rfl, ?_⟩) ?_ ?_
        rotate_left
        · intro w'
          go_simp
          with_reducible rfl
        rotate_left
        · simp only [Act.put, List.setIfInBounds_toArray, List.set_cons_zero, List.set_cons_succ, i64_w, i32_w]
          rfl
        refine pure_ (i := 10) (N := some 24) (v := ?_) (a' := ?_) #[true, true, true, true, true, true, true, true, true, true, true, false] rfl rfl (any_of HT_.out (by kernel_rfl)) (fun _ _ _ h => h) (Or.inl ⟨by rfl, ?_⟩) ?_ ?_
        rotate_left
        · intro w'
          go_simp
          with_reducible rfl
        rotate_left
        · simp only [Act.put, List.setIfInBounds_toArray, List.set_cons_zero, List.set_cons_succ, i64_w, i32_w]
          rfl
        refine pure_ (i := 11) (N := some 2) (v := ?_) (a' := ?_) #[true, true, true, true, true, true, true, true, true, true, true, true] rfl rfl (any_of HT_.out (by kernel_rfl)) (fun _ _ _ h => h) (Or.inl ⟨by rfl, ?_⟩) ?_ ?_
        rotate_left
        · intro w'
          go_simp
          with_reducible rfl
        rotate_left
        · simp only [Act.put, List.setIfInBounds_toArray, List.set_cons_zero, List.set_cons_succ, i64_w, i32_w]
          rfl
        refine done_ (done_of HT_.out (by kernel_rfl)) ?_
        try go_wp2
        go_ret
        exact ⟨by first | rfl | (simp [errW_none, errW_some] <;> rfl) | (simp [*, errW_none, errW_some] <;> rfl), by repeat (first | (with_reducible first | exact HB.out | apply below_alloc | apply pw_below_drewN | apply below_drew1 | refine below_set ?_ GE124.out) | exact HB.out)⟩
      · rw [if_neg c10] at H
        have c10b0 : (a0_0 == t128 && (a0_1 == t129 && (a0_2.toList == t130.toList))) = false := by simpa using c10
        (try (have c10b1 : decide (a0_0 = t128 && (a0_1 == t129 && (a0_2.toList == t130.toList))) = false := by simpa using c10))
        (try (have c10b2 : (a0_0 == t128 && (a0_1 == t129 && (a0_2.toList == t130.toList))) = false := by simpa using c10))
        (try (have c10b3 : ¬ (a0_0 = t128 && (a0_1 == t129 && (a0_2.toList == t130.toList))) := by simpa using c10))
        clear c10
        obtain rfl := Option.some.inj H
        go_enter Tryz.func37, Tryz.ntmps37
        try go_wp2_with (first | ((with_reducible refine gate_dst (N := 1) rfl ?_); (try (refine gate_guard (by rfl) ?_; dsimp only)); refine box_event ?hg (N := 1) ?hd (cs := #[.int .i64 a0_0, .int .i64 a0_1, .string a0_2]) (t := 47) ?hr ?_; (case hd => rfl); (case hg => rfl); (case hr => first | (go_simp; done) | (go_simp; rfl)); intro gb124 hg w15 hbox hb; have n0_ := Aside0.mk (below_step (by repeat (first | (with_reducible first | exact HB.out | apply below_alloc | apply pw_below_drewN | apply below_drew1) | exact HB.out)) hb); have n1_ := Aside0.mk (hbox); have n2_ := Aside0.mk ((by rw [hg]; exact (below_size (by repeat (first | (with_reducible first | exact HB.out | apply below_alloc | apply pw_below_drewN | apply below_drew1) | exact HB.out))) : w.heap.size ≤ gb124)); have n3_ := Aside0.mk ((by rw [hg]; exact (below_size (by repeat (first | (with_reducible first | exact HB.out | apply below_alloc | apply pw_below_drewN | apply below_drew1) | exact HB.out))) : w.heap.size ≤ gb124)); clear HB; have HB := n0_; have BK124 := n1_; have GW124 := n2_; have GE124 := n3_; clear n0_ n1_ n2_ n3_; clear hb hbox hg; have hcz16_0 : w15.cell? ⟨gb124, 0, none⟩ = some (.int .i64 a0_0) := (blk_cell BK124.out 0).trans rfl; have hcz16_1 : w15.cell? ⟨gb124, 1, none⟩ = some (.int .i64 a0_1) := (blk_cell BK124.out 1).trans rfl; have hcz16_2 : w15.cell? ⟨gb124, 2, none⟩ = some (.string a0_2) := (blk_cell BK124.out 2).trans rfl; have hfz16_0 := blk_frozen BK124.out 0; have hfz16_1 := blk_frozen BK124.out 1; have hfz16_2 := blk_frozen BK124.out 2))
        have n0_ := Aside0.mk (blk_drew BK124.out)
        have n1_ := Aside0.mk (below_drew1 HB.out)
        clear BK124
        clear HB
        have BK124 := n0_
        have HB := n1_
        clear n0_ n1_
        refine start_ (n := 12) (S := fun w' => w'.cell? ⟨gb124, 0, none⟩ = some (.int .i64 a0_0) ∧ w'.cell? ⟨gb124, 1, none⟩ = some (.int .i64 a0_1) ∧ w'.cell? ⟨gb124, 2, none⟩ = some (.string a0_2)) (ds := []) #[false, false, false, false, false, false, false, false, false, false, false, false] (by kernel_rfl) rfl rfl ⟨(blk_cell BK124.out 0).trans rfl, (blk_cell BK124.out 1).trans rfl, (blk_cell BK124.out 2).trans rfl⟩ (fun hHeld => ?_); refine with_tabW value_Right.tab5 value_Right.bits5 (fun HT_ HW_ => ?_)
        generalize w15.drew = w17 at BK124 HB hHeld ⊢
        refine pure_ (i := 1) (N := some 15) (v := ?_) (a' := ?_) #[false, true, false, false, false, false, false, false, false, false, false, false] rfl rfl (any_of HT_.out (by kernel_rfl)) (fun _ _ _ h => h) (Or.inl ⟨by rfl, ?_⟩) ?_ ?_
        rotate_left
        · intro w'
          go_simp
          with_reducible rfl
        rotate_left
        · simp only [Act.put, List.setIfInBounds_toArray, List.set_cons_zero, List.set_cons_succ, i64_w, i32_w]
          rfl
        refine take_ (i := 0) (N := some 14) (v := ?_) (a' := ?_) #[true, true, false, false, false, false, false, false, false, false, false, false] rfl rfl (take_ofW HT_.out HW_.out (by kernel_rfl)) (fun _ _ _ h => h) (Or.inl ⟨by rfl, ?_⟩) hHeld ?_ ?_
        rotate_left
        · rintro w' ⟨s0, s1, s2⟩
          go_simp
          with_reducible rfl
        rotate_left
        · simp only [Act.put, List.setIfInBounds_toArray, List.set_cons_zero, List.set_cons_succ, i64_w, i32_w]
          rfl
        refine take_ (i := 2) (N := some 16) (v := ?_) (a' := ?_) #[true, true, true, false, false, false, false, false, false, false, false, false] rfl rfl (take_ofW HT_.out HW_.out (by kernel_rfl)) (fun _ _ _ h => h) (Or.inl ⟨by rfl, ?_⟩) hHeld ?_ ?_
        rotate_left
        · rintro w' ⟨s0, s1, s2⟩
          go_simp
          with_reducible rfl
        rotate_left
        · simp only [Act.put, List.setIfInBounds_toArray, List.set_cons_zero, List.set_cons_succ, i64_w, i32_w]
          rfl
        refine one_ (i := 3) (N := some 17) #[true, true, true, true, false, false, false, false, false, false, false, false] rfl rfl (one_of HT_.out (by kernel_rfl)) (by decide) (fun K hK => ?_)
        refine goes_ Tryz.func35 (by kernel_rfl) rfl #[.string a0_2] (by rfl) rfl rfl (by (try simp only [List.map_toArray, List.map_cons, List.map_nil]); first | done | rfl | (simp only [List.length_drop, List.length_take]; rfl)) ?_
        with_reducible refine (value_Text.calls a0_2 t128 t129 t130 _ A9.out).mono ?_
        rintro e w18 ⟨rfl, hb⟩
        refine ⟨_, rfl, ?_⟩
        have n0_ := Aside0.mk (blk_below (g := gb124) (o := .cells #[.int .i64 a0_0, .int .i64 a0_1, .string a0_2] 47 (0, 0)) (by (with_reducible repeat (first | refine blk_drewN ?_ _ | refine blk_drew ?_ | refine blk_alloc ?_ _)); exact BK124.out) hb)
        have n1_ := Aside0.mk (below_step (by repeat (first | (with_reducible first | exact HB.out | apply below_alloc | apply pw_below_drewN | apply below_drew1 | refine below_set ?_ GE124.out) | exact HB.out)) hb)
        clear BK124
        clear HB
        have BK124 := n0_
        have HB := n1_
        clear n0_ n1_
        (try clear hb)
        (try clear hb2)
        (try clear hk)
        (try clear hi)
        refine hK.out _ _ ⟨(blk_cell BK124.out 0).trans rfl, (blk_cell BK124.out 1).trans rfl, (blk_cell BK124.out 2).trans rfl⟩ (fun hHeld => ?_)
        clear hK K
        refine norm_ (a' := ?_) ?_ ?_
        rotate_left
        · show Act.put _ (some 17) _ = _
          simp only [Act.put, List.setIfInBounds_toArray, List.set_cons_zero, List.set_cons_succ, i64_w, i32_w]
          rfl
        refine pure_ (i := 4) (N := some 18) (v := ?_) (a' := ?_) #[true, true, true, true, true, false, false, false, false, false, false, false] rfl rfl (any_of HT_.out (by kernel_rfl)) (fun _ _ _ h => h) (Or.inl ⟨by rfl, ?_⟩) ?_ ?_
        rotate_left
        · intro w'
          go_simp
          with_reducible rfl
        rotate_left
        · simp only [Act.put, List.setIfInBounds_toArray, List.set_cons_zero, List.set_cons_succ, i64_w, i32_w]
          rfl
        refine pure_ (i := 5) (N := some 19) (v := ?_) (a' := ?_) #[true, true, true, true, true, true, false, false, false, false, false, false] rfl rfl (any_of HT_.out (by kernel_rfl)) (fun _ _ _ h => h) (Or.inl ⟨by rfl, ?_⟩) ?_ ?_
        rotate_left
        · intro w'
          go_simp
          with_reducible rfl
        rotate_left
        · simp only [Act.put, List.setIfInBounds_toArray, List.set_cons_zero, List.set_cons_succ, i64_w, i32_w]
          rfl
        refine pure_ (i := 6) (N := some 20) (v := undef) (a' := ?_) #[true, true, true, true, true, true, true, false, false, false, false, false] rfl rfl (any_of HT_.out (by kernel_rfl)) (fun _ _ _ h => h) (Or.inr ⟨by rfl, rfl⟩) ?_ ?_
        rotate_left
        · simp only [Act.put, List.setIfInBounds_toArray, List.set_cons_zero, List.set_cons_succ, i64_w, i32_w]
          rfl
        refine pure_ (i := 7) (N := some 21) (v := undef) (a' := ?_) #[true, true, true, true, true, true, true, true, false, false, false, false] rfl rfl (any_of HT_.out (by kernel_rfl)) (fun _ _ _ h => h) (Or.inr ⟨by rfl, rfl⟩) ?_ ?_
        rotate_left
        · simp only [Act.put, List.setIfInBounds_toArray, List.set_cons_zero, List.set_cons_succ, i64_w, i32_w]
          rfl
        refine pure_ (i := 8) (N := some 22) (v := undef) (a' := ?_) #[true, true, true, true, true, true, true, true, true, false, false, false] rfl rfl (any_of HT_.out (by kernel_rfl)) (fun _ _ _ h => h) (Or.inr ⟨by rfl, rfl⟩) ?_ ?_
        rotate_left
        · simp only [Act.put, List.setIfInBounds_toArray, List.set_cons_zero, List.set_cons_succ, i64_w, i32_w]
          rfl
        refine pure_ (i := 9) (N := some 23) (v := undef) (a' := ?_) #[true, true, true, true, true, true, true, true, true, true, false, false] rfl rfl (any_of HT_.out (by kernel_rfl)) (fun _ _ _ h => h) (Or.inr ⟨by rfl, rfl⟩) ?_ ?_
        rotate_left
        · simp only [Act.put, List.setIfInBounds_toArray, List.set_cons_zero, List.set_cons_succ, i64_w, i32_w]
          rfl
        refine pure_ (i := 10) (N := some 24) (v := ?_) (a' := ?_) #[true, true, true, true, true, true, true, true, true, true, true, false] rfl rfl (any_of HT_.out (by kernel_rfl)) (fun _ _ _ h => h) (Or.inl ⟨by rfl, ?_⟩) ?_ ?_
        rotate_left
        · intro w'
          go_simp
          with_reducible rfl
        rotate_left
        · simp only [Act.put, List.setIfInBounds_toArray, List.set_cons_zero, List.set_cons_succ, i64_w, i32_w]
          rfl
        refine pure_ (i := 11) (N := some 2) (v := ?_) (a' := ?_) #[true, true, true, true, true, true, true, true, true, true, true, true] rfl rfl (any_of HT_.out (by kernel_rfl)) (fun _ _ _ h => h) (Or.inl ⟨by rfl, ?_⟩) ?_ ?_
        rotate_left
        · intro w'
          go_simp
          with_reducible rfl
        rotate_left
        · simp only [Act.put, List.setIfInBounds_toArray, List.set_cons_zero, List.set_cons_succ, i64_w, i32_w]
          rfl
        refine done_ (done_of HT_.out (by kernel_rfl)) ?_
        try go_wp2
        go_ret
        exact ⟨by first | rfl | (simp [errW_none, errW_some] <;> rfl) | (simp [*, errW_none, errW_some] <;> rfl), by repeat (first | (with_reducible first | exact HB.out | apply below_alloc | apply pw_below_drewN | apply below_drew1 | refine below_set ?_ GE124.out) | exact HB.out)⟩
    · rw [if_neg c8] at H
      have c8b0 : (a0_0 == 2) = false := beq_eq_false_iff_ne.mpr c8
      have c8b1 : (a0_0 != 2) = true := bne_iff_ne.mpr c8
      by_cases c19 : a0_0 = 3
      · rw [if_pos c19] at H
        have c19b0 : (a0_0 == 3) = true := beq_iff_eq.mpr c19
        have c19b1 : (a0_0 != 3) = false := bne_eq_false_iff_eq.mpr c19
        clear c19
        replace H := Option.bind_eq_some_iff.mp H
        obtain ⟨⟨t131, t132, t133⟩, A200, H⟩ := H
        replace H : (if (a0_0 == t131 && (a0_1 == t132 && (a0_2.toList == t133.toList))) = true then (some true) else ((value_Truth.f true).bind fun bt134 => (some (a0_0 == bt134.1 && (a0_1 == bt134.2.1 && (a0_2.toList == bt134.2.2.toList)))))) = some r := H
        have A20 := Aside0.mk A200
        clear A200
        by_cases c21 : (a0_0 == t131 && (a0_1 == t132 && (a0_2.toList == t133.toList))) = true
        · rw [if_pos c21] at H
          have c21b0 : (a0_0 == t131 && (a0_1 == t132 && (a0_2.toList == t133.toList))) = true := c21
          (try (have c21b1 : decide (a0_0 = t131 && (a0_1 == t132 && (a0_2.toList == t133.toList))) = true := by simpa using c21))
          (try (have c21b2 : (a0_0 == t131 && (a0_1 == t132 && (a0_2.toList == t133.toList))) = true := by simpa using c21))
          clear c21
          obtain rfl := Option.some.inj H
          go_enter Tryz.func37, Tryz.ntmps37
          try go_wp2_with (first | ((with_reducible refine gate_dst (N := 1) rfl ?_); (try (refine gate_guard (by rfl) ?_; dsimp only)); refine box_event ?hg (N := 1) ?hd (cs := #[.int .i64 a0_0, .int .i64 a0_1, .string a0_2]) (t := 47) ?hr ?_; (case hd => rfl); (case hg => rfl); (case hr => first | (go_simp; done) | (go_simp; rfl)); intro gb124 hg w22 hbox hb; have n0_ := Aside0.mk (below_step (by repeat (first | (with_reducible first | exact HB.out | apply below_alloc | apply pw_below_drewN | apply below_drew1) | exact HB.out)) hb); have n1_ := Aside0.mk (hbox); have n2_ := Aside0.mk ((by rw [hg]; exact (below_size (by repeat (first | (with_reducible first | exact HB.out | apply below_alloc | apply pw_below_drewN | apply below_drew1) | exact HB.out))) : w.heap.size ≤ gb124)); have n3_ := Aside0.mk ((by rw [hg]; exact (below_size (by repeat (first | (with_reducible first | exact HB.out | apply below_alloc | apply pw_below_drewN | apply below_drew1) | exact HB.out))) : w.heap.size ≤ gb124)); clear HB; have HB := n0_; have BK124 := n1_; have GW124 := n2_; have GE124 := n3_; clear n0_ n1_ n2_ n3_; clear hb hbox hg; have hcz23_0 : w22.cell? ⟨gb124, 0, none⟩ = some (.int .i64 a0_0) := (blk_cell BK124.out 0).trans rfl; have hcz23_1 : w22.cell? ⟨gb124, 1, none⟩ = some (.int .i64 a0_1) := (blk_cell BK124.out 1).trans rfl; have hcz23_2 : w22.cell? ⟨gb124, 2, none⟩ = some (.string a0_2) := (blk_cell BK124.out 2).trans rfl; have hfz23_0 := blk_frozen BK124.out 0; have hfz23_1 := blk_frozen BK124.out 1; have hfz23_2 := blk_frozen BK124.out 2))
          have n0_ := Aside0.mk (blk_drew BK124.out)
          have n1_ := Aside0.mk (below_drew1 HB.out)
          clear BK124
          clear HB
          have BK124 := n0_
          have HB := n1_
          clear n0_ n1_
          refine start_ (n := 9) (S := fun w' => w'.cell? ⟨gb124, 0, none⟩ = some (.int .i64 a0_0) ∧ w'.cell? ⟨gb124, 1, none⟩ = some (.int .i64 a0_1) ∧ w'.cell? ⟨gb124, 2, none⟩ = some (.string a0_2)) (ds := []) #[false, false, false, false, false, false, false, false, false] (by kernel_rfl) rfl rfl ⟨(blk_cell BK124.out 0).trans rfl, (blk_cell BK124.out 1).trans rfl, (blk_cell BK124.out 2).trans rfl⟩ (fun hHeld => ?_); refine with_tabW value_Right.tab7 value_Right.bits7 (fun HT_ HW_ => ?_)
          generalize w22.drew = w24 at BK124 HB hHeld ⊢
          refine take_ (i := 0) (N := some 27) (v := ?_) (a' := ?_) #[true, false, false, false, false, false, false, false, false] rfl rfl (take_ofW HT_.out HW_.out (by kernel_rfl)) (fun _ _ _ h => h) (Or.inl ⟨by rfl, ?_⟩) hHeld ?_ ?_
          rotate_left
          · rintro w' ⟨s0, s1, s2⟩
            go_simp
            with_reducible rfl
          rotate_left
          · simp only [Act.put, List.setIfInBounds_toArray, List.set_cons_zero, List.set_cons_succ, i64_w, i32_w]
            rfl
          refine one_ (i := 1) (N := some 28) #[true, true, false, false, false, false, false, false, false] rfl rfl (one_of HT_.out (by kernel_rfl)) (by decide) (fun K hK => ?_)
          refine goes_ Tryz.func36 (by kernel_rfl) rfl #[.bool false] (by rfl) rfl rfl (by (try simp only [List.map_toArray, List.map_cons, List.map_nil]); first | done | rfl | (simp only [List.length_drop, List.length_take]; rfl)) ?_
          with_reducible refine (value_Truth.calls false t131 t132 t133 _ A20.out).mono ?_
          rintro e w25 ⟨rfl, hb⟩
          refine ⟨_, rfl, ?_⟩
          have n0_ := Aside0.mk (blk_below (g := gb124) (o := .cells #[.int .i64 a0_0, .int .i64 a0_1, .string a0_2] 47 (0, 0)) (by (with_reducible repeat (first | refine blk_drewN ?_ _ | refine blk_drew ?_ | refine blk_alloc ?_ _)); exact BK124.out) hb)
          have n1_ := Aside0.mk (below_step (by repeat (first | (with_reducible first | exact HB.out | apply below_alloc | apply pw_below_drewN | apply below_drew1 | refine below_set ?_ GE124.out) | exact HB.out)) hb)
          clear BK124
          clear HB
          have BK124 := n0_
          have HB := n1_
          clear n0_ n1_
          (try clear hb)
          (try clear hb2)
          (try clear hk)
          (try clear hi)
          refine hK.out _ _ ⟨(blk_cell BK124.out 0).trans rfl, (blk_cell BK124.out 1).trans rfl, (blk_cell BK124.out 2).trans rfl⟩ (fun hHeld => ?_)
          clear hK K
          refine norm_ (a' := ?_) ?_ ?_
          rotate_left
          · show Act.put _ (some 28) _ = _
            simp only [Act.put, List.setIfInBounds_toArray, List.set_cons_zero, List.set_cons_succ, i64_w, i32_w]
            rfl
          refine pure_ (i := 2) (N := some 29) (v := ?_) (a' := ?_) #[true, true, true, false, false, false, false, false, false] rfl rfl (any_of HT_.out (by kernel_rfl)) (fun _ _ _ h => h) (Or.inl ⟨by rfl, ?_⟩) ?_ ?_
          rotate_left
          · intro w'
            go_simp
            with_reducible rfl
          rotate_left
          · simp only [Act.put, List.setIfInBounds_toArray, List.set_cons_zero, List.set_cons_succ, i64_w, i32_w]
            rfl
          refine pure_ (i := 3) (N := some 30) (v := ?_) (a' := ?_) #[true, true, true, true, false, false, false, false, false] rfl rfl (any_of HT_.out (by kernel_rfl)) (fun _ _ _ h => h) (Or.inl ⟨by rfl, ?_⟩) ?_ ?_
          rotate_left
          · intro w'
            go_simp
            with_reducible rfl
          rotate_left
          · simp only [Act.put, List.setIfInBounds_toArray, List.set_cons_zero, List.set_cons_succ, i64_w, i32_w]
            rfl
          refine pure_ (i := 4) (N := some 31) (v := undef) (a' := ?_) #[true, true, true, true, true, false, false, false, false] rfl rfl (any_of HT_.out (by kernel_rfl)) (fun _ _ _ h => h) (Or.inr ⟨by rfl, rfl⟩) ?_ ?_
          rotate_left
          · simp only [Act.put, List.setIfInBounds_toArray, List.set_cons_zero, List.set_cons_succ, i64_w, i32_w]
            rfl
          refine pure_ (i := 5) (N := some 32) (v := undef) (a' := ?_) #[true, true, true, true, true, true, false, false, false] rfl rfl (any_of HT_.out (by kernel_rfl)) (fun _ _ _ h => h) (Or.inr ⟨by rfl, rfl⟩) ?_ ?_
          rotate_left
          · simp only [Act.put, List.setIfInBounds_toArray, List.set_cons_zero, List.set_cons_succ, i64_w, i32_w]
            rfl
          refine pure_ (i := 6) (N := some 33) (v := undef) (a' := ?_) #[true, true, true, true, true, true, true, false, false] rfl rfl (any_of HT_.out (by kernel_rfl)) (fun _ _ _ h => h) (Or.inr ⟨by rfl, rfl⟩) ?_ ?_
          rotate_left
          · simp only [Act.put, List.setIfInBounds_toArray, List.set_cons_zero, List.set_cons_succ, i64_w, i32_w]
            rfl
          refine pure_ (i := 7) (N := some 34) (v := ?_) (a' := ?_) #[true, true, true, true, true, true, true, true, false] rfl rfl (any_of HT_.out (by kernel_rfl)) (fun _ _ _ h => h) (Or.inl ⟨by rfl, ?_⟩) ?_ ?_
          rotate_left
          · intro w'
            go_simp
            with_reducible rfl
          rotate_left
          · simp only [Act.put, List.setIfInBounds_toArray, List.set_cons_zero, List.set_cons_succ, i64_w, i32_w]
            rfl
          refine pure_ (i := 8) (N := some 2) (v := ?_) (a' := ?_) #[true, true, true, true, true, true, true, true, true] rfl rfl (any_of HT_.out (by kernel_rfl)) (fun _ _ _ h => h) (Or.inl ⟨by rfl, ?_⟩) ?_ ?_
          rotate_left
          · intro w'
            go_simp
            with_reducible rfl
          rotate_left
          · simp only [Act.put, List.setIfInBounds_toArray, List.set_cons_zero, List.set_cons_succ, i64_w, i32_w]
            rfl
          refine done_ (done_of HT_.out (by kernel_rfl)) ?_
          try go_wp2
          go_ret
          exact ⟨by first | rfl | (simp [errW_none, errW_some] <;> rfl) | (simp [*, errW_none, errW_some] <;> rfl), by repeat (first | (with_reducible first | exact HB.out | apply below_alloc | apply pw_below_drewN | apply below_drew1 | refine below_set ?_ GE124.out) | exact HB.out)⟩
        · rw [if_neg c21] at H
          have c21b0 : (a0_0 == t131 && (a0_1 == t132 && (a0_2.toList == t133.toList))) = false := by simpa using c21
          (try (have c21b1 : decide (a0_0 = t131 && (a0_1 == t132 && (a0_2.toList == t133.toList))) = false := by simpa using c21))
          (try (have c21b2 : (a0_0 == t131 && (a0_1 == t132 && (a0_2.toList == t133.toList))) = false := by simpa using c21))
          (try (have c21b3 : ¬ (a0_0 = t131 && (a0_1 == t132 && (a0_2.toList == t133.toList))) := by simpa using c21))
          clear c21
          replace H := Option.bind_eq_some_iff.mp H
          obtain ⟨⟨t134, t135, t136⟩, A260, H⟩ := H
          replace H : (some (a0_0 == t134 && (a0_1 == t135 && (a0_2.toList == t136.toList)))) = some r := H
          have A26 := Aside0.mk A260
          clear A260
          obtain rfl := Option.some.inj H
          go_enter Tryz.func37, Tryz.ntmps37
          try go_wp2_with (first | ((with_reducible refine gate_dst (N := 1) rfl ?_); (try (refine gate_guard (by rfl) ?_; dsimp only)); refine box_event ?hg (N := 1) ?hd (cs := #[.int .i64 a0_0, .int .i64 a0_1, .string a0_2]) (t := 47) ?hr ?_; (case hd => rfl); (case hg => rfl); (case hr => first | (go_simp; done) | (go_simp; rfl)); intro gb124 hg w27 hbox hb; have n0_ := Aside0.mk (below_step (by repeat (first | (with_reducible first | exact HB.out | apply below_alloc | apply pw_below_drewN | apply below_drew1) | exact HB.out)) hb); have n1_ := Aside0.mk (hbox); have n2_ := Aside0.mk ((by rw [hg]; exact (below_size (by repeat (first | (with_reducible first | exact HB.out | apply below_alloc | apply pw_below_drewN | apply below_drew1) | exact HB.out))) : w.heap.size ≤ gb124)); have n3_ := Aside0.mk ((by rw [hg]; exact (below_size (by repeat (first | (with_reducible first | exact HB.out | apply below_alloc | apply pw_below_drewN | apply below_drew1) | exact HB.out))) : w.heap.size ≤ gb124)); clear HB; have HB := n0_; have BK124 := n1_; have GW124 := n2_; have GE124 := n3_; clear n0_ n1_ n2_ n3_; clear hb hbox hg; have hcz28_0 : w27.cell? ⟨gb124, 0, none⟩ = some (.int .i64 a0_0) := (blk_cell BK124.out 0).trans rfl; have hcz28_1 : w27.cell? ⟨gb124, 1, none⟩ = some (.int .i64 a0_1) := (blk_cell BK124.out 1).trans rfl; have hcz28_2 : w27.cell? ⟨gb124, 2, none⟩ = some (.string a0_2) := (blk_cell BK124.out 2).trans rfl; have hfz28_0 := blk_frozen BK124.out 0; have hfz28_1 := blk_frozen BK124.out 1; have hfz28_2 := blk_frozen BK124.out 2))
          have n0_ := Aside0.mk (blk_drew BK124.out)
          have n1_ := Aside0.mk (below_drew1 HB.out)
          clear BK124
          clear HB
          have BK124 := n0_
          have HB := n1_
          clear n0_ n1_
          refine start_ (n := 9) (S := fun w' => w'.cell? ⟨gb124, 0, none⟩ = some (.int .i64 a0_0) ∧ w'.cell? ⟨gb124, 1, none⟩ = some (.int .i64 a0_1) ∧ w'.cell? ⟨gb124, 2, none⟩ = some (.string a0_2)) (ds := []) #[false, false, false, false, false, false, false, false, false] (by kernel_rfl) rfl rfl ⟨(blk_cell BK124.out 0).trans rfl, (blk_cell BK124.out 1).trans rfl, (blk_cell BK124.out 2).trans rfl⟩ (fun hHeld => ?_); refine with_tabW value_Right.tab7 value_Right.bits7 (fun HT_ HW_ => ?_)
          generalize w27.drew = w29 at BK124 HB hHeld ⊢
          refine take_ (i := 0) (N := some 27) (v := ?_) (a' := ?_) #[true, false, false, false, false, false, false, false, false] rfl rfl (take_ofW HT_.out HW_.out (by kernel_rfl)) (fun _ _ _ h => h) (Or.inl ⟨by rfl, ?_⟩) hHeld ?_ ?_
          rotate_left
          · rintro w' ⟨s0, s1, s2⟩
            go_simp
            with_reducible rfl
          rotate_left
          · simp only [Act.put, List.setIfInBounds_toArray, List.set_cons_zero, List.set_cons_succ, i64_w, i32_w]
            rfl
          refine one_ (i := 1) (N := some 28) #[true, true, false, false, false, false, false, false, false] rfl rfl (one_of HT_.out (by kernel_rfl)) (by decide) (fun K hK => ?_)
          refine goes_ Tryz.func36 (by kernel_rfl) rfl #[.bool false] (by rfl) rfl rfl (by (try simp only [List.map_toArray, List.map_cons, List.map_nil]); first | done | rfl | (simp only [List.length_drop, List.length_take]; rfl)) ?_
          with_reducible refine (value_Truth.calls false t131 t132 t133 _ A20.out).mono ?_
          rintro e w30 ⟨rfl, hb⟩
          refine ⟨_, rfl, ?_⟩
          have n0_ := Aside0.mk (blk_below (g := gb124) (o := .cells #[.int .i64 a0_0, .int .i64 a0_1, .string a0_2] 47 (0, 0)) (by (with_reducible repeat (first | refine blk_drewN ?_ _ | refine blk_drew ?_ | refine blk_alloc ?_ _)); exact BK124.out) hb)
          have n1_ := Aside0.mk (below_step (by repeat (first | (with_reducible first | exact HB.out | apply below_alloc | apply pw_below_drewN | apply below_drew1 | refine below_set ?_ GE124.out) | exact HB.out)) hb)
          clear BK124
          clear HB
          have BK124 := n0_
          have HB := n1_
          clear n0_ n1_
          (try clear hb)
          (try clear hb2)
          (try clear hk)
          (try clear hi)
          refine hK.out _ _ ⟨(blk_cell BK124.out 0).trans rfl, (blk_cell BK124.out 1).trans rfl, (blk_cell BK124.out 2).trans rfl⟩ (fun hHeld => ?_)
          clear hK K
          refine norm_ (a' := ?_) ?_ ?_
          rotate_left
          · show Act.put _ (some 28) _ = _
            simp only [Act.put, List.setIfInBounds_toArray, List.set_cons_zero, List.set_cons_succ, i64_w, i32_w]
            rfl
          refine pure_ (i := 2) (N := some 29) (v := ?_) (a' := ?_) #[true, true, true, false, false, false, false, false, false] rfl rfl (any_of HT_.out (by kernel_rfl)) (fun _ _ _ h => h) (Or.inl ⟨by rfl, ?_⟩) ?_ ?_
          rotate_left
          · intro w'
            go_simp
            with_reducible rfl
          rotate_left
          · simp only [Act.put, List.setIfInBounds_toArray, List.set_cons_zero, List.set_cons_succ, i64_w, i32_w]
            rfl
          refine pure_ (i := 3) (N := some 30) (v := ?_) (a' := ?_) #[true, true, true, true, false, false, false, false, false] rfl rfl (any_of HT_.out (by kernel_rfl)) (fun _ _ _ h => h) (Or.inl ⟨by rfl, ?_⟩) ?_ ?_
          rotate_left
          · intro w'
            go_simp
            with_reducible rfl
          rotate_left
          · simp only [Act.put, List.setIfInBounds_toArray, List.set_cons_zero, List.set_cons_succ, i64_w, i32_w]
            rfl
          refine take_ (i := 4) (N := some 31) (v := ?_) (a' := ?_) #[true, true, true, true, true, false, false, false, false] rfl rfl (take_ofW HT_.out HW_.out (by kernel_rfl)) (fun _ _ _ h => h) (Or.inl ⟨by rfl, ?_⟩) hHeld ?_ ?_
          rotate_left
          · rintro w' ⟨s0, s1, s2⟩
            go_simp
            with_reducible rfl
          rotate_left
          · simp only [Act.put, List.setIfInBounds_toArray, List.set_cons_zero, List.set_cons_succ, i64_w, i32_w]
            rfl
          refine one_ (i := 5) (N := some 32) #[true, true, true, true, true, true, false, false, false] rfl rfl (one_of HT_.out (by kernel_rfl)) (by decide) (fun K hK => ?_)
          refine goes_ Tryz.func36 (by kernel_rfl) rfl #[.bool true] (by rfl) rfl rfl (by (try simp only [List.map_toArray, List.map_cons, List.map_nil]); first | done | rfl | (simp only [List.length_drop, List.length_take]; rfl)) ?_
          with_reducible refine (value_Truth.calls true t134 t135 t136 _ A26.out).mono ?_
          rintro e w31 ⟨rfl, hb⟩
          refine ⟨_, rfl, ?_⟩
          have n0_ := Aside0.mk (blk_below (g := gb124) (o := .cells #[.int .i64 a0_0, .int .i64 a0_1, .string a0_2] 47 (0, 0)) (by (with_reducible repeat (first | refine blk_drewN ?_ _ | refine blk_drew ?_ | refine blk_alloc ?_ _)); exact BK124.out) hb)
          have n1_ := Aside0.mk (below_step (by repeat (first | (with_reducible first | exact HB.out | apply below_alloc | apply pw_below_drewN | apply below_drew1 | refine below_set ?_ GE124.out) | exact HB.out)) hb)
          clear BK124
          clear HB
          have BK124 := n0_
          have HB := n1_
          clear n0_ n1_
          (try clear hb)
          (try clear hb2)
          (try clear hk)
          (try clear hi)
          refine hK.out _ _ ⟨(blk_cell BK124.out 0).trans rfl, (blk_cell BK124.out 1).trans rfl, (blk_cell BK124.out 2).trans rfl⟩ (fun hHeld => ?_)
          clear hK K
          refine norm_ (a' := ?_) ?_ ?_
          rotate_left
          · show Act.put _ (some 32) _ = _
            simp only [Act.put, List.setIfInBounds_toArray, List.set_cons_zero, List.set_cons_succ, i64_w, i32_w]
            rfl
          refine pure_ (i := 6) (N := some 33) (v := ?_) (a' := ?_) #[true, true, true, true, true, true, true, false, false] rfl rfl (any_of HT_.out (by kernel_rfl)) (fun _ _ _ h => h) (Or.inl ⟨by rfl, ?_⟩) ?_ ?_
          rotate_left
          · intro w'
            go_simp
            with_reducible rfl
          rotate_left
          · simp only [Act.put, List.setIfInBounds_toArray, List.set_cons_zero, List.set_cons_succ, i64_w, i32_w]
            rfl
          refine pure_ (i := 7) (N := some 34) (v := ?_) (a' := ?_) #[true, true, true, true, true, true, true, true, false] rfl rfl (any_of HT_.out (by kernel_rfl)) (fun _ _ _ h => h) (Or.inl ⟨by rfl, ?_⟩) ?_ ?_
          rotate_left
          · intro w'
            go_simp
            with_reducible rfl
          rotate_left
          · simp only [Act.put, List.setIfInBounds_toArray, List.set_cons_zero, List.set_cons_succ, i64_w, i32_w]
            rfl
          refine pure_ (i := 8) (N := some 2) (v := ?_) (a' := ?_) #[true, true, true, true, true, true, true, true, true] rfl rfl (any_of HT_.out (by kernel_rfl)) (fun _ _ _ h => h) (Or.inl ⟨by rfl, ?_⟩) ?_ ?_
          rotate_left
          · intro w'
            go_simp
            with_reducible rfl
          rotate_left
          · simp only [Act.put, List.setIfInBounds_toArray, List.set_cons_zero, List.set_cons_succ, i64_w, i32_w]
            rfl
          refine done_ (done_of HT_.out (by kernel_rfl)) ?_
          try go_wp2
          go_ret
          exact ⟨by first | rfl | (simp [errW_none, errW_some] <;> rfl) | (simp [*, errW_none, errW_some] <;> rfl), by repeat (first | (with_reducible first | exact HB.out | apply below_alloc | apply pw_below_drewN | apply below_drew1 | refine below_set ?_ GE124.out) | exact HB.out)⟩
      · rw [if_neg c19] at H
        have c19b0 : (a0_0 == 3) = false := beq_eq_false_iff_ne.mpr c19
        have c19b1 : (a0_0 != 3) = true := bne_iff_ne.mpr c19
        obtain rfl := Option.some.inj H
        go_enter Tryz.func37, Tryz.ntmps37
        go_wp2_with (first | ((with_reducible refine gate_dst (N := 1) rfl ?_); (try (refine gate_guard (by rfl) ?_; dsimp only)); refine box_event ?hg (N := 1) ?hd (cs := #[.int .i64 a0_0, .int .i64 a0_1, .string a0_2]) (t := 47) ?hr ?_; (case hd => rfl); (case hg => rfl); (case hr => first | (go_simp; done) | (go_simp; rfl)); intro gb124 hg w32 hbox hb; have n0_ := Aside0.mk (below_step (by repeat (first | (with_reducible first | exact HB.out | apply below_alloc | apply pw_below_drewN | apply below_drew1) | exact HB.out)) hb); have n1_ := Aside0.mk (hbox); have n2_ := Aside0.mk ((by rw [hg]; exact (below_size (by repeat (first | (with_reducible first | exact HB.out | apply below_alloc | apply pw_below_drewN | apply below_drew1) | exact HB.out))) : w.heap.size ≤ gb124)); have n3_ := Aside0.mk ((by rw [hg]; exact (below_size (by repeat (first | (with_reducible first | exact HB.out | apply below_alloc | apply pw_below_drewN | apply below_drew1) | exact HB.out))) : w.heap.size ≤ gb124)); clear HB; have HB := n0_; have BK124 := n1_; have GW124 := n2_; have GE124 := n3_; clear n0_ n1_ n2_ n3_; clear hb hbox hg; have hcz33_0 : w32.cell? ⟨gb124, 0, none⟩ = some (.int .i64 a0_0) := (blk_cell BK124.out 0).trans rfl; have hcz33_1 : w32.cell? ⟨gb124, 1, none⟩ = some (.int .i64 a0_1) := (blk_cell BK124.out 1).trans rfl; have hcz33_2 : w32.cell? ⟨gb124, 2, none⟩ = some (.string a0_2) := (blk_cell BK124.out 2).trans rfl; have hfz33_0 := blk_frozen BK124.out 0; have hfz33_1 := blk_frozen BK124.out 1; have hfz33_2 := blk_frozen BK124.out 2))
        go_ret
        exact ⟨by first | rfl | (simp [errW_none, errW_some] <;> rfl) | (simp [*, errW_none, errW_some] <;> rfl), by repeat (first | (with_reducible first | exact HB.out | apply below_alloc | apply pw_below_drewN | apply below_drew1 | refine below_set ?_ GE124.out) | exact HB.out)⟩

end Go.Proofs.YtblaibigjhlblaaGreatDoor.Q
end

section
-- written by hprint.py (a program of these sessions) out of the translation; Lean checks it
namespace Go.Proofs.YtblaibigjhlblaaGreatDoor.Q
open Go.RowKit Go.Proofs.YtblaibigjhlblaaGreatDoorW.Hb Go.Proofs.YtblaibigjhlblaaGreatDoorW.PrintWords Go.Proofs.YtblaibigjhlblaaGreatDoorW.PrintLast Go.Proofs.YtblaibigjhlblaaGreatDoorW.PrintMore
attribute [local go_sem] max2_int min2_int max_two min_two max_three min_three max_four min_four   -- for this text's walks alone
set_option linter.unusedVariables false
set_option linter.unusedSimpArgs false

/-! ### value_all: function 17 -/
def value_all.l0 : Nat → List (S47) → Int → Int → Option (Bool)
  | 0, _, _, _ => none
  | k + 1, x5, x6, x7 => if x7 < x6 then (if 0 ≤ x7 then (if x7 < (x5.length : Int) then ((value_Right.f ((rd_T47 x5 x7).f0) ((rd_T47 x5 x7).f1) ((rd_T47 x5 x7).f2)).bind fun t139 => (if t139 = true then (value_all.l0 k x5 x6 (wrap64 (x7 + 1))) else (some false))) else (none)) else (none)) else (some true)
def value_all.f (k : Nat) (l0 : List (S47)) : Option (Bool) := value_all.l0 k l0 (l0.length : Int) 0
theorem value_all.mono_l : ∀ k, (∀ y0 y1 y2, LeO (value_all.l0 k y0 y1 y2) (value_all.l0 (k + 1) y0 y1 y2))
  | 0 => fun _ _ _ r h => by simp [value_all.l0] at h
  | k + 1 => by
    have ih0 := value_all.mono_l k
    · intro y0 y1 y2
      unfold value_all.l0
      repeat' first
      | (with_reducible exact ih0 _ _ _)
      | (with_reducible exact LeO.refl _)
      | (with_reducible exact LeO.none _)
      | (with_reducible refine LeO.ite ?_ ?_)
      | (with_reducible refine LeO.bind ?_ (fun _ => ?_))
      | exact ih0 _ _ _
      | exact LeO.none _
      | refine LeO.ite ?_ ?_
      | refine LeO.bind ?_ (fun _ => ?_)
theorem value_all.mono : ∀ a0 k, LeO (value_all.f k a0) (value_all.f (k + 1) a0) := by
  intro a0 k
  have ih0 := value_all.mono_l k
  unfold value_all.f
  repeat' first
      | (with_reducible exact ih0 _ _ _)
      | (with_reducible exact LeO.refl _)
      | (with_reducible exact LeO.none _)
      | (with_reducible refine LeO.ite ?_ ?_)
      | (with_reducible refine LeO.bind ?_ (fun _ => ?_))
      | exact ih0 _ _ _
      | exact LeO.none _
      | refine LeO.ite ?_ ?_
      | refine LeO.bind ?_ (fun _ => ?_)
set_option maxHeartbeats 8000000 in
set_option maxRecDepth 100000 in
theorem value_all.calls (k : Nat) (A0 : Option Addr) (c0 : Nat) (l0 : List (S47)) (r : Bool) (w : World) (hr0 : Kd.C k47 w A0 l0.length l0) (hc0 : l0.length ≤ c0) (h : value_all.f k l0 = some r) :
    Calls Tryz.prog 17 #[.slice A0 l0.length c0] w fun e w' => e = .returned (.bool r) ∧ Below w.heap.size w w' := by
  have hu47 := Tryz.underlying47
  have HR0 := Aside0.mk hr0
  have HC0 := Aside0.mk hc0
  clear hr0 hc0
  have HB := Aside0.mk (Below.refl w.heap.size w)
  have H : (value_all.l0 k l0 (l0.length : Int) 0) = some r := h
  clear h
  have H' := Aside0.mk H
  clear H
  go_enter Tryz.func17, Tryz.ntmps17
  go_wp2
  go_loopg [7] k (fun kq v7 w' => ∃ (x7_1 : Int), v7 = .int .i64 x7_1 ∧ Aside0 (value_all.l0 kq l0 (l0.length : Int) x7_1 = some r) ∧ Aside0 (kq ≤ k) ∧ Aside0 (Below w.heap.size w w'))
  case atStart => exact ⟨(0), (by first | rfl | (simp; done) | (simp [*]; done)), H', ⟨Nat.le_refl _⟩, ⟨by repeat (first | (with_reducible first | exact HB.out | apply below_alloc | apply pw_below_drewN | apply below_drew1) | exact HB.out)⟩⟩
  case round =>
    clear H'
    try clear c1
    obtain ⟨x7_1, rfl, HA, HK1, HB⟩ := hrel
    cases gk with
    | zero => exact absurd HA.out (by simp [value_all.l0])
    | succ k1 =>
      have H := HA.out
      clear HA
      simp only [value_all.l0] at H
      by_cases c2 : x7_1 < (l0.length : Int)
      · rw [if_pos c2] at H
        have c2b0 : decide (x7_1 < (l0.length : Int)) = true := decide_eq_true c2
        clear c2
        by_cases c3 : 0 ≤ x7_1
        · rw [if_pos c3] at H
          have c3b0 : decide (0 ≤ x7_1) = true := decide_eq_true c3
          clear c3
          by_cases c4 : x7_1 < (l0.length : Int)
          · rw [if_pos c4] at H
            have c4b0 : decide (x7_1 < (l0.length : Int)) = true := decide_eq_true c4
            clear c4
            replace H := Option.bind_eq_some_iff.mp H
            obtain ⟨t139, A50, H⟩ := H
            replace H : (if t139 = true then (value_all.l0 k1 l0 (l0.length : Int) (wrap64 (x7_1 + 1))) else (some false)) = some r := H
            have A5 := Aside0.mk A50
            clear A50
            by_cases c6 : t139 = true
            · subst c6
              have H1 : (value_all.l0 k1 l0 (l0.length : Int) (wrap64 (x7_1 + 1))) = some r := by rw [if_pos rfl] at H; exact H
              clear H
              have H := H1
              clear H1
              have H' := Aside0.mk H
              clear H
              have p137 : 0 ≤ (x7_1 : Int) := of_decide_eq_true (by first | (with_reducible assumption) | assumption)
              have q137 : x7_1 < (l0.length : Int) := of_decide_eq_true (by first | (with_reducible assumption) | assumption)
              obtain ⟨ad137, e137, hx137_0, hx137_1, hx137_2⟩ := at_T47 HR0.out x7_1 p137 q137
              cases e137
              replace hx137_0 := (HB.out.cell (World.block_lt_of_cell? w _ hx137_0)).trans hx137_0
              replace hx137_1 := (HB.out.cell (World.block_lt_of_cell? w _ hx137_1)).trans hx137_1
              replace hx137_2 := (HB.out.cell (World.block_lt_of_cell? w _ hx137_2)).trans hx137_2
              replace p137 := eq_true p137
              replace q137 := eq_true q137
              go_wp2_with (first | ((with_reducible refine gate_dst (N := 4) rfl ?_); refine box_event ?hg (N := 4) ?hd (cs := #[.int .i64 0, .int .i64 0, .string (⟨#[]⟩ : ByteArray)]) (t := 47) ?hr ?_; (case hd => rfl); (case hg => rfl); (case hr => first | (go_simp; done) | (go_simp; rfl)); intro gb138 hg w7 hbox hb; have n0_ := Aside0.mk (below_step (by repeat (first | (with_reducible first | exact HB.out | apply below_alloc | apply pw_below_drewN | apply below_drew1) | exact HB.out)) hb); have n1_ := Aside0.mk (hbox); have n2_ := Aside0.mk ((by rw [hg]; exact (below_size (by repeat (first | (with_reducible first | exact HB.out | apply below_alloc | apply pw_below_drewN | apply below_drew1) | exact HB.out))) : w.heap.size ≤ gb138)); have n3_ := Aside0.mk ((by rw [hg]; exact (below_size (by repeat (first | (with_reducible first | exact HB.out | apply below_alloc | apply pw_below_drewN | apply below_drew1) | exact HB.out))) : w.heap.size ≤ gb138)); clear HB; have HB := n0_; have BK138 := n1_; have GW138 := n2_; have GE138 := n3_; clear n0_ n1_ n2_ n3_; clear hb hbox hg; have hcz8_0 : w7.cell? ⟨gb138, 0, none⟩ = some (.int .i64 0) := (blk_cell BK138.out 0).trans rfl; have hcz8_1 : w7.cell? ⟨gb138, 1, none⟩ = some (.int .i64 0) := (blk_cell BK138.out 1).trans rfl; have hcz8_2 : w7.cell? ⟨gb138, 2, none⟩ = some (.string (⟨#[]⟩ : ByteArray)) := (blk_cell BK138.out 2).trans rfl; have hfz8_0 := blk_frozen BK138.out 0; have hfz8_1 := blk_frozen BK138.out 1; have hfz8_2 := blk_frozen BK138.out 2) | ((with_reducible refine gate_callee (f := 37) rfl ?_); refine goesL_ (some 12) rfl rfl Tryz.func37 (by kernel_rfl) rfl #[.agg #[.int .i64 ((rd_T47 l0 x7_1).f0), .int .i64 ((rd_T47 l0 x7_1).f1), .string ((rd_T47 l0 x7_1).f2)]] rfl (by (try simp only [List.map_toArray, List.map_cons, List.map_nil]); first | done | rfl | (simp only [List.length_drop, List.length_take]; rfl)) ?_; (with_reducible refine (value_Right.calls ((rd_T47 l0 x7_1).f0) ((rd_T47 l0 x7_1).f1) ((rd_T47 l0 x7_1).f2) true _ A5.out).mono ?_); rintro e w9 ⟨rfl, hb⟩; refine ⟨_, rfl, ?_⟩; have n0_ := Aside0.mk (blk_below (g := gb138) (o := .cells #[.int .i64 ((rd_T47 l0 x7_1).f0), .int .i64 ((rd_T47 l0 x7_1).f1), .string ((rd_T47 l0 x7_1).f2)] 47 (0, 0)) (by (with_reducible repeat (first | refine blk_drewN ?_ _ | refine blk_drew ?_ | refine blk_alloc ?_ _)); refine blk_put (cs := #[.int .i64 ((rd_T47 l0 x7_1).f0), .int .i64 ((rd_T47 l0 x7_1).f1), .string (⟨#[]⟩ : ByteArray)]) ?_ 2 _ rfl; (with_reducible repeat (first | refine blk_drewN ?_ _ | refine blk_drew ?_ | refine blk_alloc ?_ _)); refine blk_put (cs := #[.int .i64 ((rd_T47 l0 x7_1).f0), .int .i64 0, .string (⟨#[]⟩ : ByteArray)]) ?_ 1 _ rfl; (with_reducible repeat (first | refine blk_drewN ?_ _ | refine blk_drew ?_ | refine blk_alloc ?_ _)); refine blk_put (cs := #[.int .i64 0, .int .i64 0, .string (⟨#[]⟩ : ByteArray)]) ?_ 0 _ rfl; (with_reducible repeat (first | refine blk_drewN ?_ _ | refine blk_drew ?_ | refine blk_alloc ?_ _)); exact BK138.out) hb); have n1_ := Aside0.mk (below_step (by repeat (first | (with_reducible first | exact HB.out | apply below_alloc | apply pw_below_drewN | apply below_drew1 | refine below_set ?_ GE138.out) | exact HB.out)) hb); clear BK138; clear HB; have BK138 := n0_; have HB := n1_; clear n0_ n1_; (try clear hb); (try clear hb2); (try clear hk); (try clear hi)))
              go_roundg k1
              case measure => have := HK1.out; omega
              case rel => exact ⟨(wrap64 (x7_1 + 1)), (by first | rfl | (simp; done) | (simp [*]; done)), H', ⟨by have := HK1.out; omega⟩, ⟨by repeat (first | (with_reducible first | exact HB.out | apply below_alloc | apply pw_below_drewN | apply below_drew1 | refine below_set ?_ GE138.out) | exact HB.out)⟩⟩
            · replace c6 := Bool.eq_false_iff.mpr c6
              subst c6
              have H1 : (some false) = some r := by rw [if_neg (show ¬ (false = true) by decide)] at H; exact H
              clear H
              have H := H1
              clear H1
              obtain rfl := Option.some.inj H
              have p137 : 0 ≤ (x7_1 : Int) := of_decide_eq_true (by first | (with_reducible assumption) | assumption)
              have q137 : x7_1 < (l0.length : Int) := of_decide_eq_true (by first | (with_reducible assumption) | assumption)
              obtain ⟨ad137, e137, hx137_0, hx137_1, hx137_2⟩ := at_T47 HR0.out x7_1 p137 q137
              cases e137
              replace hx137_0 := (HB.out.cell (World.block_lt_of_cell? w _ hx137_0)).trans hx137_0
              replace hx137_1 := (HB.out.cell (World.block_lt_of_cell? w _ hx137_1)).trans hx137_1
              replace hx137_2 := (HB.out.cell (World.block_lt_of_cell? w _ hx137_2)).trans hx137_2
              replace p137 := eq_true p137
              replace q137 := eq_true q137
              go_wp2_with (first | ((with_reducible refine gate_dst (N := 4) rfl ?_); refine box_event ?hg (N := 4) ?hd (cs := #[.int .i64 0, .int .i64 0, .string (⟨#[]⟩ : ByteArray)]) (t := 47) ?hr ?_; (case hd => rfl); (case hg => rfl); (case hr => first | (go_simp; done) | (go_simp; rfl)); intro gb138 hg w10 hbox hb; have n0_ := Aside0.mk (below_step (by repeat (first | (with_reducible first | exact HB.out | apply below_alloc | apply pw_below_drewN | apply below_drew1) | exact HB.out)) hb); have n1_ := Aside0.mk (hbox); have n2_ := Aside0.mk ((by rw [hg]; exact (below_size (by repeat (first | (with_reducible first | exact HB.out | apply below_alloc | apply pw_below_drewN | apply below_drew1) | exact HB.out))) : w.heap.size ≤ gb138)); have n3_ := Aside0.mk ((by rw [hg]; exact (below_size (by repeat (first | (with_reducible first | exact HB.out | apply below_alloc | apply pw_below_drewN | apply below_drew1) | exact HB.out))) : w.heap.size ≤ gb138)); clear HB; have HB := n0_; have BK138 := n1_; have GW138 := n2_; have GE138 := n3_; clear n0_ n1_ n2_ n3_; clear hb hbox hg; have hcz11_0 : w10.cell? ⟨gb138, 0, none⟩ = some (.int .i64 0) := (blk_cell BK138.out 0).trans rfl; have hcz11_1 : w10.cell? ⟨gb138, 1, none⟩ = some (.int .i64 0) := (blk_cell BK138.out 1).trans rfl; have hcz11_2 : w10.cell? ⟨gb138, 2, none⟩ = some (.string (⟨#[]⟩ : ByteArray)) := (blk_cell BK138.out 2).trans rfl; have hfz11_0 := blk_frozen BK138.out 0; have hfz11_1 := blk_frozen BK138.out 1; have hfz11_2 := blk_frozen BK138.out 2) | ((with_reducible refine gate_callee (f := 37) rfl ?_); refine goesL_ (some 12) rfl rfl Tryz.func37 (by kernel_rfl) rfl #[.agg #[.int .i64 ((rd_T47 l0 x7_1).f0), .int .i64 ((rd_T47 l0 x7_1).f1), .string ((rd_T47 l0 x7_1).f2)]] rfl (by (try simp only [List.map_toArray, List.map_cons, List.map_nil]); first | done | rfl | (simp only [List.length_drop, List.length_take]; rfl)) ?_; (with_reducible refine (value_Right.calls ((rd_T47 l0 x7_1).f0) ((rd_T47 l0 x7_1).f1) ((rd_T47 l0 x7_1).f2) false _ A5.out).mono ?_); rintro e w12 ⟨rfl, hb⟩; refine ⟨_, rfl, ?_⟩; have n0_ := Aside0.mk (blk_below (g := gb138) (o := .cells #[.int .i64 ((rd_T47 l0 x7_1).f0), .int .i64 ((rd_T47 l0 x7_1).f1), .string ((rd_T47 l0 x7_1).f2)] 47 (0, 0)) (by (with_reducible repeat (first | refine blk_drewN ?_ _ | refine blk_drew ?_ | refine blk_alloc ?_ _)); refine blk_put (cs := #[.int .i64 ((rd_T47 l0 x7_1).f0), .int .i64 ((rd_T47 l0 x7_1).f1), .string (⟨#[]⟩ : ByteArray)]) ?_ 2 _ rfl; (with_reducible repeat (first | refine blk_drewN ?_ _ | refine blk_drew ?_ | refine blk_alloc ?_ _)); refine blk_put (cs := #[.int .i64 ((rd_T47 l0 x7_1).f0), .int .i64 0, .string (⟨#[]⟩ : ByteArray)]) ?_ 1 _ rfl; (with_reducible repeat (first | refine blk_drewN ?_ _ | refine blk_drew ?_ | refine blk_alloc ?_ _)); refine blk_put (cs := #[.int .i64 0, .int .i64 0, .string (⟨#[]⟩ : ByteArray)]) ?_ 0 _ rfl; (with_reducible repeat (first | refine blk_drewN ?_ _ | refine blk_drew ?_ | refine blk_alloc ?_ _)); exact BK138.out) hb); have n1_ := Aside0.mk (below_step (by repeat (first | (with_reducible first | exact HB.out | apply below_alloc | apply pw_below_drewN | apply below_drew1 | refine below_set ?_ GE138.out) | exact HB.out)) hb); clear BK138; clear HB; have BK138 := n0_; have HB := n1_; clear n0_ n1_; (try clear hb); (try clear hb2); (try clear hk); (try clear hi)))
              go_ret
              exact ⟨by first | rfl | (simp [errW_none, errW_some] <;> rfl) | (simp [*, errW_none, errW_some] <;> rfl), by repeat (first | (with_reducible first | exact HB.out | apply below_alloc | apply pw_below_drewN | apply below_drew1 | refine below_set ?_ GE138.out) | exact HB.out)⟩
          · rw [if_neg c4] at H
            exact absurd H (by simp)
        · rw [if_neg c3] at H
          exact absurd H (by simp)
      · rw [if_neg c2] at H
        have c2b0 : decide (x7_1 < (l0.length : Int)) = false := decide_eq_false c2
        clear c2
        obtain rfl := Option.some.inj H
        go_wp2
        go_ret
        exact ⟨by first | rfl | (simp [errW_none, errW_some] <;> rfl) | (simp [*, errW_none, errW_some] <;> rfl), by repeat (first | (with_reducible first | exact HB.out | apply below_alloc | apply pw_below_drewN | apply below_drew1) | exact HB.out)⟩

end Go.Proofs.YtblaibigjhlblaaGreatDoor.Q
end

section
-- written by hprint.py (a program of these sessions) out of the translation; Lean checks it
namespace Go.Proofs.YtblaibigjhlblaaGreatDoor.Q
open Go.RowKit Go.Proofs.YtblaibigjhlblaaGreatDoorW.Hb Go.Proofs.YtblaibigjhlblaaGreatDoorW.PrintWords Go.Proofs.YtblaibigjhlblaaGreatDoorW.PrintLast Go.Proofs.YtblaibigjhlblaaGreatDoorW.PrintMore
attribute [local go_sem] max2_int min2_int max_two min_two max_three min_three max_four min_four   -- for this text's walks alone
set_option linter.unusedVariables false
set_option linter.unusedSimpArgs false

/-! ### value_Put: function 7, by hand -/
/-- A value that can be written. -/
def okP (v : S47) : Bool := decide (v.f0 = 1) || (decide (v.f0 = 2) && decide (v.f2.size ≤ 256)) || (decide (v.f0 = 3) && (decide (0 ≤ v.f1) && decide (v.f1 ≤ 255)))
def pval (v : S47) : List Int := v.f0 :: (if v.f0 = 1 then bigL (IntKind.u64.wrap v.f1) 8 else if v.f0 = 2 then textB v.f2 else [v.f1])
def pvals (l : List S47) : List Int := l.flatMap pval
def putB (l : List S47) : List Int := (l.length : Int) :: pvals l
theorem okP_cases {v : S47} (h : okP v = true) : v.f0 = 1 ∨ (v.f0 = 2 ∧ v.f2.size ≤ 256) ∨ (v.f0 = 3 ∧ 0 ≤ v.f1 ∧ v.f1 ≤ 255) := by
  simp only [okP, Bool.or_eq_true, Bool.and_eq_true, decide_eq_true_eq] at h
  omega
theorem textB_len (s : ByteArray) : (textB s).length = 2 + s.size := by
  unfold textB
  rw [List.length_append, bigL_len']
  simp [bytesOf]
theorem pval_len {v : S47} (h : okP v = true) : (pval v).length ≤ 259 := by
  unfold pval
  rw [List.length_cons]
  rcases okP_cases h with h1 | ⟨h1, h2⟩ | ⟨h1, _⟩
  · rw [if_pos h1, bigL_len']; omega
  · rw [if_neg (by omega), if_pos h1, textB_len]; omega
  · rw [if_neg (by omega), if_neg (by omega)]; simp
theorem pvals_len : ∀ (l : List S47), (∀ v ∈ l, okP v = true) → (pvals l).length ≤ 259 * l.length
  | [], _ => by simp [pvals]
  | v :: r, h => by
    have h1 := pval_len (h v (by simp))
    have h2 := pvals_len r (fun x hx => h x (List.mem_cons_of_mem _ hx))
    have e : pvals (v :: r) = pval v ++ pvals r := rfl
    rw [e, List.length_append, List.length_cons]
    omega
theorem pvals_take (l : List S47) (j : Nat) (v : S47) (h : l[j]? = some v) : pvals (l.take (j + 1)) = pvals (l.take j) ++ pval v := by
  unfold pvals
  rw [List.take_add_one, h]
  simp
/-- A writer whose blocks lie from w0 on. -/
def WW (w0 w : World) (S : Nat → Prop) (g : Nat) (l : List Int) : Prop := Wr w S g l ∧ (∀ k, S k → w0.heap.size ≤ k ∧ k < w.heap.size) ∧ Below w0.heap.size w0 w
theorem WW.wr {w0 w : World} {S : Nat → Prop} {g : Nat} {l : List Int} (h : WW w0 w S g l) : Wr w S g l := h.1
theorem WW.bel {w0 w : World} {S : Nat → Prop} {g : Nat} {l : List Int} (h : WW w0 w S g l) : Below w0.heap.size w0 w := h.2.2
def Kb (w w' : World) (S S' : Nat → Prop) : Prop := ∀ gv t cs, Blk w gv t cs → ¬ S gv → Blk w' gv t cs ∧ ¬ S' gv
section
variable {w0 w w' : World} {S : Nat → Prop} {g : Nat} {l : List Int}
theorem WW.below (h : WW w0 w S g l) (hb : Below w.heap.size w w') : WW w0 w' S g l :=
  ⟨h.1.below hb, fun k hk => ⟨(h.2.1 k hk).1, Nat.lt_of_lt_of_le (h.2.1 k hk).2 hb.size⟩, h.2.2.trans (hb.mono h.2.2.size)⟩
theorem WW.step {l' : List Int} (h : WW w0 w S g l) (h1 : Wr w' (SS S w w') g l') (hf : Fr w w' S) : ∃ S', WW w0 w' S' g l' ∧ Kb w w' S S' := by
  have hs := hf.1.size
  have hz := h.2.2.size
  refine ⟨SS S w w', ⟨h1, fun k hk => ?_, h.2.2.trans (hf.below hz (fun k hk => (h.2.1 k hk).1))⟩, fun gv t cs hB hn => ⟨blk_kept hB hf.2 hn, fun hk => ?_⟩⟩
  · rcases hk with hk | hk
    · have := h.2.1 k hk
      omega
    · omega
  · rcases hk with hk | hk
    · exact hn hk
    · have := hB.lt
      omega
theorem byteS (A : Option Addr) (x : Int) (h : WW w0 w S g l) (hx0 : 0 ≤ x) (hx1 : x ≤ 255) (hl : l.length + 1 ≤ 1048576) (hr : (Kd.int .i64).C w A 1 [x]) : Calls Tryz.prog 19 #[.pointer (some ⟨g, 0, none⟩), .slice A 1 1] w fun en w' => en = .returned (.int .i64 0) ∧ ∃ S', WW w0 w' S' g (l ++ [x]) ∧ Kb w w' S S' := by
  have hw : wbytes l [x] = (l ++ [x], 0) := by
    rw [wbytes_ok (fun y hy => by rw [List.mem_singleton] at hy; rw [hy]; exact badB_ok hx0 hx1), wmore_yes (by simp only [List.length_singleton]; omega)]
  have := wire_Writer_Byte.calls S g l A 1 1 [x] w rfl hr (Nat.le_refl _) (by simp) h.1 (by omega)
  rw [hw] at this
  exact this.mono fun en w' ⟨he, h1, hf⟩ => ⟨he, h.step h1 hf⟩
theorem intS (A : Option Addr) (x : Int) (h : WW w0 w S g l) (hl : l.length + 8 ≤ 1048576) (hr : (Kd.int .i64).C w A 1 [x]) : Calls Tryz.prog 20 #[.pointer (some ⟨g, 0, none⟩), .slice A 1 1] w fun en w' => en = .returned (.int .i64 0) ∧ ∃ S', WW w0 w' S' g (l ++ bigL (IntKind.u64.wrap x) 8) ∧ Kb w w' S S' := by
  have hw : wmore l (ints8 [x]) = (l ++ bigL (IntKind.u64.wrap x) 8, 0) := by
    have e : ints8 [x] = bigL (IntKind.u64.wrap x) 8 := by simp [ints8]
    rw [e, wmore_yes (by rw [bigL_len']; omega)]
  have := wire_Writer_Int.calls S g l A 1 1 [x] w rfl hr (Nat.le_refl _) (by simp) h.1 (by omega)
  rw [hw] at this
  exact this.mono fun en w' ⟨he, h1, hf⟩ => ⟨he, h.step h1 hf⟩
theorem textS (A : Option Addr) (x : ByteArray) (h : WW w0 w S g l) (hx : x.size ≤ 256) (hl : l.length + 258 ≤ 1048576) (hr : Kd.string.C w A 1 [x]) : Calls Tryz.prog 21 #[.pointer (some ⟨g, 0, none⟩), .slice A 1 1] w fun en w' => en = .returned (.int .i64 0) ∧ ∃ S', WW w0 w' S' g (l ++ textB x) ∧ Kb w w' S S' := by
  have e : textsB [x] = textB x := by simp [textsB]
  have hw : wtexts l [x] = (l ++ textB x, 0) := by
    unfold wtexts
    rw [if_neg (by simp [tlong]; omega), e, wmore_yes (by rw [textB_len]; omega)]
  have := wire_Writer_Text.calls S g l A 1 1 [x] w rfl hr (Nat.le_refl _) (by rw [e, textB_len]; omega) (by simp) h.1 (by omega)
  rw [hw] at this
  exact this.mono fun en w' ⟨he, h1, hf⟩ => ⟨he, h.step h1 hf⟩
end
theorem litC1 (w : World) (x : Int) (b : Nat) (hb : b = w.heap.size) : (Kd.int .i64).C (w.alloc (.cells #[.int .i64 x] 3)) (some ⟨b, 0, none⟩) 1 [x] := C_lit_int w b hb .i64 [x] _ rfl 3 (by simp)
theorem strC1 (w : World) (s : ByteArray) (b : Nat) (hb : b = w.heap.size) : Kd.string.C (w.alloc (.cells #[.string s] 9)) (some ⟨b, 0, none⟩) 1 [s] := by
  subst hb
  exact C_of_reps (d := Kd.string) (Blk.new w 9 #[.string s]) [s] (Reps_one (c := [.string s]) (rfl) rfl) (by simp)
def value_Put.f (k : Nat) (l0 : List S47) : Option (List Int × Int) := if 255 < l0.length then some ([], 6) else (value_all.f k l0).bind fun q => if q = true then (if l0.all okP = true then some (putB l0, 0) else none) else some ([], 1)
theorem value_Put.mono : ∀ a0 k, LeO (value_Put.f k a0) (value_Put.f (k + 1) a0) := fun a0 k => by
  unfold value_Put.f
  split
  · exact LeO.refl _
  · exact LeO.bind (value_all.mono _ _) (fun _ => LeO.refl _)
set_option maxRecDepth 100000 in
set_option maxHeartbeats 4000000 in
theorem value_Put.calls (k : Nat) (A0 : Option Addr) (c0 : Nat) (l0 : List S47) (r1 : List Int) (r2 : Int) (w : World) (hr0 : Kd.C k47 w A0 l0.length l0) (hc0 : l0.length ≤ c0) (h : value_Put.f k l0 = some (r1, r2)) :
    Calls Tryz.prog 7 #[.slice A0 l0.length c0] w fun e w' => ∃ v0_ : Value, e = .returned (.tuple #[v0_, .int .i64 r2]) ∧ Kd.R (Kd.int .u8) 5 w' w.heap.size (fun _ => True) v0_ r1 ∧ Below w.heap.size w w' := by
  unfold value_Put.f at h
  have hm := hr0.2.1
  by_cases hbig : 255 < l0.length
  · rw [if_pos hbig] at h
    obtain ⟨rfl, rfl⟩ := Prod.mk.inj (Option.some.inj h)
    have hbi : (255 : Int) < (l0.length : Int) := by omega
    clear h
    go_enter Tryz.func7, Tryz.ntmps7
    go_wp2
    go_ret2
    exact ⟨_, rfl, Kd.R_nil _ _ _ _ _, Below.refl _ _⟩
  rw [if_neg hbig] at h
  have hbi : ¬ (255 : Int) < (l0.length : Int) := by omega
  obtain ⟨q, hq, h⟩ := Option.bind_eq_some_iff.1 h
  have HR := Aside0.mk hr0
  have HQ := Aside0.mk (value_all.calls k A0 c0 l0 q w hr0 hc0 hq)
  clear hr0 hq
  cases q
  · rw [if_neg (by decide)] at h
    obtain ⟨rfl, rfl⟩ := Prod.mk.inj (Option.some.inj h)
    clear h
    go_enter Tryz.func7, Tryz.ntmps7
    go_wp2_with (go_at_call 17; (with_reducible refine HQ.out.mono ?_); rintro e w1 ⟨rfl, hb⟩; have HB1 := Aside0.mk hb; clear hb)
    go_ret2
    exact ⟨_, rfl, Kd.R_nil _ _ _ _ _, HB1.out⟩
  rw [if_pos rfl] at h
  by_cases hall : l0.all okP = true
  rotate_left
  · rw [if_neg hall] at h
    cases h
  rw [if_pos hall] at h
  obtain ⟨rfl, rfl⟩ := Prod.mk.inj (Option.some.inj h)
  have HOK := Aside0.mk (show ∀ v ∈ l0, okP v = true from List.all_eq_true.1 hall)
  have HPL := Aside0.mk (show ∀ j, (pvals (l0.take j)).length ≤ 66045 from fun j => by
    have h1 := pvals_len (l0.take j) (fun v hv => HOK.out v (List.mem_of_mem_take hv))
    rw [List.length_take] at h1
    omega)
  have hl255 : l0.length ≤ 255 := by omega
  clear h hall hbig
  go_enter Tryz.func7, Tryz.ntmps7
  go_upto_region 6 with (first | (go_at_call 17; (with_reducible refine HQ.out.mono ?_); rintro e w1 ⟨rfl, hb⟩; have HB1 := Aside0.mk hb; clear hb) | (go_at_call 18; (with_reducible refine (wire_NewWriter.calls w1).mono ?_); rintro e w3 ⟨g, rfl, hW3, hg3, hB3⟩; have HW3 := Aside0.mk (show WW w w3 (fun k => k = g) g [] from ⟨hW3, fun k hk => by subst hk; exact ⟨Nat.le_trans HB1.out.size hg3, hW3.lt⟩, HB1.out.trans (hB3.mono HB1.out.size)⟩); clear hW3 hg3 hB3))
  clear HQ
  have HWa := Aside0.mk (HW3.out.below ((Below.refl _ w3).alloc (Nat.le_refl _) (.cells #[.int .i64 (l0.length : Int)] 3)))
  go_wp2_with (fail)
  with_reducible refine (byteS _ (l0.length : Int) HWa.out (by omega) (by omega) (by simp) (litC1 w3 ((l0.length : Int)) _ rfl)).mono ?_
  rintro e w4 ⟨rfl, S4, hW4, _⟩
  have HW4 := Aside0.mk (show WW w w4 S4 g ((l0.length : Int) :: pvals (l0.take 0)) from hW4)
  clear hW4 HWa HW3 HB1
  go_wp2_with (fail)
  go_loopw [23] (fun v23 wl => ∃ (j : Nat) (S : Nat → Prop), j ≤ l0.length ∧ v23 = .int .i64 j ∧ Aside0 (WW w wl S g ((l0.length : Int) :: pvals (l0.take j)))) (fun v _ => l0.length - (intOf v).toNat)
  case atStart => exact ⟨0, S4, Nat.zero_le _, rfl, HW4⟩
  case round =>
    clear HW4
    obtain ⟨j, S, hj, rfl, HW⟩ := hrel
    by_cases hlt : j < l0.length
    · obtain ⟨ad, e, x0, x1, x2⟩ := at_T47 (Kd.C_below HR.out HW.out.2.2) (j : Int) (by omega) (by omega)
      cases e
      obtain ⟨v, hv⟩ : ∃ v, l0[j]? = some v := ⟨_, List.getElem?_eq_getElem hlt⟩
      have hrd : rd_T47 l0 (j : Int) = v := by unfold rd_T47; rw [Int.toNat_natCast, List.getD_eq_getElem?_getD, hv]; rfl
      rw [hrd, Int.toNat_natCast] at x0 x1 x2
      have hok := okP_cases (HOK.out v (List.mem_of_getElem? hv))
      have HPT := Aside0.mk (pvals_take l0 j v hv)
      obtain ⟨f0, f1, f2⟩ := v
      dsimp only at x0 x1 x2 hok
      obtain ⟨L, hL⟩ : ∃ L, (l0.length : Int) :: pvals (l0.take j) = L := ⟨_, rfl⟩
      have hLL : L.length ≤ 66046 := by rw [← hL]; have := HPL.out j; simp only [List.length_cons]; omega
      have HPN := Aside0.mk (show (l0.length : Int) :: pvals (l0.take (j + 1)) = L ++ pval ⟨f0, f1, f2⟩ by rw [HPT.out, ← hL]; rfl)
      rw [hL] at HW
      have HK := Aside0.mk (Blk.new wr 47 #[.int .i64 f0, .int .i64 f1, .string f2])
      have HWa := Aside0.mk (HW.out.below ((Below.refl _ wr).alloc (Nat.le_refl _) (.cells #[.int .i64 f0, .int .i64 f1, .string f2] 47)))
      have hnS : ¬ S wr.heap.size := fun h => by have := (HW.out.2.1 _ h).2; omega
      have hlti : (j : Int) < (l0.length : Int) := by omega
      clear hv hrd HW hL HPT
      go_upto_region 10 with (fail)
      generalize wr.alloc (.cells #[.int .i64 f0, .int .i64 f1, .string f2] 47) = wa at HK HWa ⊢
      generalize wr.heap.size = gv at HK hnS ⊢
      clear x0 x1 x2
      have k0 : wa.cell? ⟨gv, 0, none⟩ = some (.int .i64 f0) := HK.out.cell 0
      have HWb := Aside0.mk (HWa.out.below ((Below.refl _ wa).alloc (Nat.le_refl _) (.cells #[.int .i64 f0] 3)))
      have hf0 : 0 ≤ f0 ∧ f0 ≤ 255 := by omega
      go_wp2_with (fail)
      with_reducible refine (byteS _ f0 HWb.out hf0.1 hf0.2 (by omega) (litC1 wa (f0) _ rfl)).mono ?_
      rintro e w4 ⟨rfl, S4, hW4, hK4⟩
      have HW4 := Aside0.mk hW4
      obtain ⟨hB4, hn4⟩ := hK4 gv _ _ (HK.out.alloc _) hnS
      have HK4 := Aside0.mk hB4
      clear hW4 hK4 hB4 HK HWa HWb k0
      have k0 : w4.cell? ⟨gv, 0, none⟩ = some (.int .i64 f0) := HK4.out.cell 0
      have k1 : w4.cell? ⟨gv, 1, none⟩ = some (.int .i64 f1) := HK4.out.cell 1
      have k2 : w4.cell? ⟨gv, 2, none⟩ = some (.string f2) := HK4.out.cell 2
      have hL1 : (L ++ [f0]).length ≤ 66047 := by simp only [List.length_append, List.length_singleton]; omega
      by_cases h1 : f0 = 1
      · have e1 : (f0 == 1) = true := by simp [h1]
        have HPV := Aside0.mk (show L ++ pval ⟨f0, f1, f2⟩ = (L ++ [f0]) ++ bigL (IntKind.u64.wrap f1) 8 by unfold pval; rw [if_pos h1]; simp)
        have HWb := Aside0.mk (HW4.out.below ((Below.refl _ w4).alloc (Nat.le_refl _) (.cells #[.int .i64 f1] 3)))
        go_wp2_with (fail)
        with_reducible refine (intS _ f1 HWb.out (by omega) (litC1 w4 (f1) _ rfl)).mono ?_
        rintro e w5 ⟨rfl, S5, hW5, _⟩
        rw [← HPV.out, ← HPN.out] at hW5
        have HW5 := Aside0.mk hW5
        clear hW5
        go_wp2_with (fail)
        go_roundw
        case rel => exact ⟨j + 1, S5, by omega, by go_num, HW5⟩
        case measure => simp [intOf]; omega
      · have e1 : (f0 == 1) = false := by simp [h1]
        by_cases h2 : f0 = 2
        · have e2 : (f0 == 2) = true := by simp [h2]
          have hs2 : f2.size ≤ 256 := by omega
          have HPV := Aside0.mk (show L ++ pval ⟨f0, f1, f2⟩ = (L ++ [f0]) ++ textB f2 by unfold pval; rw [if_neg h1, if_pos h2]; simp)
          have HWb := Aside0.mk (HW4.out.below ((Below.refl _ w4).alloc (Nat.le_refl _) (.cells #[.string f2] 9)))
          go_wp2_with (fail)
          with_reducible refine (textS _ f2 HWb.out hs2 (by omega) (strC1 w4 f2 _ rfl)).mono ?_
          rintro e w5 ⟨rfl, S5, hW5, _⟩
          rw [← HPV.out, ← HPN.out] at hW5
          have HW5 := Aside0.mk hW5
          clear hW5
          go_wp2_with (fail)
          go_roundw
          case rel => exact ⟨j + 1, S5, by omega, by go_num, HW5⟩
          case measure => simp [intOf]; omega
        · have e2 : (f0 == 2) = false := by simp [h2]
          have hf1 : 0 ≤ f1 ∧ f1 ≤ 255 := by omega
          have HPV := Aside0.mk (show L ++ pval ⟨f0, f1, f2⟩ = (L ++ [f0]) ++ [f1] by unfold pval; rw [if_neg h1, if_neg h2]; simp)
          have HWb := Aside0.mk (HW4.out.below ((Below.refl _ w4).alloc (Nat.le_refl _) (.cells #[.int .i64 f1] 3)))
          go_wp2_with (fail)
          with_reducible refine (byteS _ f1 HWb.out hf1.1 hf1.2 (by omega) (litC1 w4 (f1) _ rfl)).mono ?_
          rintro e w5 ⟨rfl, S5, hW5, _⟩
          rw [← HPV.out, ← HPN.out] at hW5
          have HW5 := Aside0.mk hW5
          clear hW5
          go_wp2_with (fail)
          go_roundw
          case rel => exact ⟨j + 1, S5, by omega, by go_num, HW5⟩
          case measure => simp [intOf]; omega
    · have hlti : ¬ (j : Int) < (l0.length : Int) := by omega
      have hta : l0.take j = l0 := List.take_of_length_le (by omega)
      rw [hta] at HW
      have hL0 := HPL.out l0.length
      rw [List.take_length] at hL0
      have hlen : ((l0.length : Int) :: pvals l0).length ≤ 1048576 := by simp only [List.length_cons]; omega
      go_wp2_with (fail)
      with_reducible refine (wire_Writer_Bytes.calls S g _ wr HW.out.wr hlen).mono ?_
      rintro e w5 ⟨v5, rfl, hR5, hB5⟩
      have HR5 := Aside0.mk hR5
      have HB5 := Aside0.mk hB5
      clear hR5 hB5
      go_wp2_with (fail)
      go_ret2
      exact ⟨_, rfl, Kd.R_lower HR5.out HW.out.2.2.size, HW.out.2.2.trans (HB5.out.mono HW.out.2.2.size)⟩


end Go.Proofs.YtblaibigjhlblaaGreatDoor.Q
end

section
-- written by hprint.py (a program of these sessions) out of the translation; Lean checks it
namespace Go.Proofs.YtblaibigjhlblaaGreatDoor.Q
open Go.RowKit Go.Proofs.YtblaibigjhlblaaGreatDoorW.Hb Go.Proofs.YtblaibigjhlblaaGreatDoorW.PrintWords Go.Proofs.YtblaibigjhlblaaGreatDoorW.PrintLast Go.Proofs.YtblaibigjhlblaaGreatDoorW.PrintMore
attribute [local go_sem] max2_int min2_int max_two min_two max_three min_three max_four min_four   -- for this text's walks alone
set_option linter.unusedVariables false
set_option linter.unusedSimpArgs false

/-! ### wire_Reader_none: function 51, by hand -/
set_option maxRecDepth 100000 in
theorem wire_Reader_none.calls (g : Nat) (v ev : Value) (mb : Bool) (w : World) (hb : Blk w g 81 #[v, .bool mb, ev]) : Calls Tryz.prog 51 #[.pointer (some ⟨g, 0, none⟩)] w fun e w' => e = .returned (.bool (!mb)) ∧ w' = w := by
  have h1 : w.cell? ⟨g, 1, none⟩ = some (.bool mb) := hb.cell 1
  clear hb
  cases mb <;> (go_enter Tryz.func51, Tryz.ntmps51; go_wp2; go_ret; exact ⟨rfl, rfl⟩)
theorem wire_Reader_none.callsNil (w : World) : Calls Tryz.prog 51 #[.pointer none] w fun e w' => e = .returned (.bool true) ∧ w' = w := by
  go_enter Tryz.func51, Tryz.ntmps51
  go_wp2
  go_ret
  exact ⟨rfl, rfl⟩


end Go.Proofs.YtblaibigjhlblaaGreatDoor.Q
end

section
-- written by hprint.py (a program of these sessions) out of the translation; Lean checks it
namespace Go.Proofs.YtblaibigjhlblaaGreatDoor.Q
open Go.RowKit Go.Proofs.YtblaibigjhlblaaGreatDoorW.Hb Go.Proofs.YtblaibigjhlblaaGreatDoorW.PrintWords Go.Proofs.YtblaibigjhlblaaGreatDoorW.PrintLast Go.Proofs.YtblaibigjhlblaaGreatDoorW.PrintMore
attribute [local go_sem] max2_int min2_int max_two min_two max_three min_three max_four min_four   -- for this text's walks alone
set_option linter.unusedVariables false
set_option linter.unusedSimpArgs false

/-! ### wire_bytes_Left: function 69, by hand -/
theorem wire_bytes_Left.calls (g : Nat) (A : Option Addr) (n c : Nat) (w : World) (h : w.cell? ⟨g, 0, none⟩ = some (.slice A n c)) : Calls Tryz.prog 69 #[.pointer (some ⟨g, 0, none⟩)] w fun e w' => e = .returned (.int .i64 n) ∧ w' = w := by
  go_enter Tryz.func69, Tryz.ntmps69
  go_wp2
  go_ret
  exact ⟨rfl, rfl⟩


end Go.Proofs.YtblaibigjhlblaaGreatDoor.Q
end

section
-- written by hprint.py (a program of these sessions) out of the translation; Lean checks it
namespace Go.Proofs.YtblaibigjhlblaaGreatDoor.Q
open Go.RowKit Go.Proofs.YtblaibigjhlblaaGreatDoorW.Hb Go.Proofs.YtblaibigjhlblaaGreatDoorW.PrintWords Go.Proofs.YtblaibigjhlblaaGreatDoorW.PrintLast Go.Proofs.YtblaibigjhlblaaGreatDoorW.PrintMore
attribute [local go_sem] max2_int min2_int max_two min_two max_three min_three max_four min_four   -- for this text's walks alone
set_option linter.unusedVariables false
set_option linter.unusedSimpArgs false

/-! ### wire_Reader_take: function 49, by hand -/
theorem ct_from {P : Program} (t e : TypeId) {i : TypeInfo} (ht : P.underlying t = some (.slice e)) (hi : P.info? e = some i) (hsz : i.size = 1) (A : Option Addr) (c : Nat) (xs : List Int) (lo : Int) (h0 : 0 ≤ lo) (h1 : lo ≤ xs.length) (hc : xs.length ≤ c) (ys : List Int) (hys : ys = xs.drop lo.toNat) :
    ∃ A' c', (∀ W : World, (Instr.slice t (.slice A xs.length c) (some (.int .i64 lo)) none none).run P W = .ok (.slice A' ys.length c') W) ∧ ys.length ≤ c' ∧ (∀ ad, A' = some ad → ∃ a0, A = some a0 ∧ ad.block = a0.block) ∧ ∀ (w : World) (k : IntKind), (Kd.int k).C w A xs.length xs → (Kd.int k).C w A' ys.length ys := by
  subst hys
  have hl : (xs.drop lo.toNat).length = xs.length - lo.toNat := by simp
  refine ⟨(if c = lo.toNat then A else A.map (·.add (lo.toNat * 1))), c - lo.toNat, fun W => ?_, by rw [hl]; omega, fun ad e => ?_, fun w k h => ?_⟩
  · rw [hl]
    exact cut_from t e .i64 ht hi 1 hsz A xs.length c lo h0 h1 W
  · split at e
    · exact ⟨ad, e, rfl⟩
    · obtain ⟨a0, rfl, rfl⟩ := Option.map_eq_some_iff.1 e
      exact ⟨a0, rfl, add_block a0 _⟩
  · exact Kd.C_drop h (by omega) hc
theorem ct_to {P : Program} (t e : TypeId) {i : TypeInfo} (ht : P.underlying t = some (.slice e)) (hi : P.info? e = some i) (A : Option Addr) (c : Nat) (xs : List Int) (hi' : Int) (h0 : 0 ≤ hi') (h1 : hi' ≤ xs.length) (hc : xs.length ≤ c) (ys : List Int) (hys : ys = xs.take hi'.toNat) :
    (∀ W : World, (Instr.slice t (.slice A xs.length c) none (some (.int .i64 hi')) none).run P W = .ok (.slice A ys.length c) W) ∧ ys.length ≤ c ∧ ∀ (w : World) (k : IntKind), (Kd.int k).C w A xs.length xs → (Kd.int k).C w A ys.length ys := by
  subst hys
  have hl : (xs.take hi'.toNat).length = hi'.toNat := by simp; omega
  refine ⟨fun W => ?_, by rw [hl]; omega, fun w k h => Kd.C_take h (by omega)⟩
  rw [hl]
  exact cut_to t e .i64 ht hi A xs.length c hi' h0 h1 hc W
/-- A reader that was made: its block g, what is left, its error; S: its blocks (its own and the one that it reads). -/
def Rd (w : World) (S : Nat → Prop) (g : Nat) (xs : List Int) (e : Int) : Prop := ∃ A c, Blk w g 81 #[.slice A xs.length c, .bool true, .int .i64 e] ∧ xs.length ≤ c ∧ S g ∧ (∀ ad, A = some ad → S ad.block ∧ ad.block ≠ g ∧ ad.block < w.heap.size) ∧ (Kd.int .u8).C w A xs.length xs ∧ ∀ x ∈ xs, 0 ≤ x ∧ x ≤ 255
theorem Rd.lt {w : World} {S : Nat → Prop} {g : Nat} {xs : List Int} {e : Int} (h : Rd w S g xs e) : g < w.heap.size := by
  obtain ⟨A, c, hb, _⟩ := h
  exact hb.lt
theorem C_keptb {w w1 : World} {A : Option Addr} {xs : List Int} {S2 : Nat → Prop} (h : (Kd.int .u8).C w A xs.length xs) (hk : Kept w w1 S2) (hd : ∀ ad, A = some ad → ¬ S2 ad.block ∧ ad.block < w.heap.size) : (Kd.int .u8).C w1 A xs.length xs := C_blocks h (fun ad e => hk.2 _ (hd ad e).2 (hd ad e).1)
theorem Rd.kept {w w' : World} {S S2 : Nat → Prop} {g : Nat} {xs : List Int} {e : Int} (h : Rd w S g xs e) (hk : Kept w w' S2) (hd : ∀ k, S k → ¬ S2 k) : Rd w' S g xs e := by
  obtain ⟨A, c, hb, hc, hS, hA, hC, hx⟩ := h
  exact ⟨A, c, blk_kept hb hk (hd g hS), hc, hS, fun ad e => ⟨(hA ad e).1, (hA ad e).2.1, Nat.lt_of_lt_of_le (hA ad e).2.2 hk.1⟩, C_keptb hC hk (fun ad e => ⟨hd _ (hA ad e).1, (hA ad e).2.2⟩), hx⟩
theorem Rd.mono {w : World} {S S' : Nat → Prop} {g : Nat} {xs : List Int} {e : Int} (h : Rd w S g xs e) (hs : ∀ k, S k → S' k) : Rd w S' g xs e := by
  obtain ⟨A, c, hb, hc, hS, hA, hC, hx⟩ := h
  exact ⟨A, c, hb, hc, hs g hS, fun ad e => ⟨hs _ (hA ad e).1, (hA ad e).2⟩, hC, hx⟩
theorem Rd.below {w w' : World} {S : Nat → Prop} {g : Nat} {xs : List Int} {e : Int} (h : Rd w S g xs e) (hb : Below w.heap.size w w') : Rd w' S g xs e := h.kept (Kept.of_below hb (fun _ => False)) (fun _ _ hk => hk)
/-- A store into a reader's own block. -/
theorem Rd.far {w : World} {g : Nat} {A : Option Addr} {xs : List Int} (hC : (Kd.int .u8).C w A xs.length xs) (hA : ∀ ad, A = some ad → ad.block ≠ g ∧ ad.block < w.heap.size) (j : Nat) (u : Value) : (Kd.int .u8).C (w.setCell ⟨g, j, none⟩ u) A xs.length xs :=
  C_keptb (S2 := fun k => k = g) hC (Kept.setCell (S := fun k => k = g) (Kept.refl w _) (.inl rfl) u) (fun ad e => ⟨(hA ad e).1, (hA ad e).2⟩)
theorem Fr.set_ (w : World) (g j : Nat) (u : Value) : Fr w (w.setCell ⟨g, j, none⟩ u) (fun k => k = g) := ⟨(Below.refl 0 w).setCell (Nat.zero_le _) u, Kept.setCell (S := fun k => k = g) (Kept.refl w _) (.inl rfl) u⟩
set_option maxRecDepth 100000 in
theorem wire_Reader_take.calls_err (S : Nat → Prop) (g : Nat) (xs : List Int) (ev n : Int) (w : World) (hR : Rd w S g xs ev) (he : ev ≠ 0) :
    Calls Tryz.prog 49 #[.pointer (some ⟨g, 0, none⟩), .int .i64 n] w fun e w' => e = .returned (.slice none 0 0) ∧ w' = w := by
  obtain ⟨A, c, hb, hc, hS, hA, hC, hx⟩ := hR
  have HB := Aside0.mk hb
  have h2 : w.cell? ⟨g, 2, none⟩ = some (.int .i64 ev) := hb.cell 2
  have d1 : (ev == 0) = false := by simp [he]
  have d2 : (ev != 0) = true := by simp [he]
  clear hb hC hx hA he
  go_enter Tryz.func49, Tryz.ntmps49
  go_wp2_with (go_at_call 51; (with_reducible refine (wire_Reader_none.calls g _ _ true _ HB.out).mono ?_); rintro e2 w2 ⟨rfl, hw2⟩; subst w2)
  go_ret
  exact ⟨rfl, rfl⟩
set_option maxRecDepth 100000 in
theorem wire_Reader_take.calls_end (S : Nat → Prop) (g : Nat) (xs : List Int) (n : Int) (w : World) (hR : Rd w S g xs 0) (hn : (xs.length : Int) < n) :
    Calls Tryz.prog 49 #[.pointer (some ⟨g, 0, none⟩), .int .i64 n] w fun e w' => e = .returned (.slice none 0 0) ∧ Rd w' S g xs 20 ∧ Fr w w' (fun k => k = g) := by
  obtain ⟨A, c, hb, hc, hS, hA, hC, hx⟩ := hR
  have HB := Aside0.mk hb
  have h0 : w.cell? ⟨g, 0, none⟩ = some (.slice A xs.length c) := hb.cell 0
  have h2 : w.cell? ⟨g, 2, none⟩ = some (.int .i64 0) := hb.cell 2
  have f2 : w.frozen? ⟨g, 2, none⟩ = false := hb.frozen 2
  have d1 : decide ((xs.length : Int) < n) = true := decide_eq_true hn
  have HC := Aside0.mk hC
  have HX := Aside0.mk hx
  have HA := Aside0.mk hA
  have hm : xs.length ≤ 9223372036854775807 := hC.2.1
  clear hb hC hx hA hn
  go_enter Tryz.func49, Tryz.ntmps49
  go_wp2_with (first | (go_at_call 51; (with_reducible refine (wire_Reader_none.calls g _ _ true _ HB.out).mono ?_); rintro e2 w2 ⟨rfl, hw2⟩; subst w2) | (go_at_call 69; (with_reducible refine (wire_bytes_Left.calls g A xs.length c _ (HB.out.cell 0)).mono ?_); rintro e2 w2 ⟨rfl, hw2⟩; subst w2))
  go_ret
  refine ⟨rfl, ⟨A, c, by simpa using HB.out.set_ 2 (.int .i64 20), hc, hS, fun ad e => ⟨(HA.out ad e).1, (HA.out ad e).2.1, by simpa [World.setCell] using (HA.out ad e).2.2⟩, Rd.far HC.out (fun ad e => (HA.out ad e).2) 2 _, HX.out⟩, Fr.set_ w g 2 _⟩
set_option maxRecDepth 100000 in
set_option maxHeartbeats 1000000 in
theorem wire_Reader_take.calls_ok (S : Nat → Prop) (g : Nat) (xs : List Int) (n : Int) (m : Nat) (hnm : n = (m : Int)) (y z : List Int) (hy' : xs.take m = y) (hz' : xs.drop m = z) (w : World) (hR : Rd w S g xs 0) (hn : m ≤ xs.length) :
    Calls Tryz.prog 49 #[.pointer (some ⟨g, 0, none⟩), .int .i64 n] w fun e w' => ∃ A c, e = .returned (.slice A y.length c) ∧ y.length ≤ c ∧ (Kd.int .u8).C w' A y.length y ∧ (∀ ad, A = some ad → S ad.block ∧ ad.block ≠ g ∧ ad.block < w'.heap.size) ∧ Rd w' S g z 0 ∧ Fr w w' (fun k => k = g) := by
  have hy := hy'.symm
  have hz := hz'.symm
  clear hy' hz'
  subst hnm
  obtain ⟨A, c, hb, hc, hS, hA, hC, hx⟩ := hR
  obtain ⟨ii, hii, his⟩ : ∃ ii, Tryz.prog.info? 5 = some ii ∧ ii.size = 1 := by
    obtain ⟨ii, h1, h2⟩ := Option.map_eq_some_iff.1 info5
    exact ⟨ii, h1, congrArg (fun p => p.2.1) h2⟩
  obtain ⟨hq1, hyc, hC1⟩ := ct_to (P := Tryz.prog) 23 5 Tryz.underlying23 hii A c xs (m : Int) (by omega) (by omega) hc y (by rw [hy, Int.toNat_natCast])
  obtain ⟨A2, c2, hq2, hzc, hA2, hC2⟩ := ct_from (P := Tryz.prog) 23 5 Tryz.underlying23 hii his A c xs (m : Int) (by omega) (by omega) hc z (by rw [hz, Int.toNat_natCast])
  have HB := Aside0.mk hb
  have h0 : w.cell? ⟨g, 0, none⟩ = some (.slice A xs.length c) := hb.cell 0
  have f0 : w.frozen? ⟨g, 0, none⟩ = false := hb.frozen 0
  have h2 : w.cell? ⟨g, 2, none⟩ = some (.int .i64 0) := hb.cell 2
  have d1 : decide (xs.length < m) = false := decide_eq_false (by omega)
  have HC := Aside0.mk hC
  have HX := Aside0.mk (show ∀ x ∈ z, 0 ≤ x ∧ x ≤ 255 from fun x h => hx x (List.mem_of_mem_drop (hz ▸ h)))
  have HA := Aside0.mk hA
  have HA2 := Aside0.mk hA2
  have HC1 := Aside0.mk (hC1 w .u8 hC)
  have HC2 := Aside0.mk (hC2 w .u8 hC)
  have hm : xs.length ≤ 9223372036854775807 := hC.2.1
  clear hb hC hx hA hA2 hC1 hC2 hy hz hn
  go_enter Tryz.func49, Tryz.ntmps49
  go_wp2_with (first | (go_at_call 51; (with_reducible refine (wire_Reader_none.calls g _ _ true _ HB.out).mono ?_); rintro e2 w2 ⟨rfl, hw2⟩; subst w2) | (go_at_call 69; (with_reducible refine (wire_bytes_Left.calls g A xs.length c _ (HB.out.cell 0)).mono ?_); rintro e2 w2 ⟨rfl, hw2⟩; subst w2))
  go_ret
  have hA3 : ∀ ad, A2 = some ad → S ad.block ∧ ad.block ≠ g ∧ ad.block < w.heap.size := fun ad e => by
    obtain ⟨a0, e0, hbk⟩ := HA2.out ad e
    rw [hbk]
    exact HA.out a0 e0
  refine ⟨A, c, rfl, hyc, Rd.far HC1.out (fun ad e => (HA.out ad e).2) 0 _, fun ad e => ⟨(HA.out ad e).1, (HA.out ad e).2.1, by simpa [World.setCell] using (HA.out ad e).2.2⟩, ⟨A2, c2, by simpa using HB.out.set_ 0 (.slice A2 z.length c2), hzc, hS, fun ad e => ⟨(hA3 ad e).1, (hA3 ad e).2.1, by simpa [World.setCell] using (hA3 ad e).2.2⟩, Rd.far HC2.out (fun ad e => (hA3 ad e).2) 0 _, HX.out⟩, Fr.set_ w g 0 _⟩


end Go.Proofs.YtblaibigjhlblaaGreatDoor.Q
end

section
-- written by hprint.py (a program of these sessions) out of the translation; Lean checks it
namespace Go.Proofs.YtblaibigjhlblaaGreatDoor.Q
open Go.RowKit Go.Proofs.YtblaibigjhlblaaGreatDoorW.Hb Go.Proofs.YtblaibigjhlblaaGreatDoorW.PrintWords Go.Proofs.YtblaibigjhlblaaGreatDoorW.PrintLast Go.Proofs.YtblaibigjhlblaaGreatDoorW.PrintMore
attribute [local go_sem] max2_int min2_int max_two min_two max_three min_three max_four min_four   -- for this text's walks alone
set_option linter.unusedVariables false
set_option linter.unusedSimpArgs false

/-! ### wire_Reader_Byte: function 26, by hand -/
def rByte (xs : List Int) (e : Int) : Int × List Int × Int := if e ≠ 0 then (0, xs, e) else if xs.length < 1 then (0, xs, 20) else (rd xs 0, xs.drop 1, 0)
theorem rd_take {xs : List Int} {n i : Nat} (h : i < n) : rd (xs.take n) (i : Int) = rd xs (i : Int) := by
  simp only [rd, Int.toNat_natCast, List.getD_eq_getElem?_getD, List.getElem?_take, h, if_true]
theorem rd_in {xs : List Int} (hx : ∀ x ∈ xs, 0 ≤ x ∧ x ≤ 255) (i : Nat) (hi : i < xs.length) : 0 ≤ rd xs (i : Int) ∧ rd xs (i : Int) ≤ 255 := by
  simp only [rd, Int.toNat_natCast, List.getD_eq_getElem?_getD, List.getElem?_eq_getElem hi, Option.getD_some]
  exact hx _ (List.getElem_mem hi)
theorem Rd.B {w : World} {S : Nat → Prop} {g : Nat} {xs : List Int} {e : Int} (h : Rd w S g xs e) : ∀ x ∈ xs, 0 ≤ x ∧ x ≤ 255 := by
  obtain ⟨_, _, _, _, _, _, _, hx⟩ := h
  exact hx
theorem Rd.len {w : World} {S : Nat → Prop} {g : Nat} {xs : List Int} {e : Int} (h : Rd w S g xs e) : xs.length ≤ 9223372036854775807 := by
  obtain ⟨_, _, _, _, _, _, hC, _⟩ := h
  exact hC.2.1
set_option maxRecDepth 100000 in
set_option maxHeartbeats 1000000 in
theorem wire_Reader_Byte.calls (S : Nat → Prop) (g : Nat) (xs : List Int) (ev : Int) (w : World) (hR : Rd w S g xs ev) :
    Calls Tryz.prog 26 #[.pointer (some ⟨g, 0, none⟩)] w fun e w' => e = .returned (.int .i64 (rByte xs ev).1) ∧ Rd w' S g (rByte xs ev).2.1 (rByte xs ev).2.2 ∧ Fr w w' (fun k => k = g) := by
  have qT : ∀ (w : World) (a : Option Addr) (n c n' c' : Nat), (binOp .neq 23 (.slice a n c) (.slice none n' c')).run Tryz.prog w = .ok (.bool (!a.isNone)) w := fun w a n c n' c' => run_neq_slice_nil_any w _ _ a n c n' c' Tryz.underlying23
  have HR := Aside0.mk hR
  clear hR
  by_cases he : ev ≠ 0
  · have HS := Aside0.mk (show rByte xs ev = (0, xs, ev) from if_pos he)
    have HE := Aside0.mk he
    clear he
    go_enter Tryz.func26, Tryz.ntmps26
    go_wp2_with (go_at_call 49; (with_reducible refine (wire_Reader_take.calls_err S g xs ev 1 _ HR.out HE.out).mono ?_); rintro e2 w2 ⟨rfl, hw2⟩; subst w2)
    go_ret
    rw [HS.out]
    exact ⟨rfl, HR.out, Fr.of_below (Below.refl _ _) _⟩
  · obtain rfl : ev = 0 := by omega
    by_cases h1 : xs.length < 1
    · have HS := Aside0.mk (show rByte xs 0 = (0, xs, 20) by unfold rByte; rw [if_neg (by decide), if_pos h1])
      have HL := Aside0.mk (show (xs.length : Int) < 1 by omega)
      clear he h1
      go_enter Tryz.func26, Tryz.ntmps26
      go_wp2_with (go_at_call 49; (with_reducible refine (wire_Reader_take.calls_end S g xs 1 _ HR.out HL.out).mono ?_); rintro e2 w2 ⟨rfl, hR2, hF2⟩; have HR2 := Aside0.mk hR2; have HF2 := Aside0.mk hF2; clear hR2 hF2)
      go_ret
      rw [HS.out]
      exact ⟨rfl, HR2.out, HF2.out⟩
    · have hz0 := rd_in HR.out.B 0 (by omega)
      have hrd := rd_take (xs := xs) (n := 1) (i := 0) (by omega)
      have hyl : (xs.take 1).length = 1 := by rw [List.length_take]; omega
      have HL := Aside0.mk (show 1 ≤ xs.length by omega)
      have HS := Aside0.mk (show rByte xs 0 = (rd xs (0 : Nat), xs.drop 1, 0) by unfold rByte; rw [if_neg (by decide), if_neg h1]; rfl)
      obtain ⟨x0, hx0⟩ : ∃ x0, rd xs (0 : Nat) = x0 := ⟨_, rfl⟩
      obtain ⟨y, hy⟩ : ∃ y, xs.take 1 = y := ⟨_, rfl⟩
      obtain ⟨z, hz⟩ : ∃ z, xs.drop 1 = z := ⟨_, rfl⟩
      have HY := Aside0.mk hy
      have HZ := Aside0.mk hz
      rw [hx0] at hz0 hrd HS
      rw [hz] at HS
      rw [hy] at hrd hyl
      obtain ⟨hz1, hz2⟩ := hz0
      have HRD := Aside0.mk hrd
      have hy1 : 0 < y.length := by omega
      have hy2 : y.length ≤ 1 := by omega
      clear he h1 hx0 hy hz hrd hyl
      go_enter Tryz.func26, Tryz.ntmps26
      go_upto_region 2 with (go_at_call 49; (with_reducible refine (wire_Reader_take.calls_ok S g xs 1 1 rfl y z HY.out HZ.out _ HR.out HL.out).mono ?_); rintro e2 w2 ⟨A2, c2, rfl, hc2, hC2, hA2, hR2, hF2⟩; have HR2 := Aside0.mk hR2; have HF2 := Aside0.mk hF2; have HC2 := Aside0.mk hC2; clear hR2 hF2 hC2 hA2)
      obtain ⟨ad, e, hcell⟩ := Kd.at_int HC2.out (0 : Nat) (by omega) (by omega)
      subst e
      rw [HRD.out] at hcell
      replace hcell : w2.cell? ad = some (.int .u8 x0) := by
        have e0 : ad.add ((0 : Nat) : Int).toNat = ad := by cases ad; simp [Addr.add]
        rwa [e0] at hcell
      clear HC2
      go_wp2
      go_ret
      rw [HS.out]
      exact ⟨rfl, HR2.out, HF2.out⟩


end Go.Proofs.YtblaibigjhlblaaGreatDoor.Q
end

section
-- written by hprint.py (a program of these sessions) out of the translation; Lean checks it
namespace Go.Proofs.YtblaibigjhlblaaGreatDoor.Q
open Go.RowKit Go.Proofs.YtblaibigjhlblaaGreatDoorW.Hb Go.Proofs.YtblaibigjhlblaaGreatDoorW.PrintWords Go.Proofs.YtblaibigjhlblaaGreatDoorW.PrintLast Go.Proofs.YtblaibigjhlblaaGreatDoorW.PrintMore
attribute [local go_sem] max2_int min2_int max_two min_two max_three min_three max_four min_four   -- for this text's walks alone
set_option linter.unusedVariables false
set_option linter.unusedSimpArgs false

/-! ### wire_number: function 50 -/
def wire_number.l0 : Nat → Int → List Int → Int → Int → Option (Int)
  | 0, _, _, _, _ => none
  | k + 1, x3, x6, x7, x8 => if x8 < x7 then (if 0 ≤ x8 then (if x8 < (x6.length : Int) then (wire_number.l0 k (Go.bits .or .u64 (IntKind.u64.wrap (x3 * 256)) (IntKind.u64.wrap (rd x6 x8))) x6 x7 (wrap64 (x8 + 1))) else (none)) else (none)) else (some x3)
def wire_number.f (k : Nat) (l0 : List Int) : Option (Int) := wire_number.l0 k 0 l0 (l0.length : Int) 0
theorem wire_number.mono_l : ∀ k, (∀ y0 y1 y2 y3, LeO (wire_number.l0 k y0 y1 y2 y3) (wire_number.l0 (k + 1) y0 y1 y2 y3))
  | 0 => fun _ _ _ _ r h => by simp [wire_number.l0] at h
  | k + 1 => by
    have ih0 := wire_number.mono_l k
    · intro y0 y1 y2 y3
      unfold wire_number.l0
      repeat' first
      | (with_reducible exact ih0 _ _ _ _)
      | (with_reducible exact LeO.refl _)
      | (with_reducible exact LeO.none _)
      | (with_reducible refine LeO.ite ?_ ?_)
      | (with_reducible refine LeO.bind ?_ (fun _ => ?_))
      | exact ih0 _ _ _ _
      | exact LeO.none _
      | refine LeO.ite ?_ ?_
      | refine LeO.bind ?_ (fun _ => ?_)
theorem wire_number.mono : ∀ a0 k, LeO (wire_number.f k a0) (wire_number.f (k + 1) a0) := by
  intro a0 k
  have ih0 := wire_number.mono_l k
  unfold wire_number.f
  repeat' first
      | (with_reducible exact ih0 _ _ _ _)
      | (with_reducible exact LeO.refl _)
      | (with_reducible exact LeO.none _)
      | (with_reducible refine LeO.ite ?_ ?_)
      | (with_reducible refine LeO.bind ?_ (fun _ => ?_))
      | exact ih0 _ _ _ _
      | exact LeO.none _
      | refine LeO.ite ?_ ?_
      | refine LeO.bind ?_ (fun _ => ?_)
set_option maxHeartbeats 8000000 in
set_option maxRecDepth 100000 in
theorem wire_number.calls (k : Nat) (A0 : Option Addr) (c0 : Nat) (l0 : List Int) (r : Int) (w : World) (hr0 : Kd.C (Kd.int .u8) w A0 l0.length l0) (hc0 : l0.length ≤ c0) (h : wire_number.f k l0 = some r) :
    Calls Tryz.prog 50 #[.slice A0 l0.length c0] w fun e w' => e = .returned (.int .u64 r) ∧ Drawn0 w w' := by
  have HR0 := Aside0.mk hr0
  have HC0 := Aside0.mk hc0
  clear hr0 hc0
  have H : (wire_number.l0 k 0 l0 (l0.length : Int) 0) = some r := h
  clear h
  have H' := Aside0.mk H
  clear H
  go_enter Tryz.func50, Tryz.ntmps50
  go_wp2
  go_loopg [3, 8] k (fun kq v3 v8 w' => ∃ (x3_1 : Int) (x8_1 : Int), v3 = .int .u64 x3_1 ∧ v8 = .int .i64 x8_1 ∧ Aside0 (wire_number.l0 kq x3_1 l0 (l0.length : Int) x8_1 = some r) ∧ Aside0 (kq ≤ k) ∧ Drawn0 w w')
  case atStart => exact ⟨(0), (0), (by first | rfl | (simp; done) | (simp [*]; done)), (by first | rfl | (simp; done) | (simp [*]; done)), H', ⟨Nat.le_refl _⟩, by repeat (first | exact Drawn0.refl _ | apply Drawn0.step)⟩
  case round =>
    clear H'
    obtain ⟨x3_1, x8_1, rfl, rfl, HA, HK1, ⟨m1, rfl⟩⟩ := hrel
    cases gk with
    | zero => exact absurd HA.out (by simp [wire_number.l0])
    | succ k1 =>
      have H := HA.out
      clear HA
      simp only [wire_number.l0] at H
      by_cases c2 : x8_1 < (l0.length : Int)
      · rw [if_pos c2] at H
        have c2b0 : decide (x8_1 < (l0.length : Int)) = true := decide_eq_true c2
        clear c2
        by_cases c3 : 0 ≤ x8_1
        · rw [if_pos c3] at H
          have c3b0 : decide (0 ≤ x8_1) = true := decide_eq_true c3
          clear c3
          by_cases c4 : x8_1 < (l0.length : Int)
          · rw [if_pos c4] at H
            have c4b0 : decide (x8_1 < (l0.length : Int)) = true := decide_eq_true c4
            clear c4
            have H' := Aside0.mk H
            clear H
            have p183 : 0 ≤ (x8_1 : Int) := of_decide_eq_true (by first | (with_reducible assumption) | assumption)
            have q183 : x8_1 < (l0.length : Int) := of_decide_eq_true (by first | (with_reducible assumption) | assumption)
            obtain ⟨ad183, e183, hx183_0⟩ := Kd.at_int HR0.out x8_1 p183 q183
            cases e183
            replace p183 := eq_true p183
            replace q183 := eq_true q183
            go_wp2
            go_roundg k1
            case measure => have := HK1.out; omega
            case rel => exact ⟨(Go.bits .or .u64 (IntKind.u64.wrap (x3_1 * 256)) (IntKind.u64.wrap (rd l0 x8_1))), (wrap64 (x8_1 + 1)), (by first | rfl | (simp; done) | (simp [*]; done)), (by first | rfl | (simp; done) | (simp [*]; done)), H', ⟨by have := HK1.out; omega⟩, by repeat (first | exact Drawn0.refl _ | apply Drawn0.step)⟩
          · rw [if_neg c4] at H
            exact absurd H (by simp)
        · rw [if_neg c3] at H
          exact absurd H (by simp)
      · rw [if_neg c2] at H
        have c2b0 : decide (x8_1 < (l0.length : Int)) = false := decide_eq_false c2
        clear c2
        obtain rfl := Option.some.inj H
        go_wp2
        go_ret
        exact ⟨by first | rfl | (simp; done) | (simp [*]; done), by repeat (first | exact Drawn0.refl _ | apply Drawn0.step)⟩

end Go.Proofs.YtblaibigjhlblaaGreatDoor.Q
end

section
-- written by hprint.py (a program of these sessions) out of the translation; Lean checks it
namespace Go.Proofs.YtblaibigjhlblaaGreatDoor.Q
open Go.RowKit Go.Proofs.YtblaibigjhlblaaGreatDoorW.Hb Go.Proofs.YtblaibigjhlblaaGreatDoorW.PrintWords Go.Proofs.YtblaibigjhlblaaGreatDoorW.PrintLast Go.Proofs.YtblaibigjhlblaaGreatDoorW.PrintMore
attribute [local go_sem] max2_int min2_int max_two min_two max_three min_three max_four min_four   -- for this text's walks alone
set_option linter.unusedVariables false
set_option linter.unusedSimpArgs false

/-! ### wire_Reader_Int: function 28, by hand -/
def numB (n : Nat) (l : List Int) : Nat := l.foldl (fun n b => n * 256 + b.toNat) n
theorem orB (n b : Nat) (hb : b < 256) : (n * 256) ||| b = n * 256 + b := by
  have h : n * 256 = n <<< 8 := by rw [Nat.shiftLeft_eq]
  rw [h]
  exact (Nat.shiftLeft_add_eq_or_of_lt (by omega) n).symm
theorem wrapU64 (n : Int) : IntKind.u64.wrap n = n % 18446744073709551616 := by simp [IntKind.wrap, IntKind.bits, IntKind.signed]
theorem wrapI {n : Int} (h1 : -9223372036854775808 ≤ n) (h2 : n ≤ 9223372036854775807) : wrap64 n = n := by unfold wrap64; omega
theorem rdN (l : List Int) (i : Nat) (hi : i < l.length) : rd l (i : Int) = l[i] := by
  simp [rd, List.getD_eq_getElem?_getD, hi]
set_option maxRecDepth 10000 in
theorem numB_step (n : Nat) (b : Int) (hb : 0 ≤ b ∧ b ≤ 255) (hn : n * 256 + 255 < 18446744073709551616) : Go.bits .or .u64 (IntKind.u64.wrap ((n : Int) * 256)) (IntKind.u64.wrap b) = ((n * 256 + b.toNat : Nat) : Int) := by
  have h0 := hb.1
  have h1 := hb.2
  have e1 : IntKind.u64.wrap ((n : Int) * 256) = ((n * 256 : Nat) : Int) := by rw [wrapU64]; omega
  have e2 : IntKind.u64.wrap b = ((b.toNat : Nat) : Int) := by rw [wrapU64]; omega
  rw [e1, e2, bits_or_u64_nat _ _ (by omega) (by omega), orB _ _ (by omega)]
theorem numB_run (l : List Int) (hl : ∀ x ∈ l, 0 ≤ x ∧ x ≤ 255) (hm : l.length < 9223372036854775807) : ∀ (m i k n : Nat), i + m = l.length → (n + 1) * 256 ^ m ≤ 18446744073709551616 → wire_number.l0 (k + m + 1) (n : Int) l (l.length : Int) (i : Int) = some ((numB n (l.drop i) : Nat) : Int)
  | 0, i, k, n, hi, hn => by
    rw [wire_number.l0, if_neg (by omega), List.drop_eq_nil_of_le (by omega)]
    rfl
  | m + 1, i, k, n, hi, hn => by
    have hil : i < l.length := by omega
    have hb : 0 ≤ l[i] ∧ l[i] ≤ 255 := hl _ (List.getElem_mem hil)
    have hp : 0 < 256 ^ m := Nat.pow_pos (by omega)
    have hn1 : (n + 1) * 256 * 256 ^ m ≤ 18446744073709551616 := by rw [Nat.mul_assoc, Nat.mul_comm 256, ← Nat.pow_succ]; exact hn
    have hn2 : (n + 1) * 256 ≤ 18446744073709551616 := Nat.le_trans (Nat.le_mul_of_pos_right _ (by omega)) hn1
    rw [show k + (m + 1) + 1 = (k + m + 1) + 1 by omega, wire_number.l0, if_pos (by omega), if_pos (by omega), if_pos (by omega), rdN l i hil, numB_step n _ hb (by omega)]
    have e : wrap64 ((i : Int) + 1) = ((i + 1 : Nat) : Int) := by rw [wrapI (by omega) (by omega)]; omega
    have hbt : l[i].toNat ≤ 255 := by have := hb.2; omega
    rw [e, numB_run l hl hm m (i + 1) k (n * 256 + l[i].toNat) (by omega) (Nat.le_trans (Nat.mul_le_mul_right _ (by omega)) hn1), List.drop_eq_getElem_cons hil]
    rfl
theorem numB_eq (l : List Int) (hl : ∀ x ∈ l, 0 ≤ x ∧ x ≤ 255) (h4 : l.length ≤ 8) (k : Nat) : wire_number.f (k + l.length + 1) l = some (numB 0 l : Int) := by
  have hp : 256 ^ l.length ≤ 256 ^ 8 := Nat.pow_le_pow_right (by omega) h4
  exact numB_run l hl (by omega) l.length 0 k 0 (by omega) (by omega)
def rInt (xs : List Int) (e : Int) : Int × List Int × Int := if e ≠ 0 then (0, xs, e) else if xs.length < 8 then (0, xs, 20) else (wrap64 (numB 0 (xs.take 8) : Int), xs.drop 8, 0)
set_option maxRecDepth 100000 in
set_option maxHeartbeats 1000000 in
theorem wire_Reader_Int.calls (S : Nat → Prop) (g : Nat) (xs : List Int) (ev : Int) (w : World) (hR : Rd w S g xs ev) :
    Calls Tryz.prog 28 #[.pointer (some ⟨g, 0, none⟩)] w fun e w' => e = .returned (.int .i64 (rInt xs ev).1) ∧ Rd w' S g (rInt xs ev).2.1 (rInt xs ev).2.2 ∧ Fr w w' (fun k => k = g) := by
  have qT : ∀ (w : World) (a : Option Addr) (n c n' c' : Nat), (binOp .neq 23 (.slice a n c) (.slice none n' c')).run Tryz.prog w = .ok (.bool (!a.isNone)) w := fun w a n c n' c' => run_neq_slice_nil_any w _ _ a n c n' c' Tryz.underlying23
  have HR := Aside0.mk hR
  clear hR
  by_cases he : ev ≠ 0
  · have HS := Aside0.mk (show rInt xs ev = (0, xs, ev) from if_pos he)
    have HE := Aside0.mk he
    clear he
    go_enter Tryz.func28, Tryz.ntmps28
    go_wp2_with (go_at_call 49; (with_reducible refine (wire_Reader_take.calls_err S g xs ev 8 _ HR.out HE.out).mono ?_); rintro e2 w2 ⟨rfl, hw2⟩; subst w2)
    go_ret
    rw [HS.out]
    exact ⟨rfl, HR.out, Fr.of_below (Below.refl _ _) _⟩
  · obtain rfl : ev = 0 := by omega
    by_cases h1 : xs.length < 8
    · have HS := Aside0.mk (show rInt xs 0 = (0, xs, 20) by unfold rInt; rw [if_neg (by decide), if_pos h1])
      have HL := Aside0.mk (show (xs.length : Int) < 8 by omega)
      clear he h1
      go_enter Tryz.func28, Tryz.ntmps28
      go_wp2_with (go_at_call 49; (with_reducible refine (wire_Reader_take.calls_end S g xs 8 _ HR.out HL.out).mono ?_); rintro e2 w2 ⟨rfl, hR2, hF2⟩; have HR2 := Aside0.mk hR2; have HF2 := Aside0.mk hF2; clear hR2 hF2)
      go_ret
      rw [HS.out]
      exact ⟨rfl, HR2.out, HF2.out⟩
    · have hyl : (xs.take 8).length = 8 := by rw [List.length_take]; omega
      have hyB : ∀ x ∈ xs.take 8, 0 ≤ x ∧ x ≤ 255 := fun x hx => Rd.B HR.out x (List.mem_of_mem_take hx)
      have hnum := numB_eq (xs.take 8) hyB (by omega) 0
      have HL := Aside0.mk (show 8 ≤ xs.length by omega)
      have HS := Aside0.mk (show rInt xs 0 = (wrap64 (numB 0 (xs.take 8) : Int), xs.drop 8, 0) by unfold rInt; rw [if_neg (by decide), if_neg h1])
      obtain ⟨y, hy⟩ : ∃ y, xs.take 8 = y := ⟨_, rfl⟩
      obtain ⟨z, hz⟩ : ∃ z, xs.drop 8 = z := ⟨_, rfl⟩
      have HY := Aside0.mk hy
      have HZ := Aside0.mk hz
      rw [hy] at hyl hnum HS
      rw [hz] at HS
      obtain ⟨nv, hnv⟩ : ∃ nv : Int, (numB 0 y : Int) = nv := ⟨_, rfl⟩
      rw [hnv] at hnum HS
      have HN := Aside0.mk hnum
      have hy1 : 0 < y.length := by omega
      obtain ⟨kk, hkk⟩ : ∃ kk, 0 + y.length + 1 = kk := ⟨_, rfl⟩
      rw [hkk] at HN
      clear he h1 hy hz hnum hnv hyl hyB hkk
      go_enter Tryz.func28, Tryz.ntmps28
      go_upto_region 2 with (go_at_call 49; (with_reducible refine (wire_Reader_take.calls_ok S g xs 8 8 rfl y z HY.out HZ.out _ HR.out HL.out).mono ?_); rintro e2 w2 ⟨A2, c2, rfl, hc2, hC2, hA2, hR2, hF2⟩; have HR2 := Aside0.mk hR2; have HF2 := Aside0.mk hF2; have HC2 := Aside0.mk hC2; clear hR2 hF2 hC2 hA2)
      obtain ⟨ad, e, _⟩ := Kd.at_int HC2.out (0 : Nat) (by omega) (by omega)
      subst e
      go_wp2_with (go_at_call 50; (with_reducible refine (wire_number.calls kk (some ad) c2 y nv _ HC2.out hc2 HN.out).mono ?_); rintro e1 w1 ⟨rfl, hd1⟩; have HD1 := Aside0.mk hd1.below; clear hd1)
      go_ret
      rw [HS.out]
      exact ⟨rfl, HR2.out.below HD1.out, HF2.out.then_ (Fr.of_below HD1.out (fun k => k = g)) (fun _ h => .inl h)⟩


end Go.Proofs.YtblaibigjhlblaaGreatDoor.Q
end

section
-- written by hprint.py (a program of these sessions) out of the translation; Lean checks it
namespace Go.Proofs.YtblaibigjhlblaaGreatDoor.Q
open Go.RowKit Go.Proofs.YtblaibigjhlblaaGreatDoorW.Hb Go.Proofs.YtblaibigjhlblaaGreatDoorW.PrintWords Go.Proofs.YtblaibigjhlblaaGreatDoorW.PrintLast Go.Proofs.YtblaibigjhlblaaGreatDoorW.PrintMore
attribute [local go_sem] max2_int min2_int max_two min_two max_three min_three max_four min_four   -- for this text's walks alone
set_option linter.unusedVariables false
set_option linter.unusedSimpArgs false

/-! ### wire_Reader_Err: function 52, by hand -/
set_option maxRecDepth 100000 in
theorem wire_Reader_Err.calls (S : Nat → Prop) (g : Nat) (xs : List Int) (ev : Int) (w : World) (hR : Rd w S g xs ev) :
    Calls Tryz.prog 52 #[.pointer (some ⟨g, 0, none⟩)] w fun e w' => e = .returned (.int .i64 ev) ∧ w' = w := by
  obtain ⟨A, c, hb, hc, hS, hA, hC, hx⟩ := hR
  have HB := Aside0.mk hb
  have h2 : w.cell? ⟨g, 2, none⟩ = some (.int .i64 ev) := hb.cell 2
  clear hb hC hx hA
  go_enter Tryz.func52, Tryz.ntmps52
  go_wp2_with (go_at_call 51; (with_reducible refine (wire_Reader_none.calls g _ _ true _ HB.out).mono ?_); rintro e2 w2 ⟨rfl, hw2⟩; subst w2)
  go_ret
  exact ⟨rfl, rfl⟩


end Go.Proofs.YtblaibigjhlblaaGreatDoor.Q
end

section
-- written by hprint.py (a program of these sessions) out of the translation; Lean checks it
namespace Go.Proofs.YtblaibigjhlblaaGreatDoor.Q
open Go.RowKit Go.Proofs.YtblaibigjhlblaaGreatDoorW.Hb Go.Proofs.YtblaibigjhlblaaGreatDoorW.PrintWords Go.Proofs.YtblaibigjhlblaaGreatDoorW.PrintLast Go.Proofs.YtblaibigjhlblaaGreatDoorW.PrintMore
attribute [local go_sem] max2_int min2_int max_two min_two max_three min_three max_four min_four   -- for this text's walks alone
set_option linter.unusedVariables false
set_option linter.unusedSimpArgs false

/-! ### wire_Reader_Left: function 53, by hand -/
set_option maxRecDepth 100000 in
theorem wire_Reader_Left.calls (S : Nat → Prop) (g : Nat) (xs : List Int) (ev : Int) (w : World) (hR : Rd w S g xs ev) :
    Calls Tryz.prog 53 #[.pointer (some ⟨g, 0, none⟩)] w fun e w' => e = .returned (.int .i64 (xs.length : Int)) ∧ w' = w := by
  obtain ⟨A, c, hb, hc, hS, hA, hC, hx⟩ := hR
  have HB := Aside0.mk hb
  clear hb hC hx hA
  go_enter Tryz.func53, Tryz.ntmps53
  go_wp2_with (first | (go_at_call 51; (with_reducible refine (wire_Reader_none.calls g _ _ true _ HB.out).mono ?_); rintro e2 w2 ⟨rfl, hw2⟩; subst w2) | (go_at_call 69; (with_reducible refine (wire_bytes_Left.calls g A xs.length c _ (HB.out.cell 0)).mono ?_); rintro e2 w2 ⟨rfl, hw2⟩; subst w2))
  go_ret
  exact ⟨rfl, rfl⟩


end Go.Proofs.YtblaibigjhlblaaGreatDoor.Q
end

section
-- written by hprint.py (a program of these sessions) out of the translation; Lean checks it
namespace Go.Proofs.YtblaibigjhlblaaGreatDoor.Q
open Go.RowKit Go.Proofs.YtblaibigjhlblaaGreatDoorW.Hb Go.Proofs.YtblaibigjhlblaaGreatDoorW.PrintWords Go.Proofs.YtblaibigjhlblaaGreatDoorW.PrintLast Go.Proofs.YtblaibigjhlblaaGreatDoorW.PrintMore
attribute [local go_sem] max2_int min2_int max_two min_two max_three min_three max_four min_four   -- for this text's walks alone
set_option linter.unusedVariables false
set_option linter.unusedSimpArgs false

/-! ### wire_Reader_Done: function 30, by hand -/
def rDone (xs : List Int) (e : Int) : Int := if e ≠ 0 then e else if 0 < xs.length then 21 else 0
set_option maxRecDepth 100000 in
theorem wire_Reader_Done.calls (S : Nat → Prop) (g : Nat) (xs : List Int) (ev : Int) (w : World) (hR : Rd w S g xs ev) :
    Calls Tryz.prog 30 #[.pointer (some ⟨g, 0, none⟩)] w fun e w' => e = .returned (.int .i64 (rDone xs ev)) ∧ w' = w := by
  have HR := Aside0.mk hR
  clear hR
  by_cases he : ev ≠ 0
  · have HS := Aside0.mk (show rDone xs ev = ev from if_pos he)
    have d1 : (ev == 0) = false := by simp [he]
    have d2 : (ev != 0) = true := by simp [he]
    clear he
    go_enter Tryz.func30, Tryz.ntmps30
    go_wp2_with (go_at_call 52; (with_reducible refine (wire_Reader_Err.calls S g xs ev _ HR.out).mono ?_); rintro e2 w2 ⟨rfl, hw2⟩; subst w2)
    go_ret
    rw [HS.out]
    exact ⟨rfl, rfl⟩
  · obtain rfl : ev = 0 := by omega
    by_cases h1 : 0 < xs.length
    · have HS := Aside0.mk (show rDone xs 0 = 21 by unfold rDone; rw [if_neg (by decide), if_pos h1])
      clear he
      go_enter Tryz.func30, Tryz.ntmps30
      go_wp2_with (first | (go_at_call 52; (with_reducible refine (wire_Reader_Err.calls S g xs 0 _ HR.out).mono ?_); rintro e2 w2 ⟨rfl, hw2⟩; subst w2) | (go_at_call 53; (with_reducible refine (wire_Reader_Left.calls S g xs 0 _ HR.out).mono ?_); rintro e2 w2 ⟨rfl, hw2⟩; subst w2))
      go_ret
      rw [HS.out]
      exact ⟨rfl, rfl⟩
    · have HS := Aside0.mk (show rDone xs 0 = 0 by unfold rDone; rw [if_neg (by decide), if_neg h1])
      have h2 : xs.length ≤ 0 := by omega
      obtain rfl : xs = [] := List.eq_nil_of_length_eq_zero (by omega)
      clear he h1
      go_enter Tryz.func30, Tryz.ntmps30
      go_wp2_with (first | (go_at_call 52; (with_reducible refine (wire_Reader_Err.calls S g [] 0 _ HR.out).mono ?_); rintro e2 w2 ⟨rfl, hw2⟩; subst w2) | (go_at_call 53; (with_reducible refine (wire_Reader_Left.calls S g [] 0 _ HR.out).mono ?_); rintro e2 w2 ⟨rfl, hw2⟩; subst w2))
      go_ret
      rw [HS.out]
      exact ⟨rfl, rfl⟩


end Go.Proofs.YtblaibigjhlblaaGreatDoor.Q
end

section
-- written by hprint.py (a program of these sessions) out of the translation; Lean checks it
namespace Go.Proofs.YtblaibigjhlblaaGreatDoor.Q
open Go.RowKit Go.Proofs.YtblaibigjhlblaaGreatDoorW.Hb Go.Proofs.YtblaibigjhlblaaGreatDoorW.PrintWords Go.Proofs.YtblaibigjhlblaaGreatDoorW.PrintLast Go.Proofs.YtblaibigjhlblaaGreatDoorW.PrintMore
attribute [local go_sem] max2_int min2_int max_two min_two max_three min_three max_four min_four   -- for this text's walks alone
set_option linter.unusedVariables false
set_option linter.unusedSimpArgs false

/-! ### wire_NewReader: function 25, by hand -/
set_option maxRecDepth 100000 in
theorem wire_NewReader.calls (A : Option Addr) (c : Nat) (l : List Int) (w : World) (hr : (Kd.int .u8).C w A l.length l) (hc : l.length ≤ c) (hl : l.length * 1 ≤ 140737488355328) (hx : ∀ x ∈ l, 0 ≤ x ∧ x ≤ 255) :
    Calls Tryz.prog 25 #[.slice A l.length c] w fun e w' => ∃ g, e = .returned (.pointer (some ⟨g, 0, none⟩)) ∧ Rd w' (fun k => w.heap.size ≤ k ∧ k < w'.heap.size) g l 0 ∧ w.heap.size ≤ g ∧ Below w.heap.size w w' := by
  have HC := Aside0.mk (slices_Clone_byte_byte.walk A l.length c l w rfl hr hc hl)
  have HX := Aside0.mk hx
  clear hr hx
  go_enter Tryz.func25, Tryz.ntmps25
  go_wp2_with (go_at_call 45; (with_reducible refine HC.out.mono ?_); rintro e2 w2 ⟨v2, rfl, hR2, hB2⟩; obtain ⟨A2, c2, rfl, hc2, hC2⟩ := Kd.R_reads hR2; have HR2 := Aside0.mk (Kd.R_bound hR2); have HB2 := Aside0.mk hB2; have HC2 := Aside0.mk hC2; clear hR2 hB2 hC2)
  go_ret
  have hs := HB2.out.size
  refine ⟨w2.heap.size, rfl, ⟨A2, c2, Blk.new w2 _ _, hc2, ⟨hs, by simp⟩, fun ad e => ?_, Kd.C_alloc HC2.out _, HX.out⟩, hs, HB2.out.alloc hs _⟩
  subst e
  have hb := HR2.out.1 ad.block rfl
  have h1 := hb.2.1
  have h2 := hb.2.2.1
  refine ⟨⟨h1, ?_⟩, by omega, ?_⟩ <;> (simp; omega)


end Go.Proofs.YtblaibigjhlblaaGreatDoor.Q
end

section
-- written by hprint.py (a program of these sessions) out of the translation; Lean checks it
namespace Go.Proofs.YtblaibigjhlblaaGreatDoor.Q
open Go.RowKit Go.Proofs.YtblaibigjhlblaaGreatDoorW.Hb Go.Proofs.YtblaibigjhlblaaGreatDoorW.PrintWords Go.Proofs.YtblaibigjhlblaaGreatDoorW.PrintLast Go.Proofs.YtblaibigjhlblaaGreatDoorW.PrintMore
attribute [local go_sem] max2_int min2_int max_two min_two max_three min_three max_four min_four   -- for this text's walks alone
set_option linter.unusedVariables false
set_option linter.unusedSimpArgs false

/-! ### wire_Reader_Text: function 29, by hand -/
theorem or_i64 (a b : Nat) (ha : a < 256) (hb : b < 256) : Go.bits .or .i64 ((a : Int) * 256) (b : Int) = ((a * 256 + b : Nat) : Int) := by
  have h1 : (BitVec.ofInt 64 (((a * 256 : Nat) : Int))).toNat = a * 256 := by
    rw [BitVec.ofInt_natCast, BitVec.toNat_ofNat]; exact Nat.mod_eq_of_lt (by omega)
  have h2 : (BitVec.ofInt 64 (b : Int)).toNat = b := by
    rw [BitVec.ofInt_natCast, BitVec.toNat_ofNat]; exact Nat.mod_eq_of_lt (by omega)
  have h3 := orB a b hb
  show IntKind.i64.wrap ((BitVec.ofInt 64 ((a : Int) * 256) ||| BitVec.ofInt 64 (b : Int)).toNat : Int) = _
  rw [show ((a : Int) * 256) = ((a * 256 : Nat) : Int) by omega, BitVec.toNat_or, h1, h2, h3]
  rw [i64_w]
  exact wrapI (n := ((a * 256 + b : Nat) : Int)) (by omega) (by omega)
def tlen (xs : List Int) : Nat := (rd xs (0 : Nat) * 256 + rd xs (1 : Nat)).toNat
def rText (xs : List Int) (e : Int) : ByteArray × List Int × Int := if e ≠ 0 then (ByteArray.empty, xs, e) else if xs.length < 2 then (ByteArray.empty, xs, 20) else if xs.length < 2 + tlen xs then (ByteArray.empty, xs, 20) else (strOfNums ((xs.drop 2).take (tlen xs)), xs.drop (2 + tlen xs), 0)
theorem add1 (ad : Addr) : ad.add 1 = ⟨ad.block, ad.off + 1, none⟩ := by simp [Addr.add]
theorem add0 (ad : Addr) : ad.add ((0 : Nat) : Int).toNat = ad := by cases ad; simp [Addr.add]
set_option maxRecDepth 100000 in
set_option maxHeartbeats 2000000 in
theorem wire_Reader_Text.calls (S : Nat → Prop) (g : Nat) (xs : List Int) (ev : Int) (w : World) (hR : Rd w S g xs ev) :
    Calls Tryz.prog 29 #[.pointer (some ⟨g, 0, none⟩)] w fun e w' => e = .returned (.string (rText xs ev).1) ∧ Rd w' S g (rText xs ev).2.1 (rText xs ev).2.2 ∧ Fr w w' (fun k => k = g) := by
  have qT : ∀ (w : World) (a : Option Addr) (n c n' c' : Nat), (binOp .eql 23 (.slice a n c) (.slice none n' c')).run Tryz.prog w = .ok (.bool a.isNone) w := fun w a n c n' c' => Lib.run_eql_slice_nil w _ _ a n c n' c' Tryz.underlying23
  have HR := Aside0.mk hR
  obtain ⟨A0, c0, hb, hc, hS, hA, hC, hx⟩ := hR
  have HB := Aside0.mk hb
  have h0 : w.cell? ⟨g, 0, none⟩ = some (.slice A0 xs.length c0) := hb.cell 0
  have HC := Aside0.mk hC
  have HA := Aside0.mk hA
  have HX := Aside0.mk hx
  have hm : xs.length ≤ 9223372036854775807 := hC.2.1
  clear hb hC hA hx
  by_cases he : ev ≠ 0
  · have HS := Aside0.mk (show rText xs ev = (ByteArray.empty, xs, ev) from if_pos he)
    have HE := Aside0.mk he
    clear he
    go_enter Tryz.func29, Tryz.ntmps29
    go_wp2_with (first | (go_at_call 51; (with_reducible refine (wire_Reader_none.calls g _ _ true _ HB.out).mono ?_); rintro e2 w2 ⟨rfl, hw2⟩; subst w2) | (go_at_call 49; (with_reducible refine (wire_Reader_take.calls_err S g xs ev 2 _ HR.out HE.out).mono ?_); rintro e2 w2 ⟨rfl, hw2⟩; subst w2))
    go_ret
    rw [HS.out]
    exact ⟨rfl, HR.out, Fr.of_below (Below.refl _ _) _⟩
  obtain rfl : ev = 0 := by omega
  by_cases h1 : xs.length < 2
  · have HS := Aside0.mk (show rText xs 0 = (ByteArray.empty, xs, 20) by unfold rText; rw [if_neg (by decide), if_pos h1])
    have HL := Aside0.mk (show (xs.length : Int) < 2 by omega)
    clear he h1
    go_enter Tryz.func29, Tryz.ntmps29
    go_wp2_with (first | (go_at_call 51; (with_reducible refine (wire_Reader_none.calls g _ _ true _ HB.out).mono ?_); rintro e2 w2 ⟨rfl, hw2⟩; subst w2) | (go_at_call 49; (with_reducible refine (wire_Reader_take.calls_end S g xs 2 _ HR.out HL.out).mono ?_); rintro e2 w2 ⟨rfl, hR2, hF2⟩; have HR2 := Aside0.mk hR2; have HF2 := Aside0.mk hF2; clear hR2 hF2))
    go_ret
    rw [HS.out]
    exact ⟨rfl, HR2.out, HF2.out⟩
  have hz0 := rd_in HX.out 0 (by omega)
  have hz1 := rd_in HX.out 1 (by omega)
  have hr0 := rd_take (xs := xs) (n := 2) (i := 0) (by omega)
  have hr1 := rd_take (xs := xs) (n := 2) (i := 1) (by omega)
  have hyl : (xs.take 2).length = 2 := by rw [List.length_take]; omega
  have hzl : (xs.drop 2).length = xs.length - 2 := by rw [List.length_drop]
  have HL := Aside0.mk (show 2 ≤ xs.length by omega)
  have hn : tlen xs = (rd xs (0 : Nat) * 256 + rd xs (1 : Nat)).toNat := rfl
  have HS1 := Aside0.mk (show xs.length < 2 + tlen xs → rText xs 0 = (ByteArray.empty, xs, 20) from fun h => by unfold rText; rw [if_neg (by decide), if_neg h1, if_pos h])
  have HS2 := Aside0.mk (show ¬ xs.length < 2 + tlen xs → rText xs 0 = (strOfNums ((xs.drop 2).take (tlen xs)), (xs.drop 2).drop (tlen xs), 0) from fun h => by unfold rText; rw [if_neg (by decide), if_neg h1, if_neg h, List.drop_drop])
  obtain ⟨x0, hx0⟩ : ∃ x0, rd xs (0 : Nat) = x0 := ⟨_, rfl⟩
  obtain ⟨x1, hx1⟩ : ∃ x1, rd xs (1 : Nat) = x1 := ⟨_, rfl⟩
  obtain ⟨y, hy⟩ : ∃ y, xs.take 2 = y := ⟨_, rfl⟩
  obtain ⟨z, hz⟩ : ∃ z, xs.drop 2 = z := ⟨_, rfl⟩
  obtain ⟨n, hnn⟩ : ∃ n, tlen xs = n := ⟨_, rfl⟩
  have HY := Aside0.mk hy
  have HZ := Aside0.mk hz
  rw [hx0] at hz0 hr0 hn
  rw [hx1] at hz1 hr1 hn
  rw [hy] at hr0 hr1 hyl
  rw [hz] at hzl HS2
  rw [hnn] at hn HS1 HS2
  obtain ⟨p1, p2⟩ := hz0
  obtain ⟨p3, p4⟩ := hz1
  have hy2 : 2 ≤ y.length := by omega
  have HR0 := Aside0.mk hr0
  have HR1 := Aside0.mk hr1
  have HZL := Aside0.mk hzl
  obtain ⟨a, rfl⟩ := Int.eq_ofNat_of_zero_le p1
  obtain ⟨b, rfl⟩ := Int.eq_ofNat_of_zero_le p3
  have hor := or_i64 a b (by omega) (by omega)
  have hn' : a * 256 + b = n := by omega
  rw [hn'] at hor
  have HOR := Aside0.mk hor
  clear he h1 hx0 hx1 hy hz hnn hr0 hr1 hyl hzl hor hn hn'
  by_cases h3 : xs.length < 2 + n
  · have HS := Aside0.mk (HS1.out h3)
    have HL3 := Aside0.mk (show (z.length : Int) < (n : Int) by have := HZL.out; have := HL.out; omega)
    clear HS1 HS2 h3
    go_enter Tryz.func29, Tryz.ntmps29
    go_upto_region 5 with (first | (go_at_call 51; (with_reducible refine (wire_Reader_none.calls g _ _ true _ HB.out).mono ?_); rintro e2 w2 ⟨rfl, hw2⟩; subst w2) | (go_at_call 49; (with_reducible refine (wire_Reader_take.calls_ok S g xs 2 2 rfl y z HY.out HZ.out _ HR.out HL.out).mono ?_); rintro e2 w2 ⟨A2, c2, rfl, hc2, hC2, hA2, hR2, hF2⟩; have HR2 := Aside0.mk hR2; have HF2 := Aside0.mk hF2; have HC2 := Aside0.mk hC2; clear hR2 hF2 hC2 hA2))
    obtain ⟨ad, e, hcd0⟩ := Kd.at_int HC2.out (0 : Nat) (by omega) (by omega)
    subst e
    obtain ⟨ad', e, hcd1⟩ := Kd.at_int HC2.out (1 : Nat) (by omega) (by omega)
    cases e
    rw [HR0.out, add0] at hcd0
    rw [HR1.out, Int.toNat_natCast, add1] at hcd1
    have q0 : 0 < y.length := by omega
    have q1 : 1 < (y.length : Int) := by omega
    replace hcd0 : w2.drew.cell? ad = some (.int .u8 a) := hcd0
    replace hcd1 : w2.drew.cell? ⟨ad.block, ad.off + 1, none⟩ = some (.int .u8 b) := hcd1
    have HRd2 := Aside0.mk (HR2.out.below ((Below.refl _ _).drew))
    have HFd2 := Aside0.mk (HF2.out.then_ (Fr.of_below ((Below.refl _ _).drew) (fun k => k = g)) (fun _ h => .inl h))
    have hor := HOR.out
    have hw1 : wrap64 (a : Int) = (a : Int) := wrapI (by omega) (by omega)
    have hw2 : wrap64 ((a : Int) * 256) = (a : Int) * 256 := wrapI (by omega) (by omega)
    have hw3 : wrap64 (b : Int) = (b : Int) := wrapI (by omega) (by omega)
    clear HC2 HR2 HF2
    go_upto_region 7 with (fail)
    refine start_ (n := 13) (S := fun w' => w'.cell? ad = some (.int .u8 a) ∧ w'.cell? ⟨ad.block, ad.off + 1, none⟩ = some (.int .u8 b)) (ds := [11]) #[false, false, false, false, false, false, false, false, false, false, false, false, false] (by kernel_rfl) rfl rfl ⟨hcd0, hcd1⟩ (fun hHeld => ?_)
    generalize w2.drew = wd at HRd2 HFd2 hcd0 hcd1 hHeld ⊢
    refine pure_ (i := 0) (N := some 17) (v := ?_) (a' := ?_) #[true, false, false, false, false, false, false, false, false, false, false, false, false] rfl rfl (by kernel_rfl) (fun _ _ _ h => h) (Or.inl ⟨by rfl, ?_⟩) ?_ ?_
    rotate_left
    · intro w'
      go_simp
      with_reducible rfl
    rotate_left
    · simp only [Act.put, List.setIfInBounds_toArray, List.set_cons_zero, List.set_cons_succ, i64_w, i32_w]
      rfl
    refine pure_ (i := 1) (N := some 18) (v := ?_) (a' := ?_) #[true, true, false, false, false, false, false, false, false, false, false, false, false] rfl rfl (by kernel_rfl) (fun _ _ _ h => h) (Or.inl ⟨by rfl, ?_⟩) ?_ ?_
    rotate_left
    · intro w'
      go_simp
      with_reducible rfl
    rotate_left
    · simp only [Act.put, List.setIfInBounds_toArray, List.set_cons_zero, List.set_cons_succ, i64_w, i32_w]
      rfl
    refine pure_ (i := 2) (N := some 19) (v := ?_) (a' := ?_) #[true, true, true, false, false, false, false, false, false, false, false, false, false] rfl rfl (by kernel_rfl) (fun _ _ _ h => h) (Or.inl ⟨by rfl, ?_⟩) ?_ ?_
    rotate_left
    · intro w'
      go_simp
      with_reducible rfl
    rotate_left
    · simp only [Act.put, List.setIfInBounds_toArray, List.set_cons_zero, List.set_cons_succ, i64_w, i32_w]
      rfl
    refine pure_ (i := 6) (N := some 23) (v := ?_) (a' := ?_) #[true, true, true, false, false, false, true, false, false, false, false, false, false] rfl rfl (by kernel_rfl) (fun _ _ _ h => h) (Or.inl ⟨by rfl, ?_⟩) ?_ ?_
    rotate_left
    · intro w'
      go_simp
      with_reducible rfl
    rotate_left
    · simp only [Act.put, List.setIfInBounds_toArray, List.set_cons_zero, List.set_cons_succ, i64_w, i32_w]
      rfl
    refine pure_ (i := 7) (N := some 24) (v := ?_) (a' := ?_) #[true, true, true, false, false, false, true, true, false, false, false, false, false] rfl rfl (by kernel_rfl) (fun _ _ _ h => h) (Or.inl ⟨by rfl, ?_⟩) ?_ ?_
    rotate_left
    · intro w'
      go_simp
      with_reducible rfl
    rotate_left
    · simp only [Act.put, List.setIfInBounds_toArray, List.set_cons_zero, List.set_cons_succ, i64_w, i32_w]
      rfl
    refine take_ (i := 3) (N := some 20) (v := ?_) (a' := ?_) #[true, true, true, true, false, false, true, true, false, false, false, false, false] rfl rfl (by kernel_rfl) (fun _ _ _ h => h) (Or.inl ⟨by rfl, ?_⟩) hHeld ?_ ?_
    rotate_left
    · rintro w' ⟨s0, s1⟩
      go_simp
      with_reducible rfl
    rotate_left
    · simp only [Act.put, List.setIfInBounds_toArray, List.set_cons_zero, List.set_cons_succ, i64_w, i32_w]
      rfl
    refine pure_ (i := 4) (N := some 21) (v := ?_) (a' := ?_) #[true, true, true, true, true, false, true, true, false, false, false, false, false] rfl rfl (by kernel_rfl) (fun _ _ _ h => h) (Or.inl ⟨by rfl, ?_⟩) ?_ ?_
    rotate_left
    · intro w'
      go_simp
      with_reducible rfl
    rotate_left
    · simp only [Act.put, List.setIfInBounds_toArray, List.set_cons_zero, List.set_cons_succ, i64_w, i32_w]
      rfl
    refine pure_ (i := 5) (N := some 22) (v := ?_) (a' := ?_) #[true, true, true, true, true, true, true, true, false, false, false, false, false] rfl rfl (by kernel_rfl) (fun _ _ _ h => h) (Or.inl ⟨by rfl, ?_⟩) ?_ ?_
    rotate_left
    · intro w'
      go_simp
      with_reducible rfl
    rotate_left
    · simp only [Act.put, List.setIfInBounds_toArray, List.set_cons_zero, List.set_cons_succ, i64_w, i32_w]
      rfl
    refine take_ (i := 8) (N := some 25) (v := ?_) (a' := ?_) #[true, true, true, true, true, true, true, true, true, false, false, false, false] rfl rfl (by kernel_rfl) (fun _ _ _ h => h) (Or.inl ⟨by rfl, ?_⟩) hHeld ?_ ?_
    rotate_left
    · rintro w' ⟨s0, s1⟩
      go_simp
      with_reducible rfl
    rotate_left
    · simp only [Act.put, List.setIfInBounds_toArray, List.set_cons_zero, List.set_cons_succ, i64_w, i32_w]
      rfl
    refine pure_ (i := 9) (N := some 26) (v := ?_) (a' := ?_) #[true, true, true, true, true, true, true, true, true, true, false, false, false] rfl rfl (by kernel_rfl) (fun _ _ _ h => h) (Or.inl ⟨by rfl, ?_⟩) ?_ ?_
    rotate_left
    · intro w'
      go_simp
      with_reducible rfl
    rotate_left
    · simp only [Act.put, List.setIfInBounds_toArray, List.set_cons_zero, List.set_cons_succ, i64_w, i32_w]
      rfl
    refine pure_ (i := 10) (N := some 27) (v := ?_) (a' := ?_) #[true, true, true, true, true, true, true, true, true, true, true, false, false] rfl rfl (by kernel_rfl) (fun _ _ _ h => h) (Or.inl ⟨by rfl, ?_⟩) ?_ ?_
    rotate_left
    · intro w'
      go_simp
      with_reducible rfl
    rotate_left
    · simp only [Act.put, List.setIfInBounds_toArray, List.set_cons_zero, List.set_cons_succ, i64_w, i32_w]
      rfl
    refine last_ (i := 11) (N := some 28) #[true, true, true, true, true, true, true, true, true, true, true, true, false] rfl rfl (by kernel_rfl) (by decide) (fun K hK => ?_)
    refine goes_ Tryz.func49 (by kernel_rfl) rfl #[.pointer (some ⟨g, 0, none⟩), .int .i64 (n : Int)] (by rfl) rfl rfl (by simp only [List.map_toArray, List.map_cons, List.map_nil]; rfl) ?_
    with_reducible refine (wire_Reader_take.calls_end S g z n _ HRd2.out HL3.out).mono ?_
    rintro e w4 ⟨rfl, hR4, hF4⟩
    refine ⟨_, rfl, ?_⟩
    have HR4 := Aside0.mk hR4
    have HF4 := Aside0.mk (HFd2.out.then_ hF4 (fun _ h => .inl h))
    clear hR4 hF4
    refine hK.out _ _ ?_
    clear hK K
    refine norm_ (a' := ?_) ?_ ?_
    rotate_left
    · show Act.put _ (some 28) _ = _
      simp only [Act.put, List.setIfInBounds_toArray, List.set_cons_zero, List.set_cons_succ, i64_w, i32_w]
      rfl
    refine pure_ (i := 12) (N := some 5) (v := ?_) (a' := ?_) #[true, true, true, true, true, true, true, true, true, true, true, true, true] rfl rfl (by kernel_rfl) (fun _ _ _ h => h) (Or.inl ⟨by rfl, ?_⟩) ?_ ?_
    rotate_left
    · intro w'
      go_simp
      with_reducible rfl
    rotate_left
    · simp only [Act.put, List.setIfInBounds_toArray, List.set_cons_zero, List.set_cons_succ, i64_w, i32_w]
      rfl
    refine done_ (by kernel_rfl) ?_
    clear hHeld hcd0 hcd1 hor hw1 hw2 hw3 HRd2
    obtain ⟨A4, c4, hb4, _, _, _, _, _⟩ := HR4.out
    have HB4 := Aside0.mk hb4
    have k0 : w4.cell? ⟨g, 0, none⟩ = some (.slice A4 z.length c4) := hb4.cell 0
    have k2 : w4.cell? ⟨g, 2, none⟩ = some (.int .i64 20) := hb4.cell 2
    have f0 : w4.frozen? ⟨g, 0, none⟩ = false := hb4.frozen 0
    have hcvn : ∀ (W : World) (c : Nat), (convert 23 9 (.slice none 0 c)).run Tryz.prog W = .ok (.string ByteArray.empty) W := fun W c => Kd.C_string (P := Tryz.prog) (src := 23) (dst := 9) (e := 5) (c := c) Tryz.underlying23 Tryz.underlying5 Tryz.underlying9 (Kd.C_nil (Kd.int .u8) W)
    clear hb4
    go_wp2
    go_ret
    rw [HS.out]
    have hA4 : ∀ ad, A0 = some ad → ad.block ≠ g ∧ ad.block < w4.heap.size := fun ad e => ⟨(HA.out ad e).2.1, Nat.lt_of_lt_of_le (HA.out ad e).2.2 HF4.out.1.size⟩
    have hC4 : (Kd.int .u8).C w4 A0 xs.length xs := C_keptb HC.out HF4.out.2 (fun ad e => ⟨(HA.out ad e).2.1, (HA.out ad e).2.2⟩)
    exact ⟨rfl, ⟨A0, c0, by simpa using HB4.out.set_ 0 (.slice A0 xs.length c0), hc, hS, fun ad e => ⟨(HA.out ad e).1, (hA4 ad e).1, by simpa [World.setCell] using (hA4 ad e).2⟩, Rd.far hC4 hA4 0 _, HX.out⟩, HF4.out.then_ (Fr.set_ w4 g 0 _) (fun _ h => .inl h)⟩
  · have HS := HS2.out h3
    have HL5 := Aside0.mk (show n ≤ z.length by have := HZL.out; omega)
    obtain ⟨y5, hy5⟩ : ∃ y5, z.take n = y5 := ⟨_, rfl⟩
    obtain ⟨z5, hz5⟩ : ∃ z5, z.drop n = z5 := ⟨_, rfl⟩
    rw [hy5, hz5] at HS
    have HY5 := Aside0.mk hy5
    have HZ5 := Aside0.mk hz5
    replace HS := Aside0.mk HS
    clear HS1 HS2 h3 hy5 hz5
    go_enter Tryz.func29, Tryz.ntmps29
    go_upto_region 5 with (first | (go_at_call 51; (with_reducible refine (wire_Reader_none.calls g _ _ true _ HB.out).mono ?_); rintro e2 w2 ⟨rfl, hw2⟩; subst w2) | (go_at_call 49; (with_reducible refine (wire_Reader_take.calls_ok S g xs 2 2 rfl y z HY.out HZ.out _ HR.out HL.out).mono ?_); rintro e2 w2 ⟨A2, c2, rfl, hc2, hC2, hA2, hR2, hF2⟩; have HR2 := Aside0.mk hR2; have HF2 := Aside0.mk hF2; have HC2 := Aside0.mk hC2; clear hR2 hF2 hC2 hA2))
    obtain ⟨ad, e, hcd0⟩ := Kd.at_int HC2.out (0 : Nat) (by omega) (by omega)
    subst e
    obtain ⟨ad', e, hcd1⟩ := Kd.at_int HC2.out (1 : Nat) (by omega) (by omega)
    cases e
    rw [HR0.out, add0] at hcd0
    rw [HR1.out, Int.toNat_natCast, add1] at hcd1
    have q0 : 0 < y.length := by omega
    have q1 : 1 < (y.length : Int) := by omega
    replace hcd0 : w2.drew.cell? ad = some (.int .u8 a) := hcd0
    replace hcd1 : w2.drew.cell? ⟨ad.block, ad.off + 1, none⟩ = some (.int .u8 b) := hcd1
    have HRd2 := Aside0.mk (HR2.out.below ((Below.refl _ _).drew))
    have HFd2 := Aside0.mk (HF2.out.then_ (Fr.of_below ((Below.refl _ _).drew) (fun k => k = g)) (fun _ h => .inl h))
    have hor := HOR.out
    have hw1 : wrap64 (a : Int) = (a : Int) := wrapI (by omega) (by omega)
    have hw2 : wrap64 ((a : Int) * 256) = (a : Int) * 256 := wrapI (by omega) (by omega)
    have hw3 : wrap64 (b : Int) = (b : Int) := wrapI (by omega) (by omega)
    clear HC2 HR2 HF2
    go_upto_region 7 with (fail)
    refine start_ (n := 13) (S := fun w' => w'.cell? ad = some (.int .u8 a) ∧ w'.cell? ⟨ad.block, ad.off + 1, none⟩ = some (.int .u8 b)) (ds := [11]) #[false, false, false, false, false, false, false, false, false, false, false, false, false] (by kernel_rfl) rfl rfl ⟨hcd0, hcd1⟩ (fun hHeld => ?_)
    generalize w2.drew = wd at HRd2 HFd2 hcd0 hcd1 hHeld ⊢
    refine pure_ (i := 0) (N := some 17) (v := ?_) (a' := ?_) #[true, false, false, false, false, false, false, false, false, false, false, false, false] rfl rfl (by kernel_rfl) (fun _ _ _ h => h) (Or.inl ⟨by rfl, ?_⟩) ?_ ?_
    rotate_left
    · intro w'
      go_simp
      with_reducible rfl
    rotate_left
    · simp only [Act.put, List.setIfInBounds_toArray, List.set_cons_zero, List.set_cons_succ, i64_w, i32_w]
      rfl
    refine pure_ (i := 1) (N := some 18) (v := ?_) (a' := ?_) #[true, true, false, false, false, false, false, false, false, false, false, false, false] rfl rfl (by kernel_rfl) (fun _ _ _ h => h) (Or.inl ⟨by rfl, ?_⟩) ?_ ?_
    rotate_left
    · intro w'
      go_simp
      with_reducible rfl
    rotate_left
    · simp only [Act.put, List.setIfInBounds_toArray, List.set_cons_zero, List.set_cons_succ, i64_w, i32_w]
      rfl
    refine pure_ (i := 2) (N := some 19) (v := ?_) (a' := ?_) #[true, true, true, false, false, false, false, false, false, false, false, false, false] rfl rfl (by kernel_rfl) (fun _ _ _ h => h) (Or.inl ⟨by rfl, ?_⟩) ?_ ?_
    rotate_left
    · intro w'
      go_simp
      with_reducible rfl
    rotate_left
    · simp only [Act.put, List.setIfInBounds_toArray, List.set_cons_zero, List.set_cons_succ, i64_w, i32_w]
      rfl
    refine pure_ (i := 6) (N := some 23) (v := ?_) (a' := ?_) #[true, true, true, false, false, false, true, false, false, false, false, false, false] rfl rfl (by kernel_rfl) (fun _ _ _ h => h) (Or.inl ⟨by rfl, ?_⟩) ?_ ?_
    rotate_left
    · intro w'
      go_simp
      with_reducible rfl
    rotate_left
    · simp only [Act.put, List.setIfInBounds_toArray, List.set_cons_zero, List.set_cons_succ, i64_w, i32_w]
      rfl
    refine pure_ (i := 7) (N := some 24) (v := ?_) (a' := ?_) #[true, true, true, false, false, false, true, true, false, false, false, false, false] rfl rfl (by kernel_rfl) (fun _ _ _ h => h) (Or.inl ⟨by rfl, ?_⟩) ?_ ?_
    rotate_left
    · intro w'
      go_simp
      with_reducible rfl
    rotate_left
    · simp only [Act.put, List.setIfInBounds_toArray, List.set_cons_zero, List.set_cons_succ, i64_w, i32_w]
      rfl
    refine take_ (i := 3) (N := some 20) (v := ?_) (a' := ?_) #[true, true, true, true, false, false, true, true, false, false, false, false, false] rfl rfl (by kernel_rfl) (fun _ _ _ h => h) (Or.inl ⟨by rfl, ?_⟩) hHeld ?_ ?_
    rotate_left
    · rintro w' ⟨s0, s1⟩
      go_simp
      with_reducible rfl
    rotate_left
    · simp only [Act.put, List.setIfInBounds_toArray, List.set_cons_zero, List.set_cons_succ, i64_w, i32_w]
      rfl
    refine pure_ (i := 4) (N := some 21) (v := ?_) (a' := ?_) #[true, true, true, true, true, false, true, true, false, false, false, false, false] rfl rfl (by kernel_rfl) (fun _ _ _ h => h) (Or.inl ⟨by rfl, ?_⟩) ?_ ?_
    rotate_left
    · intro w'
      go_simp
      with_reducible rfl
    rotate_left
    · simp only [Act.put, List.setIfInBounds_toArray, List.set_cons_zero, List.set_cons_succ, i64_w, i32_w]
      rfl
    refine pure_ (i := 5) (N := some 22) (v := ?_) (a' := ?_) #[true, true, true, true, true, true, true, true, false, false, false, false, false] rfl rfl (by kernel_rfl) (fun _ _ _ h => h) (Or.inl ⟨by rfl, ?_⟩) ?_ ?_
    rotate_left
    · intro w'
      go_simp
      with_reducible rfl
    rotate_left
    · simp only [Act.put, List.setIfInBounds_toArray, List.set_cons_zero, List.set_cons_succ, i64_w, i32_w]
      rfl
    refine take_ (i := 8) (N := some 25) (v := ?_) (a' := ?_) #[true, true, true, true, true, true, true, true, true, false, false, false, false] rfl rfl (by kernel_rfl) (fun _ _ _ h => h) (Or.inl ⟨by rfl, ?_⟩) hHeld ?_ ?_
    rotate_left
    · rintro w' ⟨s0, s1⟩
      go_simp
      with_reducible rfl
    rotate_left
    · simp only [Act.put, List.setIfInBounds_toArray, List.set_cons_zero, List.set_cons_succ, i64_w, i32_w]
      rfl
    refine pure_ (i := 9) (N := some 26) (v := ?_) (a' := ?_) #[true, true, true, true, true, true, true, true, true, true, false, false, false] rfl rfl (by kernel_rfl) (fun _ _ _ h => h) (Or.inl ⟨by rfl, ?_⟩) ?_ ?_
    rotate_left
    · intro w'
      go_simp
      with_reducible rfl
    rotate_left
    · simp only [Act.put, List.setIfInBounds_toArray, List.set_cons_zero, List.set_cons_succ, i64_w, i32_w]
      rfl
    refine pure_ (i := 10) (N := some 27) (v := ?_) (a' := ?_) #[true, true, true, true, true, true, true, true, true, true, true, false, false] rfl rfl (by kernel_rfl) (fun _ _ _ h => h) (Or.inl ⟨by rfl, ?_⟩) ?_ ?_
    rotate_left
    · intro w'
      go_simp
      with_reducible rfl
    rotate_left
    · simp only [Act.put, List.setIfInBounds_toArray, List.set_cons_zero, List.set_cons_succ, i64_w, i32_w]
      rfl
    refine last_ (i := 11) (N := some 28) #[true, true, true, true, true, true, true, true, true, true, true, true, false] rfl rfl (by kernel_rfl) (by decide) (fun K hK => ?_)
    refine goes_ Tryz.func49 (by kernel_rfl) rfl #[.pointer (some ⟨g, 0, none⟩), .int .i64 (n : Int)] (by rfl) rfl rfl (by simp only [List.map_toArray, List.map_cons, List.map_nil]; rfl) ?_
    with_reducible refine (wire_Reader_take.calls_ok S g z n n rfl y5 z5 HY5.out HZ5.out _ HRd2.out HL5.out).mono ?_
    rintro e w4 ⟨A5, c5, rfl, hc5, hC5, hA5, hR4, hF4⟩
    refine ⟨_, rfl, ?_⟩
    have HR4 := Aside0.mk hR4
    have HC5 := Aside0.mk hC5
    have HF4 := Aside0.mk (HFd2.out.then_ hF4 (fun _ h => .inl h))
    clear hR4 hF4 hC5 hA5
    refine hK.out _ _ ?_
    clear hK K
    refine norm_ (a' := ?_) ?_ ?_
    rotate_left
    · show Act.put _ (some 28) _ = _
      simp only [Act.put, List.setIfInBounds_toArray, List.set_cons_zero, List.set_cons_succ, i64_w, i32_w]
      rfl
    refine pure_ (i := 12) (N := some 5) (v := ?_) (a' := ?_) #[true, true, true, true, true, true, true, true, true, true, true, true, true] rfl rfl (by kernel_rfl) (fun _ _ _ h => h) (Or.inl ⟨by rfl, ?_⟩) ?_ ?_
    rotate_left
    · intro w'
      go_simp
      with_reducible rfl
    rotate_left
    · simp only [Act.put, List.setIfInBounds_toArray, List.set_cons_zero, List.set_cons_succ, i64_w, i32_w]
      rfl
    refine done_ (by kernel_rfl) ?_
    clear hHeld hcd0 hcd1 hor hw1 hw2 hw3 HRd2
    obtain ⟨A4, c4, hb4, _, _, _, _, _⟩ := HR4.out
    have k2 : w4.cell? ⟨g, 2, none⟩ = some (.int .i64 0) := hb4.cell 2
    have hcv := Kd.C_string (P := Tryz.prog) (src := 23) (dst := 9) (e := 5) (c := c5) Tryz.underlying23 Tryz.underlying5 Tryz.underlying9 HC5.out
    clear hb4
    go_wp2
    go_ret
    rw [HS.out]
    exact ⟨rfl, HR4.out, HF4.out⟩
theorem rByte_err {xs : List Int} {e : Int} (h : e ≠ 0) : rByte xs e = (0, xs, e) := if_pos h
theorem rByte_end {xs : List Int} (h : xs.length < 1) : rByte xs 0 = (0, xs, 20) := by unfold rByte; rw [if_neg (by decide), if_pos h]
theorem rByte_ok {xs : List Int} (h : ¬ xs.length < 1) : rByte xs 0 = (rd xs 0, xs.drop 1, 0) := by unfold rByte; rw [if_neg (by decide), if_neg h]
theorem rInt_err {xs : List Int} {e : Int} (h : e ≠ 0) : rInt xs e = (0, xs, e) := if_pos h
theorem rInt_end {xs : List Int} (h : xs.length < 8) : rInt xs 0 = (0, xs, 20) := by unfold rInt; rw [if_neg (by decide), if_pos h]
theorem rInt_ok {xs : List Int} (h : ¬ xs.length < 8) : rInt xs 0 = (wrap64 (numB 0 (xs.take 8) : Int), xs.drop 8, 0) := by unfold rInt; rw [if_neg (by decide), if_neg h]
theorem rText_err {xs : List Int} {e : Int} (h : e ≠ 0) : rText xs e = (ByteArray.empty, xs, e) := if_pos h
theorem rText_end {xs : List Int} (h : xs.length < 2) : rText xs 0 = (ByteArray.empty, xs, 20) := by unfold rText; rw [if_neg (by decide), if_pos h]
theorem rText_end2 {xs : List Int} (h : ¬ xs.length < 2) (h2 : xs.length < 2 + tlen xs) : rText xs 0 = (ByteArray.empty, xs, 20) := by unfold rText; rw [if_neg (by decide), if_neg h, if_pos h2]
theorem rText_ok {xs : List Int} (h : ¬ xs.length < 2) (h2 : ¬ xs.length < 2 + tlen xs) : rText xs 0 = (strOfNums ((xs.drop 2).take (tlen xs)), xs.drop (2 + tlen xs), 0) := by unfold rText; rw [if_neg (by decide), if_neg h, if_neg h2]
theorem str_bytes (s : ByteArray) : strOfNums (bytesOf s) = s := by
  cases s with
  | mk d =>
    unfold strOfNums bytesOf
    congr 1
    rw [List.map_map]
    have : d.toList.map ((fun n : Int => UInt8.ofNat n.toNat) ∘ fun b : UInt8 => (b.toNat : Int)) = d.toList := by
      conv => rhs; rw [← List.map_id d.toList]
      refine List.map_congr_left (fun b _ => ?_)
      simp
    rw [this]
theorem big8 (n : Int) : bigL n 8 = [n / 2 ^ 56 % 256, n / 2 ^ 48 % 256, n / 2 ^ 40 % 256, n / 2 ^ 32 % 256, n / 2 ^ 24 % 256, n / 2 ^ 16 % 256, n / 2 ^ 8 % 256, n % 256] := by
  simp [bigL, bigB, List.range_succ]
theorem bigL_B (n : Int) (m : Nat) : ∀ x ∈ bigL n m, 0 ≤ x ∧ x ≤ 255 := by
  intro x hx
  obtain ⟨i, _, rfl⟩ := List.mem_map.1 hx
  unfold bigB
  omega
theorem bytesOf_B (s : ByteArray) : ∀ x ∈ bytesOf s, 0 ≤ x ∧ x ≤ 255 := by
  intro x hx
  obtain ⟨b, _, rfl⟩ := List.mem_map.1 hx
  have := b.toNat_lt
  omega
theorem ints8_B (l : List Int) : ∀ x ∈ ints8 l, 0 ≤ x ∧ x ≤ 255 := by
  intro x hx
  obtain ⟨y, _, hy⟩ := List.mem_flatMap.1 hx
  exact bigL_B _ _ x hy
theorem textsB_B (l : List ByteArray) : ∀ x ∈ textsB l, 0 ≤ x ∧ x ≤ 255 := by
  intro x hx
  obtain ⟨y, _, hy⟩ := List.mem_flatMap.1 hx
  rcases List.mem_append.1 hy with h | h
  · exact bigL_B _ _ x h
  · exact bytesOf_B _ x h
theorem numB_eight (x : Int) (h0 : 0 ≤ x) (h1 : x < 18446744073709551616) : (numB 0 (bigL x 8) : Int) = x := by
  obtain ⟨n, rfl⟩ := Int.eq_ofNat_of_zero_le h0
  rw [big8]
  have e : ∀ k : Nat, ((n : Int) / 2 ^ k % 256).toNat = n / 2 ^ k % 256 := fun k => by
    have : ((n : Int) / 2 ^ k % 256) = ((n / 2 ^ k % 256 : Nat) : Int) := by
      rw [Int.natCast_emod, Int.natCast_ediv, Int.natCast_pow]
      rfl
    rw [this, Int.toNat_natCast]
  have e0 : ((n : Int) % 256).toNat = n % 256 := by omega
  simp only [numB, List.foldl_cons, List.foldl_nil, e, e0]
  omega
theorem rInt_back (x : Int) (rest : List Int) (h0 : -9223372036854775808 ≤ x) (h1 : x ≤ 9223372036854775807) : rInt (bigL (IntKind.u64.wrap x) 8 ++ rest) 0 = (x, rest, 0) := by
  have hl := bigL_len' (IntKind.u64.wrap x) 8
  rw [rInt_ok (by rw [List.length_append]; omega), List.take_append_of_le_length (by omega), List.take_of_length_le (by omega), List.drop_append_of_le_length (by omega), List.drop_eq_nil_of_le (by omega), List.nil_append]
  have hn := numB_eight (IntKind.u64.wrap x) (u64_wrap_lo x) (by rw [wrapU64]; omega)
  rw [hn, wrapU64]
  congr 1
  unfold wrap64
  omega
theorem tlen_back (s : ByteArray) (rest : List Int) (h : s.size ≤ 65535) : tlen (textB s ++ rest) = s.size := by
  have h2 : bigL (s.size : Int) 2 = [(s.size : Int) / 256 % 256, (s.size : Int) % 256] := by simp [bigL, bigB, List.range_succ]
  unfold tlen textB
  rw [h2]
  simp only [List.cons_append, List.nil_append, rd, Int.toNat_natCast, List.getD_cons_zero, List.getD_cons_succ]
  omega
theorem rText_back (s : ByteArray) (rest : List Int) (h : s.size ≤ 65535) : rText (textB s ++ rest) 0 = (s, rest, 0) := by
  have hb := bigL_len' (s.size : Int) 2
  have hs := bytesOf_length s
  have ht := tlen_back s rest h
  have hl : (textB s ++ rest).length = 2 + s.size + rest.length := by unfold textB; rw [List.length_append, List.length_append, hb, hs]
  have hd : (textB s ++ rest).drop 2 = bytesOf s ++ rest := by
    unfold textB
    rw [List.append_assoc, List.drop_append_of_le_length (by omega), List.drop_eq_nil_of_le (by omega), List.nil_append]
  rw [rText_ok (by omega) (by rw [ht]; omega), ht, ← List.drop_drop, hd, List.take_append_of_le_length (by omega), List.take_of_length_le (by omega), List.drop_append_of_le_length (by omega), List.drop_eq_nil_of_le (by omega), List.nil_append, str_bytes]
theorem rByte_back (b : Int) (rest : List Int) : rByte (b :: rest) 0 = (b, rest, 0) := by
  rw [rByte_ok (by simp)]
  rfl
theorem ints8_cons (x : Int) (l : List Int) : ints8 (x :: l) = bigL (IntKind.u64.wrap x) 8 ++ ints8 l := rfl
theorem textsB_cons (x : ByteArray) (l : List ByteArray) : textsB (x :: l) = textB x ++ textsB l := rfl
theorem drop_cons_ {α : Type} (l : List α) (j : Nat) (h : j < l.length) : l.drop j = l[j] :: l.drop (j + 1) := List.drop_eq_getElem_cons h
/-- One reader. -/
def OneR (w0 w : World) (g : Nat) (xs : List Int) (e : Int) : Prop := ∃ S, Rd w S g xs e ∧ (∀ k, S k → w0.heap.size ≤ k) ∧ Below w0.heap.size w0 w
section
variable {w0 w w' : World} {g : Nat} {l xs : List Int} {e : Int}
theorem OneR.bel (h : OneR w0 w g xs e) : Below w0.heap.size w0 w := by
  obtain ⟨_, _, _, h⟩ := h
  exact h
theorem OneR.below (h : OneR w0 w g xs e) (hb : Below w.heap.size w w') : OneR w0 w' g xs e := by
  obtain ⟨S, h1, h2, h4⟩ := h
  exact ⟨S, h1.below hb, h2, h4.trans (hb.mono h4.size)⟩
theorem OneR.step {S : Nat → Prop} {xs' : List Int} {e' : Int} (hg : S g) (h2 : ∀ k, S k → w0.heap.size ≤ k) (h4 : Below w0.heap.size w0 w) (h1 : Rd w' S g xs' e') (hf : Fr w w' (fun k => k = g)) : OneR w0 w' g xs' e' := ⟨S, h1, h2, h4.trans (hf.below h4.size (fun k hk => by subst hk; exact h2 _ hg))⟩
theorem Rd.own {S : Nat → Prop} (h : Rd w S g xs e) : S g := by
  obtain ⟨_, _, _, _, h, _⟩ := h
  exact h
theorem intR1 {v : Int} {xs' : List Int} (hx : rInt xs 0 = (v, xs', 0)) (h : OneR w0 w g xs 0) : Calls Tryz.prog 28 #[.pointer (some ⟨g, 0, none⟩)] w fun en w' => en = .returned (.int .i64 v) ∧ OneR w0 w' g xs' 0 := by
  obtain ⟨S, h1, h2, h4⟩ := h
  have := wire_Reader_Int.calls S g xs 0 w h1
  rw [hx] at this
  exact this.mono fun en w' ⟨he, hr, hf⟩ => ⟨he, OneR.step h1.own h2 h4 hr hf⟩
theorem textR1 {v : ByteArray} {xs' : List Int} (hx : rText xs 0 = (v, xs', 0)) (h : OneR w0 w g xs 0) : Calls Tryz.prog 29 #[.pointer (some ⟨g, 0, none⟩)] w fun en w' => en = .returned (.string v) ∧ OneR w0 w' g xs' 0 := by
  obtain ⟨S, h1, h2, h4⟩ := h
  have := wire_Reader_Text.calls S g xs 0 w h1
  rw [hx] at this
  exact this.mono fun en w' ⟨he, hr, hf⟩ => ⟨he, OneR.step h1.own h2 h4 hr hf⟩
theorem byteR1 {v : Int} {xs' : List Int} (hx : rByte xs 0 = (v, xs', 0)) (h : OneR w0 w g xs 0) : Calls Tryz.prog 26 #[.pointer (some ⟨g, 0, none⟩)] w fun en w' => en = .returned (.int .i64 v) ∧ OneR w0 w' g xs' 0 := by
  obtain ⟨S, h1, h2, h4⟩ := h
  have := wire_Reader_Byte.calls S g xs 0 w h1
  rw [hx] at this
  exact this.mono fun en w' ⟨he, hr, hf⟩ => ⟨he, OneR.step h1.own h2 h4 hr hf⟩
theorem doneR1 (h : OneR w0 w g xs e) : Calls Tryz.prog 30 #[.pointer (some ⟨g, 0, none⟩)] w fun en w' => en = .returned (.int .i64 (rDone xs e)) ∧ OneR w0 w' g xs e := by
  obtain ⟨S, h1, h2, h4⟩ := h
  exact (wire_Reader_Done.calls S g xs e w h1).mono fun en w' ⟨he, hb⟩ => ⟨he, hb ▸ ⟨S, h1, h2, h4⟩⟩
end
def isBb (x : Int) : Bool := decide (0 ≤ x) && decide (x ≤ 255)
theorem isBb_all {l : List Int} (h : l.all isBb = true) : ∀ x ∈ l, 0 ≤ x ∧ x ≤ 255 := fun x hx => by
  have := List.all_eq_true.1 h x hx
  simpa [isBb] using this


end Go.Proofs.YtblaibigjhlblaaGreatDoor.Q
end

section
-- written by hprint.py (a program of these sessions) out of the translation; Lean checks it
namespace Go.Proofs.YtblaibigjhlblaaGreatDoor.Q
open Go.RowKit Go.Proofs.YtblaibigjhlblaaGreatDoorW.Hb Go.Proofs.YtblaibigjhlblaaGreatDoorW.PrintWords Go.Proofs.YtblaibigjhlblaaGreatDoorW.PrintLast Go.Proofs.YtblaibigjhlblaaGreatDoorW.PrintMore
attribute [local go_sem] max2_int min2_int max_two min_two max_three min_three max_four min_four   -- for this text's walks alone
set_option linter.unusedVariables false
set_option linter.unusedSimpArgs false

/-! ### value_Zero: function 27 -/
def value_Zero.f (a0 : Int) : Option (Int × Int × ByteArray) := if a0 = 1 then (some (a0, 0, (⟨#[]⟩ : ByteArray))) else (if a0 = 2 then (some (a0, 0, (⟨#[]⟩ : ByteArray))) else (if a0 = 3 then (some (a0, 0, (⟨#[]⟩ : ByteArray))) else (some (0, 0, (⟨#[]⟩ : ByteArray)))))
set_option maxHeartbeats 8000000 in
set_option maxRecDepth 100000 in
theorem value_Zero.calls (a0 : Int) (r1 : Int) (r2 : Int) (r3 : ByteArray) (w : World) (h : value_Zero.f a0 = some (r1, r2, r3)) :
    Calls Tryz.prog 27 #[.int .i64 a0] w fun e w' => e = .returned (.agg #[.int .i64 r1, .int .i64 r2, .string r3]) ∧ Below w.heap.size w w' := by
  have hu47 := Tryz.underlying47
  have HB := Aside0.mk (Below.refl w.heap.size w)
  have H : (if a0 = 1 then (some (a0, 0, (⟨#[]⟩ : ByteArray))) else (if a0 = 2 then (some (a0, 0, (⟨#[]⟩ : ByteArray))) else (if a0 = 3 then (some (a0, 0, (⟨#[]⟩ : ByteArray))) else (some (0, 0, (⟨#[]⟩ : ByteArray)))))) = some (r1, r2, r3) := h
  clear h
  by_cases c2 : a0 = 1
  · rw [if_pos c2] at H
    have c2b0 : (a0 == 1) = true := beq_iff_eq.mpr c2
    have c2b1 : (a0 != 1) = false := bne_eq_false_iff_eq.mpr c2
    clear c2
    simp only [Option.some.injEq, Prod.mk.injEq] at H
    obtain ⟨rfl, rfl, rfl⟩ := H
    go_enter Tryz.func27, Tryz.ntmps27
    go_wp2_with (first | ((with_reducible refine gate_dst (N := 2) rfl ?_); refine box_event ?hg (N := 2) ?hd (cs := #[.int .i64 0, .int .i64 0, .string (⟨#[]⟩ : ByteArray)]) (t := 47) ?hr ?_; (case hd => rfl); (case hg => rfl); (case hr => first | (go_simp; done) | (go_simp; rfl)); intro gb182 hg w3 hbox hb; have n0_ := Aside0.mk (below_step (by repeat (first | (with_reducible first | exact HB.out | apply below_alloc | apply pw_below_drewN | apply below_drew1) | exact HB.out)) hb); have n1_ := Aside0.mk (hbox); have n2_ := Aside0.mk ((by rw [hg]; exact (below_size (by repeat (first | (with_reducible first | exact HB.out | apply below_alloc | apply pw_below_drewN | apply below_drew1) | exact HB.out))) : w.heap.size ≤ gb182)); have n3_ := Aside0.mk ((by rw [hg]; exact (below_size (by repeat (first | (with_reducible first | exact HB.out | apply below_alloc | apply pw_below_drewN | apply below_drew1) | exact HB.out))) : w.heap.size ≤ gb182)); clear HB; have HB := n0_; have BK182 := n1_; have GW182 := n2_; have GE182 := n3_; clear n0_ n1_ n2_ n3_; clear hb hbox hg; have hcz4_0 : w3.cell? ⟨gb182, 0, none⟩ = some (.int .i64 0) := (blk_cell BK182.out 0).trans rfl; have hcz4_1 : w3.cell? ⟨gb182, 1, none⟩ = some (.int .i64 0) := (blk_cell BK182.out 1).trans rfl; have hcz4_2 : w3.cell? ⟨gb182, 2, none⟩ = some (.string (⟨#[]⟩ : ByteArray)) := (blk_cell BK182.out 2).trans rfl; have hfz4_0 := blk_frozen BK182.out 0; have hfz4_1 := blk_frozen BK182.out 1; have hfz4_2 := blk_frozen BK182.out 2))
    refine bodyPost_ret (results_cell_row rfl _ _ gb182 47 #[.int .i64 a0, .int .i64 0, .string (⟨#[]⟩ : ByteArray)] (0, 0) _ rfl (by (with_reducible repeat (first | refine blk_drewN ?_ _ | refine blk_drew ?_ | refine blk_alloc ?_ _)); refine blk_put (cs := #[.int .i64 a0, .int .i64 0, .string (⟨#[]⟩ : ByteArray)]) ?_ 2 _ rfl; (with_reducible repeat (first | refine blk_drewN ?_ _ | refine blk_drew ?_ | refine blk_alloc ?_ _)); refine blk_put (cs := #[.int .i64 a0, .int .i64 0, .string (⟨#[]⟩ : ByteArray)]) ?_ 1 _ rfl; (with_reducible repeat (first | refine blk_drewN ?_ _ | refine blk_drew ?_ | refine blk_alloc ?_ _)); refine blk_put (cs := #[.int .i64 0, .int .i64 0, .string (⟨#[]⟩ : ByteArray)]) ?_ 0 _ rfl; (with_reducible repeat (first | refine blk_drewN ?_ _ | refine blk_drew ?_ | refine blk_alloc ?_ _)); exact BK182.out) Tryz.underlying47 rfl (by kernel_rfl)) rfl ?_
    exact ⟨by first | rfl | (simp [errW_none, errW_some] <;> rfl) | (simp [*, errW_none, errW_some] <;> rfl), by repeat (first | (with_reducible first | exact HB.out | apply below_alloc | apply pw_below_drewN | apply below_drew1 | refine below_set ?_ GE182.out) | exact HB.out)⟩
  · rw [if_neg c2] at H
    have c2b0 : (a0 == 1) = false := beq_eq_false_iff_ne.mpr c2
    have c2b1 : (a0 != 1) = true := bne_iff_ne.mpr c2
    by_cases c5 : a0 = 2
    · rw [if_pos c5] at H
      have c5b0 : (a0 == 2) = true := beq_iff_eq.mpr c5
      have c5b1 : (a0 != 2) = false := bne_eq_false_iff_eq.mpr c5
      clear c5
      simp only [Option.some.injEq, Prod.mk.injEq] at H
      obtain ⟨rfl, rfl, rfl⟩ := H
      go_enter Tryz.func27, Tryz.ntmps27
      go_wp2_with (first | ((with_reducible refine gate_dst (N := 2) rfl ?_); refine box_event ?hg (N := 2) ?hd (cs := #[.int .i64 0, .int .i64 0, .string (⟨#[]⟩ : ByteArray)]) (t := 47) ?hr ?_; (case hd => rfl); (case hg => rfl); (case hr => first | (go_simp; done) | (go_simp; rfl)); intro gb182 hg w6 hbox hb; have n0_ := Aside0.mk (below_step (by repeat (first | (with_reducible first | exact HB.out | apply below_alloc | apply pw_below_drewN | apply below_drew1) | exact HB.out)) hb); have n1_ := Aside0.mk (hbox); have n2_ := Aside0.mk ((by rw [hg]; exact (below_size (by repeat (first | (with_reducible first | exact HB.out | apply below_alloc | apply pw_below_drewN | apply below_drew1) | exact HB.out))) : w.heap.size ≤ gb182)); have n3_ := Aside0.mk ((by rw [hg]; exact (below_size (by repeat (first | (with_reducible first | exact HB.out | apply below_alloc | apply pw_below_drewN | apply below_drew1) | exact HB.out))) : w.heap.size ≤ gb182)); clear HB; have HB := n0_; have BK182 := n1_; have GW182 := n2_; have GE182 := n3_; clear n0_ n1_ n2_ n3_; clear hb hbox hg; have hcz7_0 : w6.cell? ⟨gb182, 0, none⟩ = some (.int .i64 0) := (blk_cell BK182.out 0).trans rfl; have hcz7_1 : w6.cell? ⟨gb182, 1, none⟩ = some (.int .i64 0) := (blk_cell BK182.out 1).trans rfl; have hcz7_2 : w6.cell? ⟨gb182, 2, none⟩ = some (.string (⟨#[]⟩ : ByteArray)) := (blk_cell BK182.out 2).trans rfl; have hfz7_0 := blk_frozen BK182.out 0; have hfz7_1 := blk_frozen BK182.out 1; have hfz7_2 := blk_frozen BK182.out 2))
      refine bodyPost_ret (results_cell_row rfl _ _ gb182 47 #[.int .i64 a0, .int .i64 0, .string (⟨#[]⟩ : ByteArray)] (0, 0) _ rfl (by (with_reducible repeat (first | refine blk_drewN ?_ _ | refine blk_drew ?_ | refine blk_alloc ?_ _)); refine blk_put (cs := #[.int .i64 a0, .int .i64 0, .string (⟨#[]⟩ : ByteArray)]) ?_ 2 _ rfl; (with_reducible repeat (first | refine blk_drewN ?_ _ | refine blk_drew ?_ | refine blk_alloc ?_ _)); refine blk_put (cs := #[.int .i64 a0, .int .i64 0, .string (⟨#[]⟩ : ByteArray)]) ?_ 1 _ rfl; (with_reducible repeat (first | refine blk_drewN ?_ _ | refine blk_drew ?_ | refine blk_alloc ?_ _)); refine blk_put (cs := #[.int .i64 0, .int .i64 0, .string (⟨#[]⟩ : ByteArray)]) ?_ 0 _ rfl; (with_reducible repeat (first | refine blk_drewN ?_ _ | refine blk_drew ?_ | refine blk_alloc ?_ _)); exact BK182.out) Tryz.underlying47 rfl (by kernel_rfl)) rfl ?_
      exact ⟨by first | rfl | (simp [errW_none, errW_some] <;> rfl) | (simp [*, errW_none, errW_some] <;> rfl), by repeat (first | (with_reducible first | exact HB.out | apply below_alloc | apply pw_below_drewN | apply below_drew1 | refine below_set ?_ GE182.out) | exact HB.out)⟩
    · rw [if_neg c5] at H
      have c5b0 : (a0 == 2) = false := beq_eq_false_iff_ne.mpr c5
      have c5b1 : (a0 != 2) = true := bne_iff_ne.mpr c5
      by_cases c8 : a0 = 3
      · rw [if_pos c8] at H
        have c8b0 : (a0 == 3) = true := beq_iff_eq.mpr c8
        have c8b1 : (a0 != 3) = false := bne_eq_false_iff_eq.mpr c8
        clear c8
        simp only [Option.some.injEq, Prod.mk.injEq] at H
        obtain ⟨rfl, rfl, rfl⟩ := H
        go_enter Tryz.func27, Tryz.ntmps27
        go_wp2_with (first | ((with_reducible refine gate_dst (N := 2) rfl ?_); refine box_event ?hg (N := 2) ?hd (cs := #[.int .i64 0, .int .i64 0, .string (⟨#[]⟩ : ByteArray)]) (t := 47) ?hr ?_; (case hd => rfl); (case hg => rfl); (case hr => first | (go_simp; done) | (go_simp; rfl)); intro gb182 hg w9 hbox hb; have n0_ := Aside0.mk (below_step (by repeat (first | (with_reducible first | exact HB.out | apply below_alloc | apply pw_below_drewN | apply below_drew1) | exact HB.out)) hb); have n1_ := Aside0.mk (hbox); have n2_ := Aside0.mk ((by rw [hg]; exact (below_size (by repeat (first | (with_reducible first | exact HB.out | apply below_alloc | apply pw_below_drewN | apply below_drew1) | exact HB.out))) : w.heap.size ≤ gb182)); have n3_ := Aside0.mk ((by rw [hg]; exact (below_size (by repeat (first | (with_reducible first | exact HB.out | apply below_alloc | apply pw_below_drewN | apply below_drew1) | exact HB.out))) : w.heap.size ≤ gb182)); clear HB; have HB := n0_; have BK182 := n1_; have GW182 := n2_; have GE182 := n3_; clear n0_ n1_ n2_ n3_; clear hb hbox hg; have hcz10_0 : w9.cell? ⟨gb182, 0, none⟩ = some (.int .i64 0) := (blk_cell BK182.out 0).trans rfl; have hcz10_1 : w9.cell? ⟨gb182, 1, none⟩ = some (.int .i64 0) := (blk_cell BK182.out 1).trans rfl; have hcz10_2 : w9.cell? ⟨gb182, 2, none⟩ = some (.string (⟨#[]⟩ : ByteArray)) := (blk_cell BK182.out 2).trans rfl; have hfz10_0 := blk_frozen BK182.out 0; have hfz10_1 := blk_frozen BK182.out 1; have hfz10_2 := blk_frozen BK182.out 2))
        refine bodyPost_ret (results_cell_row rfl _ _ gb182 47 #[.int .i64 a0, .int .i64 0, .string (⟨#[]⟩ : ByteArray)] (0, 0) _ rfl (by (with_reducible repeat (first | refine blk_drewN ?_ _ | refine blk_drew ?_ | refine blk_alloc ?_ _)); refine blk_put (cs := #[.int .i64 a0, .int .i64 0, .string (⟨#[]⟩ : ByteArray)]) ?_ 2 _ rfl; (with_reducible repeat (first | refine blk_drewN ?_ _ | refine blk_drew ?_ | refine blk_alloc ?_ _)); refine blk_put (cs := #[.int .i64 a0, .int .i64 0, .string (⟨#[]⟩ : ByteArray)]) ?_ 1 _ rfl; (with_reducible repeat (first | refine blk_drewN ?_ _ | refine blk_drew ?_ | refine blk_alloc ?_ _)); refine blk_put (cs := #[.int .i64 0, .int .i64 0, .string (⟨#[]⟩ : ByteArray)]) ?_ 0 _ rfl; (with_reducible repeat (first | refine blk_drewN ?_ _ | refine blk_drew ?_ | refine blk_alloc ?_ _)); exact BK182.out) Tryz.underlying47 rfl (by kernel_rfl)) rfl ?_
        exact ⟨by first | rfl | (simp [errW_none, errW_some] <;> rfl) | (simp [*, errW_none, errW_some] <;> rfl), by repeat (first | (with_reducible first | exact HB.out | apply below_alloc | apply pw_below_drewN | apply below_drew1 | refine below_set ?_ GE182.out) | exact HB.out)⟩
      · rw [if_neg c8] at H
        have c8b0 : (a0 == 3) = false := beq_eq_false_iff_ne.mpr c8
        have c8b1 : (a0 != 3) = true := bne_iff_ne.mpr c8
        simp only [Option.some.injEq, Prod.mk.injEq] at H
        obtain ⟨rfl, rfl, rfl⟩ := H
        go_enter Tryz.func27, Tryz.ntmps27
        go_wp2_with (first | ((with_reducible refine gate_dst (N := 2) rfl ?_); refine box_event ?hg (N := 2) ?hd (cs := #[.int .i64 0, .int .i64 0, .string (⟨#[]⟩ : ByteArray)]) (t := 47) ?hr ?_; (case hd => rfl); (case hg => rfl); (case hr => first | (go_simp; done) | (go_simp; rfl)); intro gb182 hg w11 hbox hb; have n0_ := Aside0.mk (below_step (by repeat (first | (with_reducible first | exact HB.out | apply below_alloc | apply pw_below_drewN | apply below_drew1) | exact HB.out)) hb); have n1_ := Aside0.mk (hbox); have n2_ := Aside0.mk ((by rw [hg]; exact (below_size (by repeat (first | (with_reducible first | exact HB.out | apply below_alloc | apply pw_below_drewN | apply below_drew1) | exact HB.out))) : w.heap.size ≤ gb182)); have n3_ := Aside0.mk ((by rw [hg]; exact (below_size (by repeat (first | (with_reducible first | exact HB.out | apply below_alloc | apply pw_below_drewN | apply below_drew1) | exact HB.out))) : w.heap.size ≤ gb182)); clear HB; have HB := n0_; have BK182 := n1_; have GW182 := n2_; have GE182 := n3_; clear n0_ n1_ n2_ n3_; clear hb hbox hg; have hcz12_0 : w11.cell? ⟨gb182, 0, none⟩ = some (.int .i64 0) := (blk_cell BK182.out 0).trans rfl; have hcz12_1 : w11.cell? ⟨gb182, 1, none⟩ = some (.int .i64 0) := (blk_cell BK182.out 1).trans rfl; have hcz12_2 : w11.cell? ⟨gb182, 2, none⟩ = some (.string (⟨#[]⟩ : ByteArray)) := (blk_cell BK182.out 2).trans rfl; have hfz12_0 := blk_frozen BK182.out 0; have hfz12_1 := blk_frozen BK182.out 1; have hfz12_2 := blk_frozen BK182.out 2))
        refine bodyPost_ret (results_cell_row rfl _ _ gb182 47 #[.int .i64 0, .int .i64 0, .string (⟨#[]⟩ : ByteArray)] (0, 0) _ rfl (by (with_reducible repeat (first | refine blk_drewN ?_ _ | refine blk_drew ?_ | refine blk_alloc ?_ _)); refine blk_put (cs := #[.int .i64 0, .int .i64 0, .string (⟨#[]⟩ : ByteArray)]) ?_ 2 _ rfl; (with_reducible repeat (first | refine blk_drewN ?_ _ | refine blk_drew ?_ | refine blk_alloc ?_ _)); refine blk_put (cs := #[.int .i64 0, .int .i64 0, .string (⟨#[]⟩ : ByteArray)]) ?_ 1 _ rfl; (with_reducible repeat (first | refine blk_drewN ?_ _ | refine blk_drew ?_ | refine blk_alloc ?_ _)); refine blk_put (cs := #[.int .i64 0, .int .i64 0, .string (⟨#[]⟩ : ByteArray)]) ?_ 0 _ rfl; (with_reducible repeat (first | refine blk_drewN ?_ _ | refine blk_drew ?_ | refine blk_alloc ?_ _)); exact BK182.out) Tryz.underlying47 rfl (by kernel_rfl)) rfl ?_
        exact ⟨by first | rfl | (simp [errW_none, errW_some] <;> rfl) | (simp [*, errW_none, errW_some] <;> rfl), by repeat (first | (with_reducible first | exact HB.out | apply below_alloc | apply pw_below_drewN | apply below_drew1 | refine below_set ?_ GE182.out) | exact HB.out)⟩

end Go.Proofs.YtblaibigjhlblaaGreatDoor.Q
end

section
-- written by hprint.py (a program of these sessions) out of the translation; Lean checks it
namespace Go.Proofs.YtblaibigjhlblaaGreatDoor.Q
open Go.RowKit Go.Proofs.YtblaibigjhlblaaGreatDoorW.Hb Go.Proofs.YtblaibigjhlblaaGreatDoorW.PrintWords Go.Proofs.YtblaibigjhlblaaGreatDoorW.PrintLast Go.Proofs.YtblaibigjhlblaaGreatDoorW.PrintMore
attribute [local go_sem] max2_int min2_int max_two min_two max_three min_three max_four min_four   -- for this text's walks alone
set_option linter.unusedVariables false
set_option linter.unusedSimpArgs false

/-! ### value_Get: function 9, by hand -/
/-- The program's reader, told by what is left; its blocks lie from w0 on, below b. -/
def Or (w0 w : World) (b g : Nat) (xs : List Int) (e : Int) : Prop := ∃ S, Rd w S g xs e ∧ (∀ k, S k → w0.heap.size ≤ k ∧ k < b) ∧ b ≤ w.heap.size ∧ Below w0.heap.size w0 w
section
variable {w0 w w' : World} {b g : Nat} {xs xs' : List Int} {e e' : Int}
theorem Or.bel (h : Or w0 w b g xs e) : Below w0.heap.size w0 w := h.choose_spec.2.2.2
theorem Or.le (h : Or w0 w b g xs e) : b ≤ w.heap.size := h.choose_spec.2.2.1
theorem Or.g_in (h : Or w0 w b g xs e) : w0.heap.size ≤ g ∧ g < b := by
  obtain ⟨S, h1, h2, _⟩ := h
  exact h2 g h1.own
theorem Or.B (h : Or w0 w b g xs e) : ∀ x ∈ xs, 0 ≤ x ∧ x ≤ 255 := by
  obtain ⟨S, h1, _⟩ := h
  exact h1.B
theorem Or.kept {S2 : Nat → Prop} (h : Or w0 w b g xs e) (hk : Kept w w' S2) (hd : ∀ k, S2 k → b ≤ k) (hb : Below w0.heap.size w w') : Or w0 w' b g xs e := by
  obtain ⟨S, h1, h2, h3, h4⟩ := h
  exact ⟨S, h1.kept hk (fun k hS h => by have := (h2 k hS).2; have := hd k h; omega), h2, Nat.le_trans h3 hk.1, h4.trans hb⟩
theorem Or.below (h : Or w0 w b g xs e) (hb : Below b w w') : Or w0 w' b g xs e :=
  h.kept (S2 := fun k => b ≤ k) ⟨hb.size, fun i hi hn => hb.block i (by omega)⟩ (fun _ h => h) (hb.mono (by have := h.g_in; omega))
theorem Or.step {S : Nat → Prop} (h1 : Rd w S g xs e) (h2 : ∀ k, S k → w0.heap.size ≤ k ∧ k < b) (h3 : b ≤ w.heap.size) (h4 : Below w0.heap.size w0 w) (hr : Rd w' S g xs' e') (hf : Fr w w' (fun k => k = g)) : Or w0 w' b g xs' e' :=
  ⟨S, hr, h2, Nat.le_trans h3 hf.1.size, h4.trans (hf.below h4.size (fun k hk => by subst hk; exact (h2 _ h1.own).1))⟩
theorem byteQ {v : Int} (h : Or w0 w b g xs e) (hx : rByte xs e = (v, xs', e')) : Calls Tryz.prog 26 #[.pointer (some ⟨g, 0, none⟩)] w fun en w' => en = .returned (.int .i64 v) ∧ Or w0 w' b g xs' e' ∧ Fr w w' (fun k => k = g) := by
  obtain ⟨S, h1, h2, h3, h4⟩ := h
  have := wire_Reader_Byte.calls S g xs e w h1
  rw [hx] at this
  exact this.mono fun en w' ⟨he, hr, hf⟩ => ⟨he, Or.step h1 h2 h3 h4 hr hf, hf⟩
theorem intQ {v : Int} (h : Or w0 w b g xs e) (hx : rInt xs e = (v, xs', e')) : Calls Tryz.prog 28 #[.pointer (some ⟨g, 0, none⟩)] w fun en w' => en = .returned (.int .i64 v) ∧ Or w0 w' b g xs' e' ∧ Fr w w' (fun k => k = g) := by
  obtain ⟨S, h1, h2, h3, h4⟩ := h
  have := wire_Reader_Int.calls S g xs e w h1
  rw [hx] at this
  exact this.mono fun en w' ⟨he, hr, hf⟩ => ⟨he, Or.step h1 h2 h3 h4 hr hf, hf⟩
theorem textQ {v : ByteArray} (h : Or w0 w b g xs e) (hx : rText xs e = (v, xs', e')) : Calls Tryz.prog 29 #[.pointer (some ⟨g, 0, none⟩)] w fun en w' => en = .returned (.string v) ∧ Or w0 w' b g xs' e' ∧ Fr w w' (fun k => k = g) := by
  obtain ⟨S, h1, h2, h3, h4⟩ := h
  have := wire_Reader_Text.calls S g xs e w h1
  rw [hx] at this
  exact this.mono fun en w' ⟨he, hr, hf⟩ => ⟨he, Or.step h1 h2 h3 h4 hr hf, hf⟩
theorem errQ (h : Or w0 w b g xs e) : Calls Tryz.prog 52 #[.pointer (some ⟨g, 0, none⟩)] w fun en w' => en = .returned (.int .i64 e) ∧ w' = w := by
  obtain ⟨S, h1, h2, h3, h4⟩ := h
  exact wire_Reader_Err.calls S g xs e w h1
theorem doneQ (h : Or w0 w b g xs e) : Calls Tryz.prog 30 #[.pointer (some ⟨g, 0, none⟩)] w fun en w' => en = .returned (.int .i64 (rDone xs e)) ∧ w' = w := by
  obtain ⟨S, h1, h2, h3, h4⟩ := h
  exact wire_Reader_Done.calls S g xs e w h1
end
theorem rByte_in {xs xs1 : List Int} {e e1 v : Int} (hB : ∀ x ∈ xs, 0 ≤ x ∧ x ≤ 255) (h : rByte xs e = (v, xs1, e1)) : 0 ≤ v ∧ v ≤ 255 := by
  by_cases he : e ≠ 0
  · rw [rByte_err he] at h
    cases h
    omega
  · obtain rfl : e = 0 := by omega
    by_cases h1 : xs.length < 1
    · rw [rByte_end h1] at h
      cases h
      omega
    · rw [rByte_ok h1] at h
      cases h
      exact rd_in hB 0 (by omega)
/-- One value that a reader has; z: a type that is none is told as 0. -/
def gval (z : Bool) (xs : List Int) (e : Int) : S47 × List Int × Int :=
  if (rByte xs e).1 = 1 then (⟨1, (rInt (rByte xs e).2.1 (rByte xs e).2.2).1, ⟨#[]⟩⟩, (rInt (rByte xs e).2.1 (rByte xs e).2.2).2)
  else if (rByte xs e).1 = 2 then (⟨2, 0, (rText (rByte xs e).2.1 (rByte xs e).2.2).1⟩, (rText (rByte xs e).2.1 (rByte xs e).2.2).2)
  else if (rByte xs e).1 = 3 then (⟨3, (rByte (rByte xs e).2.1 (rByte xs e).2.2).1, ⟨#[]⟩⟩, (rByte (rByte xs e).2.1 (rByte xs e).2.2).2)
  else (⟨if z = true then 0 else (rByte xs e).1, 0, ⟨#[]⟩⟩, (rByte xs e).2)
section
variable {z : Bool} {xs x1 x2 : List Int} {e e1 e2 t v : Int} {s : ByteArray}
theorem gval_1 (h : rByte xs e = (1, x1, e1)) (h2 : rInt x1 e1 = (v, x2, e2)) : gval z xs e = (⟨1, v, ⟨#[]⟩⟩, x2, e2) := by
  unfold gval
  rw [h]
  simp only [h2, if_pos]
theorem gval_2 (h : rByte xs e = (2, x1, e1)) (h2 : rText x1 e1 = (s, x2, e2)) : gval z xs e = (⟨2, 0, s⟩, x2, e2) := by
  unfold gval
  rw [h]
  simp only [h2]
  rw [if_neg (by decide), if_pos True.intro]
theorem gval_3 (h : rByte xs e = (3, x1, e1)) (h2 : rByte x1 e1 = (v, x2, e2)) : gval z xs e = (⟨3, v, ⟨#[]⟩⟩, x2, e2) := by
  unfold gval
  rw [h]
  simp only [h2]
  rw [if_neg (by decide), if_neg (by decide), if_pos True.intro]
theorem gval_4 (h : rByte xs e = (t, x1, e1)) (n1 : t ≠ 1) (n2 : t ≠ 2) (n3 : t ≠ 3) : gval z xs e = (⟨if z = true then 0 else t, 0, ⟨#[]⟩⟩, x1, e1) := by
  unfold gval
  rw [h]
  simp only
  rw [if_neg n1, if_neg n2, if_neg n3]
end
/-- Values that a reader has; the document stops at an error (z = false). -/
def gvals (z : Bool) : Nat → List Int → Int → List S47 → List S47 × List Int × Int
  | 0, xs, e, acc => (acc, xs, e)
  | n + 1, xs, e, acc => if z = false ∧ e ≠ 0 then (acc, xs, e) else gvals z n (gval z xs e).2.1 (gval z xs e).2.2 (acc ++ [(gval z xs e).1])
theorem gvals_0 (z : Bool) (xs : List Int) (e : Int) (acc : List S47) : gvals z 0 xs e acc = (acc, xs, e) := rfl
theorem gvals_stop (n : Nat) (xs : List Int) {e : Int} (he : e ≠ 0) (acc : List S47) : gvals false n xs e acc = (acc, xs, e) := by
  cases n with
  | zero => rfl
  | succ n => rw [gvals, if_pos ⟨rfl, he⟩]
theorem gvals_step {z : Bool} {xs xs2 : List Int} {e e2 : Int} {v : S47} (n : Nat) (acc : List S47) (hz : z = true ∨ e = 0) (h : gval z xs e = (v, xs2, e2)) : gvals z (n + 1) xs e acc = gvals z n xs2 e2 (acc ++ [v]) := by
  rw [gvals, if_neg (by rintro ⟨h1, h2⟩; rcases hz with h3 | h3; rw [h1] at h3; cases h3; exact h2 h3), h]
def getV (z : Bool) (l : List Int) : List S47 × List Int × Int := gvals z (rByte l 0).1.toNat (rByte l 0).2.1 (rByte l 0).2.2 []
theorem getV_is {z : Bool} {l x : List Int} {n : Nat} {e : Int} (h : rByte l 0 = ((n : Int), x, e)) : getV z l = gvals z n x e [] := by
  unfold getV
  rw [h]
  simp
def zk (t : Int) : Int := if t = 1 then t else if t = 2 then t else if t = 3 then t else 0
theorem Or.kept2 {w0 w w' : World} {b g : Nat} {xs : List Int} {e : Int} {S2 : Nat → Prop} (h : Or w0 w b g xs e) (hk : Kept w w' S2) (hd : ∀ k, S2 k → b ≤ k) (hb : Below w0.heap.size w0 w') : Or w0 w' b g xs e := by
  obtain ⟨S, h1, h2, h3, h4⟩ := h
  exact ⟨S, h1.kept hk (fun k hS h => by have := (h2 k hS).2; have := hd k h; omega), h2, Nat.le_trans h3 hk.1, hb⟩
theorem zero_zk (t : Int) : value_Zero.f t = some (zk t, 0, ⟨#[]⟩) := by
  unfold value_Zero.f zk
  repeat' split
  all_goals rfl
def value_Get.f (k : Nat) (l0 : List Int) : Option (List S47 × Int) := if (l0.all isBb && decide (l0.length ≤ 140737488355328)) = true then (if rDone (getV true l0).2.1 (getV true l0).2.2 = 0 then (value_all.f k (getV true l0).1).bind fun q => some (if q = true then ((getV true l0).1, 0) else ([], 21)) else some ([], 21)) else none
theorem value_Get.mono : ∀ a0 k, LeO (value_Get.f k a0) (value_Get.f (k + 1) a0) := fun a0 k => by
  unfold value_Get.f
  split
  · split
    · exact LeO.bind (value_all.mono _ _) (fun _ => LeO.refl _)
    · exact LeO.refl _
  · exact LeO.refl _
set_option maxRecDepth 100000 in
set_option maxHeartbeats 8000000 in
theorem value_Get.calls (k : Nat) (A0 : Option Addr) (c0 : Nat) (l0 : List Int) (r1 : List S47) (r2 : Int) (w0 : World) (hr0 : Kd.C (Kd.int .u8) w0 A0 l0.length l0) (hc0 : l0.length ≤ c0) (h : value_Get.f k l0 = some (r1, r2)) :
    Calls Tryz.prog 9 #[.slice A0 l0.length c0] w0 fun e w' => ∃ v0_ : Value, e = .returned (.tuple #[v0_, .int .i64 r2]) ∧ Kd.R k47 47 w' w0.heap.size (fun _ => True) v0_ r1 ∧ Below w0.heap.size w0 w' := by
  unfold value_Get.f at h
  split at h
  rotate_left
  · cases h
  rename_i hall
  simp only [Bool.and_eq_true, decide_eq_true_eq] at hall
  have HBB := Aside0.mk (isBb_all hall.1)
  have hll := hall.2
  have hm0 : l0.length ≤ 9223372036854775807 := hr0.2.1
  obtain ⟨v1, x1, e1, h1⟩ : ∃ v x e, rByte l0 0 = (v, x, e) := ⟨_, _, _, rfl⟩
  have hv1 := rByte_in (isBb_all hall.1) h1
  obtain ⟨n, rfl⟩ := Int.eq_ofNat_of_zero_le hv1.1
  have hn255 : n ≤ 255 := by omega
  rw [getV_is h1] at h
  obtain ⟨ls, xs', e', hG⟩ : ∃ a b c, gvals true n x1 e1 [] = (a, b, c) := ⟨_, _, _, rfl⟩
  rw [hG] at h
  have H := Aside0.mk h
  have HG := Aside0.mk hG
  have H1' := Aside0.mk h1
  have HR0 := Aside0.mk hr0
  clear h hG h1 hr0 hall hv1
  go_enter Tryz.func9, Tryz.ntmps9
  go_wp2_with (fail)
  with_reducible refine (wire_NewReader.calls A0 c0 l0 w0 HR0.out hc0 (by omega) HBB.out).mono ?_
  rintro en w2 ⟨g, rfl, hd2, hg2, hB2⟩
  have HO2 := Aside0.mk (show Or w0 w2 w2.heap.size g l0 0 from ⟨_, hd2, fun k hk => hk, Nat.le_refl _, hB2⟩)
  clear hd2 hg2 hB2
  generalize w2.heap.size = b at HO2
  go_wp2_with (fail)
  with_reducible refine (byteQ HO2.out H1'.out).mono ?_
  rintro en w3 ⟨rfl, hO3, _⟩
  have HO3 := Aside0.mk hO3
  have hgb := hO3.g_in
  clear hO3 HO2 H1' HR0 HBB
  go_wp2_with (fail)
  go_loopw [5, 11] (fun v5 v11 wr => ∃ (m : Nat) (ys : List Int) (ee : Int) (acc : List S47), v11 = .int .i64 (acc.length : Int) ∧ acc.length + m = n ∧ Aside0 (gvals true m ys ee acc = (ls, xs', e')) ∧ Aside0 (Or w0 wr b g ys ee) ∧ Aside0 (Kd.R k47 47 wr w0.heap.size (fun k => b ≤ k) v5 acc)) (fun _ v _ => n - (intOf v).toNat)
  case atStart => exact ⟨n, x1, e1, [], rfl, by simp, HG, HO3, ⟨Kd.R_nil _ _ _ _ _⟩⟩
  case round =>
    clear HG HO3
    obtain ⟨m, ys, ee, acc, rfl, hlm, HX, HO, HR⟩ := hrel
    rcases Nat.eq_zero_or_pos m with h0 | h0
    · subst h0
      have hX := HX.out
      rw [gvals_0] at hX
      obtain ⟨q1, hX⟩ := Prod.mk.inj hX
      obtain ⟨q2, q3⟩ := Prod.mk.inj hX
      rw [← q1, ← q2, ← q3] at H
      clear hX HX q1 q2 q3
      have hz : ¬ (acc.length : Int) < (n : Int) := by omega
      have h := H.out
      by_cases hdn : rDone ys ee = 0
      · rw [if_pos hdn] at h
        obtain ⟨q, hq, h⟩ := Option.bind_eq_some_iff.1 h
        have h := Option.some.inj h
        have hd1 : (rDone ys ee == 0) = true := by simp [hdn]
        have hd2 : (rDone ys ee != 0) = false := by simp [hdn]
        have HQ := Aside0.mk hq
        have HH := Aside0.mk h
        obtain ⟨A5, c5, rfl, hc5, hC5⟩ := Kd.R_reads HR.out
        have HC5 := Aside0.mk hC5
        clear hC5 hq h H
        go_wp2_with (fail)
        with_reducible refine (doneQ HO.out).mono ?_
        rintro en w4 ⟨rfl, hw4⟩
        subst hw4
        go_wp2_with (fail)
        with_reducible refine (value_all.calls k A5 c5 acc q _ HC5.out hc5 HQ.out).mono ?_
        rintro en w6 ⟨rfl, hb6⟩
        have HB6 := Aside0.mk hb6
        clear hb6
        cases q
        · obtain ⟨rfl, rfl⟩ := Prod.mk.inj (show (([] : List S47), (21 : Int)) = (r1, r2) from HH.out)
          go_wp2_with (fail)
          go_ret2
          exact ⟨_, rfl, Kd.R_nil _ _ _ _ _, HO.out.bel.trans (HB6.out.mono HO.out.bel.size)⟩
        · obtain ⟨rfl, rfl⟩ := Prod.mk.inj (show ((acc : List S47), (0 : Int)) = (r1, r2) from HH.out)
          go_wp2_with (fail)
          go_ret2
          exact ⟨_, rfl, Kd.R_mono (Kd.R_below HR.out HB6.out) (fun _ _ => trivial), HO.out.bel.trans (HB6.out.mono HO.out.bel.size)⟩
      · rw [if_neg hdn] at h
        obtain ⟨rfl, rfl⟩ := Prod.mk.inj (Option.some.inj h)
        have hd1 : (rDone ys ee == 0) = false := by simp [hdn]
        have hd2 : (rDone ys ee != 0) = true := by simp [hdn]
        clear h H
        go_wp2_with (fail)
        with_reducible refine (doneQ HO.out).mono ?_
        rintro en w4 ⟨rfl, hw4⟩
        subst hw4
        go_wp2_with (fail)
        go_ret2
        exact ⟨_, rfl, Kd.R_nil _ _ _ _ _, HO.out.bel⟩
    · have hz : (acc.length : Int) < (n : Int) := by omega
      obtain ⟨m, rfl⟩ : ∃ m', m = m' + 1 := ⟨m - 1, by omega⟩
      have HAL := Aside0.mk (show (acc.length + 1) * 32 ≤ 140737488355328 by omega)
      obtain ⟨t, x1, e1, h1⟩ : ∃ v x e, rByte ys ee = (v, x, e) := ⟨_, _, _, rfl⟩
      have H1 := Aside0.mk h1
      have HRb := Aside0.mk (Kd.R_mono (ok' := fun k => b ≤ k ∧ k < wr.heap.size) (Kd.R_bound HR.out) (fun k hk => ⟨hk.1, hk.2.2.1⟩))
      have hble : b ≤ wr.heap.size := HO.out.le
      have hwb : w0.heap.size ≤ wr.heap.size := HO.out.bel.size
      clear h1 HR
      go_wp2_with (fail)
      with_reducible refine (byteQ HO.out H1.out).mono ?_
      rintro en w4 ⟨rfl, hO4, hF4⟩
      have HO4 := Aside0.mk hO4
      have HR4 := Aside0.mk (Kd.R_kept HRb.out hF4.2 (fun k hk h => by omega))
      have HS4 := Aside0.mk hF4.1.size
      clear hO4 hF4 HO HRb
      go_wp2_with (fail)
      with_reducible refine (value_Zero.calls t _ _ _ w4 (zero_zk t)).mono ?_
      rintro en w5 ⟨rfl, hb5⟩
      have HO5 := Aside0.mk (HO4.out.below (hb5.mono HO4.out.le))
      have HR5 := Aside0.mk (Kd.R_below HR4.out hb5)
      have HS5 := Aside0.mk (Nat.le_trans HS4.out hb5.size)
      clear hb5 HO4 HR4 HS4
      obtain ⟨kz, hkz⟩ : ∃ kz, zk t = kz := ⟨_, rfl⟩
      rw [hkz]
      go_upto_region 6 with (fail)
      have HK := Aside0.mk (Blk.new w5 47 #[.int .i64 kz, .int .i64 0, .string ⟨#[]⟩])
      have HOa := Aside0.mk (HO5.out.below ((Below.refl _ w5).alloc HO5.out.le (.cells #[.int .i64 kz, .int .i64 0, .string ⟨#[]⟩] 47)))
      have HRa := Aside0.mk (Kd.R_alloc HR5.out (.cells #[.int .i64 kz, .int .i64 0, .string ⟨#[]⟩] 47))
      generalize w5.alloc (.cells #[.int .i64 kz, .int .i64 0, .string ⟨#[]⟩] 47) = wa at HK HOa HRa ⊢
      have hgv : wr.heap.size ≤ w5.heap.size := HS5.out
      generalize w5.heap.size = gv at HK hgv ⊢
      have hgg : gv ≠ g := by omega
      have k0 : wa.cell? ⟨gv, 0, none⟩ = some (.int .i64 kz) := HK.out.cell 0
      clear HO5 HR5 HS5
      by_cases t1 : t = 1
      · subst t1
        obtain rfl : kz = 1 := by rw [← hkz]; rfl
        have d1 : ((1 : Int) == 1) = true := rfl
        obtain ⟨v, x2, e2, h7⟩ : ∃ v x e, rInt x1 e1 = (v, x, e) := ⟨_, _, _, rfl⟩
        go_wp2_with (fail)
        with_reducible refine (intQ HOa.out h7).mono ?_
        rintro en w7 ⟨rfl, hO7, hF7⟩
        have HK7 := Aside0.mk (show Blk w7 gv 47 #[.int .i64 1, .int .i64 0, .string ⟨#[]⟩] from blk_kept HK.out hF7.2 hgg)
        have HOs := Aside0.mk (hO7.kept (S2 := fun k => k = gv) (Kept.setCell (S := fun k => k = gv) (p := ⟨gv, 1, none⟩) (Kept.refl w7 _) (.inl rfl) (.int .i64 v)) (fun k hk => by omega) ((Below.refl _ _).setCell (show w0.heap.size ≤ gv by omega) _))
        have HRs := Aside0.mk (Kd.R_far (p := ⟨gv, 1, none⟩) (Kd.R_kept HRa.out hF7.2 (fun k hk h => by omega)) (fun k hk => by show k ≠ gv; omega) (.int .i64 v))
        have HKs := Aside0.mk (show Blk (w7.setCell ⟨gv, 1, none⟩ (.int .i64 v)) gv 47 #[.int .i64 1, .int .i64 v, .string ⟨#[]⟩] from by simpa using HK7.out.set_ 1 (.int .i64 v))
        have z1 : w7.cell? ⟨gv, 1, none⟩ = some (.int .i64 0) := HK7.out.cell 1
        have y1 : w7.frozen? ⟨gv, 1, none⟩ = false := HK7.out.frozen 1
        clear hO7 hF7 HK7 HK HOa HRa k0
        go_upto_region 13 with (fail)
        generalize w7.setCell ⟨gv, 1, none⟩ (.int .i64 v) = ws at HKs HOs HRs ⊢
        have c0 : ws.cell? ⟨gv, 0, none⟩ = some (.int .i64 1) := HKs.out.cell 0
        have c1 : ws.cell? ⟨gv, 1, none⟩ = some (.int .i64 v) := HKs.out.cell 1
        have c2 : ws.cell? ⟨gv, 2, none⟩ = some (.string ⟨#[]⟩) := HKs.out.cell 2
        have hX := HX.out
        rw [gvals_step m acc (.inl rfl) (gval_1 H1.out h7)] at hX
        have HX2 := Aside0.mk hX
        clear hX HX
        have HRt := Aside0.mk (Kd.R_mono (ok' := fun k => b ≤ k) HRs.out (fun k hk => hk.1))
        go_wp2_with ((with_reducible refine gate_builtin (b := .append) (xs := #[.tmp 33, .tmp 35]) rfl ?_); at_builtin; refine Kd.R_append k47 (w0 := w0) w0.heap.size rfl (.tmp 33) (.tmp 35) 22 47 (.agg #[(.int .i64 0), (.int .i64 0), (.string ⟨#[]⟩)]) 32 rfl Tryz.underlying22 info47 rfl (by decide) (by omega) u5 acc ⟨1, v, ⟨#[]⟩⟩ [.int .i64 1, .int .i64 v, .string ⟨#[]⟩] (fun k => b ≤ k) (fun _ => False) rfl rfl ?aP (fun _ hk => hk.elim) (fun k hk => Nat.le_trans HOs.out.le hk) HRt.out HOs.out.bel HOs.out.bel.size HAL.out ?_; (case aP => exact k47_mkM _ _ _ ⟨1, v, ⟨#[]⟩⟩); intro v9 w9 hR9 hB9 hG9 _; have HR9 := Aside0.mk hR9; have HB9 := Aside0.mk hB9; have HG9 := Aside0.mk hG9; clear hR9 hB9 hG9)
        have HO9 := Aside0.mk (show Or w0 w9 b g _ _ from HOs.out.kept2 (S2 := fun k => u5.ownBlock = some k) ⟨HG9.out.size, fun i hi hn => HG9.out.block i hi (fun he => hn he.symm)⟩ (fun k hk => HRt.out.1 k hk) HB9.out)
        go_roundw
        case rel => exact ⟨m, _, _, _, by first | rfl | (rw [List.length_append, List.length_singleton]; go_num), by rw [List.length_append, List.length_singleton]; omega, HX2, HO9, HR9⟩
        case measure => simp [intOf]; omega
      by_cases t2 : t = 2
      · subst t2
        obtain rfl : kz = 2 := by rw [← hkz]; rfl
        have d1 : ((2 : Int) == 1) = false := rfl
        have d2 : ((2 : Int) == 2) = true := rfl
        obtain ⟨v, x2, e2, h7⟩ : ∃ v x e, rText x1 e1 = (v, x, e) := ⟨_, _, _, rfl⟩
        go_wp2_with (fail)
        with_reducible refine (textQ HOa.out h7).mono ?_
        rintro en w7 ⟨rfl, hO7, hF7⟩
        have HK7 := Aside0.mk (show Blk w7 gv 47 #[.int .i64 2, .int .i64 0, .string ⟨#[]⟩] from blk_kept HK.out hF7.2 hgg)
        have HOs := Aside0.mk (hO7.kept (S2 := fun k => k = gv) (Kept.setCell (S := fun k => k = gv) (p := ⟨gv, 2, none⟩) (Kept.refl w7 _) (.inl rfl) (.string v)) (fun k hk => by omega) ((Below.refl _ _).setCell (show w0.heap.size ≤ gv by omega) _))
        have HRs := Aside0.mk (Kd.R_far (p := ⟨gv, 2, none⟩) (Kd.R_kept HRa.out hF7.2 (fun k hk h => by omega)) (fun k hk => by show k ≠ gv; omega) (.string v))
        have HKs := Aside0.mk (show Blk (w7.setCell ⟨gv, 2, none⟩ (.string v)) gv 47 #[.int .i64 2, .int .i64 0, .string v] from by simpa using HK7.out.set_ 2 (.string v))
        have z2 : w7.cell? ⟨gv, 2, none⟩ = some (.string ⟨#[]⟩) := HK7.out.cell 2
        have y2 : w7.frozen? ⟨gv, 2, none⟩ = false := HK7.out.frozen 2
        clear hO7 hF7 HK7 HK HOa HRa k0
        go_upto_region 13 with (fail)
        generalize w7.setCell ⟨gv, 2, none⟩ (.string v) = ws at HKs HOs HRs ⊢
        have c0 : ws.cell? ⟨gv, 0, none⟩ = some (.int .i64 2) := HKs.out.cell 0
        have c1 : ws.cell? ⟨gv, 1, none⟩ = some (.int .i64 0) := HKs.out.cell 1
        have c2 : ws.cell? ⟨gv, 2, none⟩ = some (.string v) := HKs.out.cell 2
        have hX := HX.out
        rw [gvals_step m acc (.inl rfl) (gval_2 H1.out h7)] at hX
        have HX2 := Aside0.mk hX
        clear hX HX
        have HRt := Aside0.mk (Kd.R_mono (ok' := fun k => b ≤ k) HRs.out (fun k hk => hk.1))
        go_wp2_with ((with_reducible refine gate_builtin (b := .append) (xs := #[.tmp 33, .tmp 35]) rfl ?_); at_builtin; refine Kd.R_append k47 (w0 := w0) w0.heap.size rfl (.tmp 33) (.tmp 35) 22 47 (.agg #[(.int .i64 0), (.int .i64 0), (.string ⟨#[]⟩)]) 32 rfl Tryz.underlying22 info47 rfl (by decide) (by omega) u5 acc ⟨2, 0, v⟩ [.int .i64 2, .int .i64 0, .string v] (fun k => b ≤ k) (fun _ => False) rfl rfl ?aP (fun _ hk => hk.elim) (fun k hk => Nat.le_trans HOs.out.le hk) HRt.out HOs.out.bel HOs.out.bel.size HAL.out ?_; (case aP => exact k47_mkM _ _ _ ⟨2, 0, v⟩); intro v9 w9 hR9 hB9 hG9 _; have HR9 := Aside0.mk hR9; have HB9 := Aside0.mk hB9; have HG9 := Aside0.mk hG9; clear hR9 hB9 hG9)
        have HO9 := Aside0.mk (show Or w0 w9 b g _ _ from HOs.out.kept2 (S2 := fun k => u5.ownBlock = some k) ⟨HG9.out.size, fun i hi hn => HG9.out.block i hi (fun he => hn he.symm)⟩ (fun k hk => HRt.out.1 k hk) HB9.out)
        go_roundw
        case rel => exact ⟨m, _, _, _, by first | rfl | (rw [List.length_append, List.length_singleton]; go_num), by rw [List.length_append, List.length_singleton]; omega, HX2, HO9, HR9⟩
        case measure => simp [intOf]; omega
      by_cases t3 : t = 3
      · subst t3
        obtain rfl : kz = 3 := by rw [← hkz]; rfl
        have d1 : ((3 : Int) == 1) = false := rfl
        have d2 : ((3 : Int) == 2) = false := rfl
        have d3 : ((3 : Int) == 3) = true := rfl
        obtain ⟨v, x2, e2, h7⟩ : ∃ v x e, rByte x1 e1 = (v, x, e) := ⟨_, _, _, rfl⟩
        go_wp2_with (fail)
        with_reducible refine (byteQ HOa.out h7).mono ?_
        rintro en w7 ⟨rfl, hO7, hF7⟩
        have HK7 := Aside0.mk (show Blk w7 gv 47 #[.int .i64 3, .int .i64 0, .string ⟨#[]⟩] from blk_kept HK.out hF7.2 hgg)
        have HOs := Aside0.mk (hO7.kept (S2 := fun k => k = gv) (Kept.setCell (S := fun k => k = gv) (p := ⟨gv, 1, none⟩) (Kept.refl w7 _) (.inl rfl) (.int .i64 v)) (fun k hk => by omega) ((Below.refl _ _).setCell (show w0.heap.size ≤ gv by omega) _))
        have HRs := Aside0.mk (Kd.R_far (p := ⟨gv, 1, none⟩) (Kd.R_kept HRa.out hF7.2 (fun k hk h => by omega)) (fun k hk => by show k ≠ gv; omega) (.int .i64 v))
        have HKs := Aside0.mk (show Blk (w7.setCell ⟨gv, 1, none⟩ (.int .i64 v)) gv 47 #[.int .i64 3, .int .i64 v, .string ⟨#[]⟩] from by simpa using HK7.out.set_ 1 (.int .i64 v))
        have z1 : w7.cell? ⟨gv, 1, none⟩ = some (.int .i64 0) := HK7.out.cell 1
        have y1 : w7.frozen? ⟨gv, 1, none⟩ = false := HK7.out.frozen 1
        clear hO7 hF7 HK7 HK HOa HRa k0
        go_upto_region 13 with (fail)
        generalize w7.setCell ⟨gv, 1, none⟩ (.int .i64 v) = ws at HKs HOs HRs ⊢
        have c0 : ws.cell? ⟨gv, 0, none⟩ = some (.int .i64 3) := HKs.out.cell 0
        have c1 : ws.cell? ⟨gv, 1, none⟩ = some (.int .i64 v) := HKs.out.cell 1
        have c2 : ws.cell? ⟨gv, 2, none⟩ = some (.string ⟨#[]⟩) := HKs.out.cell 2
        have hX := HX.out
        rw [gvals_step m acc (.inl rfl) (gval_3 H1.out h7)] at hX
        have HX2 := Aside0.mk hX
        clear hX HX
        have HRt := Aside0.mk (Kd.R_mono (ok' := fun k => b ≤ k) HRs.out (fun k hk => hk.1))
        go_wp2_with ((with_reducible refine gate_builtin (b := .append) (xs := #[.tmp 33, .tmp 35]) rfl ?_); at_builtin; refine Kd.R_append k47 (w0 := w0) w0.heap.size rfl (.tmp 33) (.tmp 35) 22 47 (.agg #[(.int .i64 0), (.int .i64 0), (.string ⟨#[]⟩)]) 32 rfl Tryz.underlying22 info47 rfl (by decide) (by omega) u5 acc ⟨3, v, ⟨#[]⟩⟩ [.int .i64 3, .int .i64 v, .string ⟨#[]⟩] (fun k => b ≤ k) (fun _ => False) rfl rfl ?aP (fun _ hk => hk.elim) (fun k hk => Nat.le_trans HOs.out.le hk) HRt.out HOs.out.bel HOs.out.bel.size HAL.out ?_; (case aP => exact k47_mkM _ _ _ ⟨3, v, ⟨#[]⟩⟩); intro v9 w9 hR9 hB9 hG9 _; have HR9 := Aside0.mk hR9; have HB9 := Aside0.mk hB9; have HG9 := Aside0.mk hG9; clear hR9 hB9 hG9)
        have HO9 := Aside0.mk (show Or w0 w9 b g _ _ from HOs.out.kept2 (S2 := fun k => u5.ownBlock = some k) ⟨HG9.out.size, fun i hi hn => HG9.out.block i hi (fun he => hn he.symm)⟩ (fun k hk => HRt.out.1 k hk) HB9.out)
        go_roundw
        case rel => exact ⟨m, _, _, _, by first | rfl | (rw [List.length_append, List.length_singleton]; go_num), by rw [List.length_append, List.length_singleton]; omega, HX2, HO9, HR9⟩
        case measure => simp [intOf]; omega
      obtain rfl : kz = 0 := by rw [← hkz]; unfold zk; rw [if_neg t1, if_neg t2, if_neg t3]
      have d1 : ((0 : Int) == 1) = false := rfl
      have d2 : ((0 : Int) == 2) = false := rfl
      have d3 : ((0 : Int) == 3) = false := rfl
      clear k0
      have k0 : wa.cell? ⟨gv, 0, none⟩ = some (.int .i64 0) := HK.out.cell 0
      go_upto_region 13 with (fail)
      have HKs := HK
      have HOs := HOa
      have HRs := HRa
      clear HK HOa HRa k0
      have c0 : wa.cell? ⟨gv, 0, none⟩ = some (.int .i64 0) := HKs.out.cell 0
      have c1 : wa.cell? ⟨gv, 1, none⟩ = some (.int .i64 0) := HKs.out.cell 1
      have c2 : wa.cell? ⟨gv, 2, none⟩ = some (.string ⟨#[]⟩) := HKs.out.cell 2
      have hX := HX.out
      rw [gvals_step m acc (.inl rfl) (gval_4 H1.out t1 t2 t3)] at hX
      have HX2 := Aside0.mk hX
      clear hX HX
      have HRt := Aside0.mk (Kd.R_mono (ok' := fun k => b ≤ k) HRs.out (fun k hk => hk.1))
      go_wp2_with ((with_reducible refine gate_builtin (b := .append) (xs := #[.tmp 33, .tmp 35]) rfl ?_); at_builtin; refine Kd.R_append k47 (w0 := w0) w0.heap.size rfl (.tmp 33) (.tmp 35) 22 47 (.agg #[(.int .i64 0), (.int .i64 0), (.string ⟨#[]⟩)]) 32 rfl Tryz.underlying22 info47 rfl (by decide) (by omega) u5 acc ⟨0, 0, ⟨#[]⟩⟩ [.int .i64 0, .int .i64 0, .string ⟨#[]⟩] (fun k => b ≤ k) (fun _ => False) rfl rfl ?aP (fun _ hk => hk.elim) (fun k hk => Nat.le_trans HOs.out.le hk) HRt.out HOs.out.bel HOs.out.bel.size HAL.out ?_; (case aP => exact k47_mkM _ _ _ ⟨0, 0, ⟨#[]⟩⟩); intro v9 w9 hR9 hB9 hG9 _; have HR9 := Aside0.mk hR9; have HB9 := Aside0.mk hB9; have HG9 := Aside0.mk hG9; clear hR9 hB9 hG9)
      have HO9 := Aside0.mk (show Or w0 w9 b g _ _ from HOs.out.kept2 (S2 := fun k => u5.ownBlock = some k) ⟨HG9.out.size, fun i hi hn => HG9.out.block i hi (fun he => hn he.symm)⟩ (fun k hk => HRt.out.1 k hk) HB9.out)
      go_roundw
      case rel => exact ⟨m, _, _, _, by first | rfl | (rw [List.length_append, List.length_singleton]; go_num), by rw [List.length_append, List.length_singleton]; omega, HX2, HO9, HR9⟩
      case measure => simp [intOf]; omega


end Go.Proofs.YtblaibigjhlblaaGreatDoor.Q
end

section
-- written by hprint.py (a program of these sessions) out of the translation; Lean checks it
namespace Go.Proofs.YtblaibigjhlblaaGreatDoor.Q
open Go.RowKit Go.Proofs.YtblaibigjhlblaaGreatDoorW.Hb Go.Proofs.YtblaibigjhlblaaGreatDoorW.PrintWords Go.Proofs.YtblaibigjhlblaaGreatDoorW.PrintLast Go.Proofs.YtblaibigjhlblaaGreatDoorW.PrintMore
attribute [local go_sem] max2_int min2_int max_two min_two max_three min_three max_four min_four   -- for this text's walks alone
set_option linter.unusedVariables false
set_option linter.unusedSimpArgs false

/-! ### weighhouselaw02_num: function 11 -/
def weighhouselaw02_num.f (a0 : Int) : Option (Int) := some a0
set_option maxHeartbeats 8000000 in
set_option maxRecDepth 100000 in
theorem weighhouselaw02_num.calls (a0 : Int) (r : Int) (w : World) (h : weighhouselaw02_num.f a0 = some r) :
    Calls Tryz.prog 11 #[.int .i64 a0] w fun e w' => e = .returned (.int .i64 r) ∧ Drawn0 w w' := by
  have H : (some a0) = some r := h
  clear h
  obtain rfl := Option.some.inj H
  go_enter Tryz.func11, Tryz.ntmps11
  go_wp2
  go_ret
  exact ⟨by first | rfl | (simp; done) | (simp [*]; done), by repeat (first | exact Drawn0.refl _ | apply Drawn0.step)⟩

end Go.Proofs.YtblaibigjhlblaaGreatDoor.Q
end

section
-- written by hprint.py (a program of these sessions) out of the translation; Lean checks it
namespace Go.Proofs.YtblaibigjhlblaaGreatDoor.Q
open Go.RowKit Go.Proofs.YtblaibigjhlblaaGreatDoorW.Hb Go.Proofs.YtblaibigjhlblaaGreatDoorW.PrintWords Go.Proofs.YtblaibigjhlblaaGreatDoorW.PrintLast Go.Proofs.YtblaibigjhlblaaGreatDoorW.PrintMore
attribute [local go_sem] max2_int min2_int max_two min_two max_three min_three max_four min_four   -- for this text's walks alone
set_option linter.unusedVariables false
set_option linter.unusedSimpArgs false

/-! ### weighhouselaw02_Same: function 12 -/
def weighhouselaw02_Same.l0 : Nat → List (S47) → List (S47) → Int → Option (Bool)
  | 0, _, _, _ => none
  | k + 1, x0, x1, x5 => if x5 < (x0.length : Int) then (if 0 ≤ x5 then (if x5 < (x1.length : Int) then (if ((rd_T47 x0 x5).f0) = ((rd_T47 x1 x5).f0) then (if ((rd_T47 x0 x5).f1) = ((rd_T47 x1 x5).f1) then (if ((rd_T47 x0 x5).f2).toList = ((rd_T47 x1 x5).f2).toList then (weighhouselaw02_Same.l0 k x0 x1 (wrap64 (x5 + 1))) else (some false)) else (some false)) else (some false)) else (none)) else (none)) else (some true)
def weighhouselaw02_Same.f (k : Nat) (l0 : List (S47)) (l1 : List (S47)) : Option (Bool) := if (l0.length : Int) = (l1.length : Int) then (weighhouselaw02_Same.l0 k l0 l1 0) else (some false)
theorem weighhouselaw02_Same.mono_l : ∀ k, (∀ y0 y1 y2, LeO (weighhouselaw02_Same.l0 k y0 y1 y2) (weighhouselaw02_Same.l0 (k + 1) y0 y1 y2))
  | 0 => fun _ _ _ r h => by simp [weighhouselaw02_Same.l0] at h
  | k + 1 => by
    have ih0 := weighhouselaw02_Same.mono_l k
    · intro y0 y1 y2
      unfold weighhouselaw02_Same.l0
      repeat' first
      | (with_reducible exact ih0 _ _ _)
      | (with_reducible exact LeO.refl _)
      | (with_reducible exact LeO.none _)
      | (with_reducible refine LeO.ite ?_ ?_)
      | (with_reducible refine LeO.bind ?_ (fun _ => ?_))
      | exact ih0 _ _ _
      | exact LeO.none _
      | refine LeO.ite ?_ ?_
      | refine LeO.bind ?_ (fun _ => ?_)
theorem weighhouselaw02_Same.mono : ∀ a0 a1 k, LeO (weighhouselaw02_Same.f k a0 a1) (weighhouselaw02_Same.f (k + 1) a0 a1) := by
  intro a0 a1 k
  have ih0 := weighhouselaw02_Same.mono_l k
  unfold weighhouselaw02_Same.f
  repeat' first
      | (with_reducible exact ih0 _ _ _)
      | (with_reducible exact LeO.refl _)
      | (with_reducible exact LeO.none _)
      | (with_reducible refine LeO.ite ?_ ?_)
      | (with_reducible refine LeO.bind ?_ (fun _ => ?_))
      | exact ih0 _ _ _
      | exact LeO.none _
      | refine LeO.ite ?_ ?_
      | refine LeO.bind ?_ (fun _ => ?_)
set_option maxHeartbeats 8000000 in
set_option maxRecDepth 100000 in
theorem weighhouselaw02_Same.calls (k : Nat) (A0 : Option Addr) (c0 : Nat) (l0 : List (S47)) (A1 : Option Addr) (c1 : Nat) (l1 : List (S47)) (r : Bool) (w : World) (hr0 : Kd.C k47 w A0 l0.length l0) (hc0 : l0.length ≤ c0) (hr1 : Kd.C k47 w A1 l1.length l1) (hc1 : l1.length ≤ c1) (h : weighhouselaw02_Same.f k l0 l1 = some r) :
    Calls Tryz.prog 12 #[.slice A0 l0.length c0, .slice A1 l1.length c1] w fun e w' => e = .returned (.bool r) ∧ Drawn0 w w' := by
  have HR0 := Aside0.mk hr0
  have HC0 := Aside0.mk hc0
  clear hr0 hc0
  have HR1 := Aside0.mk hr1
  have HC1 := Aside0.mk hc1
  clear hr1 hc1
  have H : (if (l0.length : Int) = (l1.length : Int) then (weighhouselaw02_Same.l0 k l0 l1 0) else (some false)) = some r := h
  clear h
  by_cases c3 : (l0.length : Int) = (l1.length : Int)
  · rw [if_pos c3] at H
    have c3b0 : ((l0.length : Int) == (l1.length : Int)) = true := beq_iff_eq.mpr c3
    have c3b1 : ((l0.length : Int) != (l1.length : Int)) = false := bne_eq_false_iff_eq.mpr c3
    have c3b2 : (l0.length == l1.length) = true := by first | simpa using c3 | (simp at c3 ⊢; omega)
    clear c3
    have H' := Aside0.mk H
    clear H
    go_enter Tryz.func12, Tryz.ntmps12
    go_wp2
    repeat (go_quiet (fail); try go_wp2)
    go_loopg [5] k (fun kq v5 w' => ∃ (x5_1 : Int), v5 = .int .i64 x5_1 ∧ Aside0 (weighhouselaw02_Same.l0 kq l0 l1 x5_1 = some r) ∧ Aside0 (kq ≤ k) ∧ Drawn0 w w')
    case atStart => exact ⟨(0), (by first | rfl | (simp; done) | (simp [*]; done)), H', ⟨Nat.le_refl _⟩, by repeat (first | exact Drawn0.refl _ | apply Drawn0.step)⟩
    case round =>
      clear H'
      try clear c1
      try clear p2
      try clear c3
      try clear c3b0
      try clear c3b1
      try clear c3b2
      obtain ⟨x5_1, rfl, HA, HK1, ⟨m1, rfl⟩⟩ := hrel
      cases gk with
      | zero => exact absurd HA.out (by simp [weighhouselaw02_Same.l0])
      | succ k1 =>
        have H := HA.out
        clear HA
        simp only [weighhouselaw02_Same.l0] at H
        by_cases c4 : x5_1 < (l0.length : Int)
        · rw [if_pos c4] at H
          have c4b0 : decide (x5_1 < (l0.length : Int)) = true := decide_eq_true c4
          clear c4
          by_cases c5 : 0 ≤ x5_1
          · rw [if_pos c5] at H
            have c5b0 : decide (0 ≤ x5_1) = true := decide_eq_true c5
            clear c5
            by_cases c6 : x5_1 < (l1.length : Int)
            · rw [if_pos c6] at H
              have c6b0 : decide (x5_1 < (l1.length : Int)) = true := decide_eq_true c6
              clear c6
              by_cases c7 : ((rd_T47 l0 x5_1).f0) = ((rd_T47 l1 x5_1).f0)
              · rw [if_pos c7] at H
                have c7b0 : (((rd_T47 l0 x5_1).f0) == ((rd_T47 l1 x5_1).f0)) = true := beq_iff_eq.mpr c7
                have c7b1 : (((rd_T47 l0 x5_1).f0) != ((rd_T47 l1 x5_1).f0)) = false := bne_eq_false_iff_eq.mpr c7
                clear c7
                by_cases c8 : ((rd_T47 l0 x5_1).f1) = ((rd_T47 l1 x5_1).f1)
                · rw [if_pos c8] at H
                  have c8b0 : (((rd_T47 l0 x5_1).f1) == ((rd_T47 l1 x5_1).f1)) = true := beq_iff_eq.mpr c8
                  have c8b1 : (((rd_T47 l0 x5_1).f1) != ((rd_T47 l1 x5_1).f1)) = false := bne_eq_false_iff_eq.mpr c8
                  clear c8
                  by_cases c9 : ((rd_T47 l0 x5_1).f2).toList = ((rd_T47 l1 x5_1).f2).toList
                  · rw [if_pos c9] at H
                    have c9b0 : (((rd_T47 l0 x5_1).f2).toList == ((rd_T47 l1 x5_1).f2).toList) = true := beq_iff_eq.mpr c9
                    have c9b1 : (((rd_T47 l0 x5_1).f2).toList != ((rd_T47 l1 x5_1).f2).toList) = false := bne_eq_false_iff_eq.mpr c9
                    clear c9
                    have H' := Aside0.mk H
                    clear H
                    have p184 : 0 ≤ (x5_1 : Int) := of_decide_eq_true (by first | (with_reducible assumption) | assumption)
                    have q184 : x5_1 < (l0.length : Int) := of_decide_eq_true (by first | (with_reducible assumption) | assumption)
                    obtain ⟨ad184, e184, hx184_0, hx184_1, hx184_2⟩ := at_T47 HR0.out x5_1 p184 q184
                    cases e184
                    replace p184 := eq_true p184
                    replace q184 := eq_true q184
                    have p185 : 0 ≤ (x5_1 : Int) := of_decide_eq_true (by first | (with_reducible assumption) | assumption)
                    have q185 : x5_1 < (l1.length : Int) := of_decide_eq_true (by first | (with_reducible assumption) | assumption)
                    obtain ⟨ad185, e185, hx185_0, hx185_1, hx185_2⟩ := at_T47 HR1.out x5_1 p185 q185
                    cases e185
                    replace p185 := eq_true p185
                    replace q185 := eq_true q185
                    have p186 : 0 ≤ (x5_1 : Int) := of_decide_eq_true (by first | (with_reducible assumption) | assumption)
                    have q186 : x5_1 < (l0.length : Int) := of_decide_eq_true (by first | (with_reducible assumption) | assumption)
                    obtain ⟨ad186, e186, hx186_0, hx186_1, hx186_2⟩ := at_T47 HR0.out x5_1 p186 q186
                    obtain rfl : ad184 = ad186 := (by injection e186)
                    replace p186 := eq_true p186
                    replace q186 := eq_true q186
                    have p187 : 0 ≤ (x5_1 : Int) := of_decide_eq_true (by first | (with_reducible assumption) | assumption)
                    have q187 : x5_1 < (l1.length : Int) := of_decide_eq_true (by first | (with_reducible assumption) | assumption)
                    obtain ⟨ad187, e187, hx187_0, hx187_1, hx187_2⟩ := at_T47 HR1.out x5_1 p187 q187
                    obtain rfl : ad185 = ad187 := (by injection e187)
                    replace p187 := eq_true p187
                    replace q187 := eq_true q187
                    have p188 : 0 ≤ (x5_1 : Int) := of_decide_eq_true (by first | (with_reducible assumption) | assumption)
                    have q188 : x5_1 < (l0.length : Int) := of_decide_eq_true (by first | (with_reducible assumption) | assumption)
                    obtain ⟨ad188, e188, hx188_0, hx188_1, hx188_2⟩ := at_T47 HR0.out x5_1 p188 q188
                    obtain rfl : ad184 = ad188 := (by injection e188)
                    replace p188 := eq_true p188
                    replace q188 := eq_true q188
                    have p189 : 0 ≤ (x5_1 : Int) := of_decide_eq_true (by first | (with_reducible assumption) | assumption)
                    have q189 : x5_1 < (l1.length : Int) := of_decide_eq_true (by first | (with_reducible assumption) | assumption)
                    obtain ⟨ad189, e189, hx189_0, hx189_1, hx189_2⟩ := at_T47 HR1.out x5_1 p189 q189
                    obtain rfl : ad185 = ad189 := (by injection e189)
                    replace p189 := eq_true p189
                    replace q189 := eq_true q189
                    go_wp2
                    repeat (go_quiet (fail); try go_wp2)
                    go_roundg k1
                    case measure => have := HK1.out; omega
                    case rel => exact ⟨(wrap64 (x5_1 + 1)), (by first | rfl | (simp; done) | (simp [*]; done)), H', ⟨by have := HK1.out; omega⟩, by repeat (first | exact Drawn0.refl _ | apply Drawn0.step)⟩
                  · rw [if_neg c9] at H
                    have c9b0 : (((rd_T47 l0 x5_1).f2).toList == ((rd_T47 l1 x5_1).f2).toList) = false := beq_eq_false_iff_ne.mpr c9
                    have c9b1 : (((rd_T47 l0 x5_1).f2).toList != ((rd_T47 l1 x5_1).f2).toList) = true := bne_iff_ne.mpr c9
                    obtain rfl := Option.some.inj H
                    have p184 : 0 ≤ (x5_1 : Int) := of_decide_eq_true (by first | (with_reducible assumption) | assumption)
                    have q184 : x5_1 < (l0.length : Int) := of_decide_eq_true (by first | (with_reducible assumption) | assumption)
                    obtain ⟨ad184, e184, hx184_0, hx184_1, hx184_2⟩ := at_T47 HR0.out x5_1 p184 q184
                    cases e184
                    replace p184 := eq_true p184
                    replace q184 := eq_true q184
                    have p185 : 0 ≤ (x5_1 : Int) := of_decide_eq_true (by first | (with_reducible assumption) | assumption)
                    have q185 : x5_1 < (l1.length : Int) := of_decide_eq_true (by first | (with_reducible assumption) | assumption)
                    obtain ⟨ad185, e185, hx185_0, hx185_1, hx185_2⟩ := at_T47 HR1.out x5_1 p185 q185
                    cases e185
                    replace p185 := eq_true p185
                    replace q185 := eq_true q185
                    have p186 : 0 ≤ (x5_1 : Int) := of_decide_eq_true (by first | (with_reducible assumption) | assumption)
                    have q186 : x5_1 < (l0.length : Int) := of_decide_eq_true (by first | (with_reducible assumption) | assumption)
                    obtain ⟨ad186, e186, hx186_0, hx186_1, hx186_2⟩ := at_T47 HR0.out x5_1 p186 q186
                    obtain rfl : ad184 = ad186 := (by injection e186)
                    replace p186 := eq_true p186
                    replace q186 := eq_true q186
                    have p187 : 0 ≤ (x5_1 : Int) := of_decide_eq_true (by first | (with_reducible assumption) | assumption)
                    have q187 : x5_1 < (l1.length : Int) := of_decide_eq_true (by first | (with_reducible assumption) | assumption)
                    obtain ⟨ad187, e187, hx187_0, hx187_1, hx187_2⟩ := at_T47 HR1.out x5_1 p187 q187
                    obtain rfl : ad185 = ad187 := (by injection e187)
                    replace p187 := eq_true p187
                    replace q187 := eq_true q187
                    have p188 : 0 ≤ (x5_1 : Int) := of_decide_eq_true (by first | (with_reducible assumption) | assumption)
                    have q188 : x5_1 < (l0.length : Int) := of_decide_eq_true (by first | (with_reducible assumption) | assumption)
                    obtain ⟨ad188, e188, hx188_0, hx188_1, hx188_2⟩ := at_T47 HR0.out x5_1 p188 q188
                    obtain rfl : ad184 = ad188 := (by injection e188)
                    replace p188 := eq_true p188
                    replace q188 := eq_true q188
                    have p189 : 0 ≤ (x5_1 : Int) := of_decide_eq_true (by first | (with_reducible assumption) | assumption)
                    have q189 : x5_1 < (l1.length : Int) := of_decide_eq_true (by first | (with_reducible assumption) | assumption)
                    obtain ⟨ad189, e189, hx189_0, hx189_1, hx189_2⟩ := at_T47 HR1.out x5_1 p189 q189
                    obtain rfl : ad185 = ad189 := (by injection e189)
                    replace p189 := eq_true p189
                    replace q189 := eq_true q189
                    go_wp2
                    repeat (go_quiet (fail); try go_wp2)
                    go_ret
                    exact ⟨by first | rfl | (simp; done) | (simp [*]; done), by repeat (first | exact Drawn0.refl _ | apply Drawn0.step)⟩
                · rw [if_neg c8] at H
                  have c8b0 : (((rd_T47 l0 x5_1).f1) == ((rd_T47 l1 x5_1).f1)) = false := beq_eq_false_iff_ne.mpr c8
                  have c8b1 : (((rd_T47 l0 x5_1).f1) != ((rd_T47 l1 x5_1).f1)) = true := bne_iff_ne.mpr c8
                  obtain rfl := Option.some.inj H
                  have p184 : 0 ≤ (x5_1 : Int) := of_decide_eq_true (by first | (with_reducible assumption) | assumption)
                  have q184 : x5_1 < (l0.length : Int) := of_decide_eq_true (by first | (with_reducible assumption) | assumption)
                  obtain ⟨ad184, e184, hx184_0, hx184_1, hx184_2⟩ := at_T47 HR0.out x5_1 p184 q184
                  cases e184
                  replace p184 := eq_true p184
                  replace q184 := eq_true q184
                  have p185 : 0 ≤ (x5_1 : Int) := of_decide_eq_true (by first | (with_reducible assumption) | assumption)
                  have q185 : x5_1 < (l1.length : Int) := of_decide_eq_true (by first | (with_reducible assumption) | assumption)
                  obtain ⟨ad185, e185, hx185_0, hx185_1, hx185_2⟩ := at_T47 HR1.out x5_1 p185 q185
                  cases e185
                  replace p185 := eq_true p185
                  replace q185 := eq_true q185
                  have p186 : 0 ≤ (x5_1 : Int) := of_decide_eq_true (by first | (with_reducible assumption) | assumption)
                  have q186 : x5_1 < (l0.length : Int) := of_decide_eq_true (by first | (with_reducible assumption) | assumption)
                  obtain ⟨ad186, e186, hx186_0, hx186_1, hx186_2⟩ := at_T47 HR0.out x5_1 p186 q186
                  obtain rfl : ad184 = ad186 := (by injection e186)
                  replace p186 := eq_true p186
                  replace q186 := eq_true q186
                  have p187 : 0 ≤ (x5_1 : Int) := of_decide_eq_true (by first | (with_reducible assumption) | assumption)
                  have q187 : x5_1 < (l1.length : Int) := of_decide_eq_true (by first | (with_reducible assumption) | assumption)
                  obtain ⟨ad187, e187, hx187_0, hx187_1, hx187_2⟩ := at_T47 HR1.out x5_1 p187 q187
                  obtain rfl : ad185 = ad187 := (by injection e187)
                  replace p187 := eq_true p187
                  replace q187 := eq_true q187
                  go_wp2
                  repeat (go_quiet (fail); try go_wp2)
                  go_ret
                  exact ⟨by first | rfl | (simp; done) | (simp [*]; done), by repeat (first | exact Drawn0.refl _ | apply Drawn0.step)⟩
              · rw [if_neg c7] at H
                have c7b0 : (((rd_T47 l0 x5_1).f0) == ((rd_T47 l1 x5_1).f0)) = false := beq_eq_false_iff_ne.mpr c7
                have c7b1 : (((rd_T47 l0 x5_1).f0) != ((rd_T47 l1 x5_1).f0)) = true := bne_iff_ne.mpr c7
                obtain rfl := Option.some.inj H
                have p184 : 0 ≤ (x5_1 : Int) := of_decide_eq_true (by first | (with_reducible assumption) | assumption)
                have q184 : x5_1 < (l0.length : Int) := of_decide_eq_true (by first | (with_reducible assumption) | assumption)
                obtain ⟨ad184, e184, hx184_0, hx184_1, hx184_2⟩ := at_T47 HR0.out x5_1 p184 q184
                cases e184
                replace p184 := eq_true p184
                replace q184 := eq_true q184
                have p185 : 0 ≤ (x5_1 : Int) := of_decide_eq_true (by first | (with_reducible assumption) | assumption)
                have q185 : x5_1 < (l1.length : Int) := of_decide_eq_true (by first | (with_reducible assumption) | assumption)
                obtain ⟨ad185, e185, hx185_0, hx185_1, hx185_2⟩ := at_T47 HR1.out x5_1 p185 q185
                cases e185
                replace p185 := eq_true p185
                replace q185 := eq_true q185
                go_wp2
                repeat (go_quiet (fail); try go_wp2)
                go_ret
                exact ⟨by first | rfl | (simp; done) | (simp [*]; done), by repeat (first | exact Drawn0.refl _ | apply Drawn0.step)⟩
            · rw [if_neg c6] at H
              exact absurd H (by simp)
          · rw [if_neg c5] at H
            exact absurd H (by simp)
        · rw [if_neg c4] at H
          have c4b0 : decide (x5_1 < (l0.length : Int)) = false := decide_eq_false c4
          clear c4
          obtain rfl := Option.some.inj H
          go_wp2
          repeat (go_quiet (fail); try go_wp2)
          go_ret
          exact ⟨by first | rfl | (simp; done) | (simp [*]; done), by repeat (first | exact Drawn0.refl _ | apply Drawn0.step)⟩
  · rw [if_neg c3] at H
    have c3b0 : ((l0.length : Int) == (l1.length : Int)) = false := beq_eq_false_iff_ne.mpr c3
    have c3b1 : ((l0.length : Int) != (l1.length : Int)) = true := bne_iff_ne.mpr c3
    have c3b2 : (l0.length == l1.length) = false := by first | simpa using c3 | (simp at c3 ⊢; omega)
    obtain rfl := Option.some.inj H
    go_enter Tryz.func12, Tryz.ntmps12
    go_wp2
    repeat (go_quiet (fail); try go_wp2)
    go_ret
    exact ⟨by first | rfl | (simp; done) | (simp [*]; done), by repeat (first | exact Drawn0.refl _ | apply Drawn0.step)⟩

end Go.Proofs.YtblaibigjhlblaaGreatDoor.Q
end

section
-- written by hprint.py (a program of these sessions) out of the translation; Lean checks it
namespace Go.Proofs.YtblaibigjhlblaaGreatDoor.Q
open Go.RowKit Go.Proofs.YtblaibigjhlblaaGreatDoorW.Hb Go.Proofs.YtblaibigjhlblaaGreatDoorW.PrintWords Go.Proofs.YtblaibigjhlblaaGreatDoorW.PrintLast Go.Proofs.YtblaibigjhlblaaGreatDoorW.PrintMore
attribute [local go_sem] max2_int min2_int max_two min_two max_three min_three max_four min_four   -- for this text's walks alone
set_option linter.unusedVariables false
set_option linter.unusedSimpArgs false

/-! ### strings_Builder_WriteByte: function 65, by hand -/
theorem bdC_blocks {w w1 : World} {k : IntKind} {A : Option Addr} {xs : List Int} (h : (Kd.int k).C w A xs.length xs) (hb : ∀ ad, A = some ad → w1.heap[ad.block]? = w.heap[ad.block]?) : (Kd.int k).C w1 A xs.length xs := by
  refine ⟨h.1, h.2.1, fun hp => ?_⟩
  obtain ⟨ad, e, hc⟩ := h.2.2 hp
  refine ⟨ad, e, fun j p hj => ?_⟩
  obtain ⟨cs, h1, h2, h3⟩ := hc j p hj
  refine ⟨cs, h1, h2, fun i u hu => ?_⟩
  have hbl : (ad.add (j * (Kd.int k).sz + i)).block = ad.block := by unfold Addr.add; split <;> rfl
  rw [← h3 i u hu]
  exact World.cell?_of_block (by rw [hbl]; exact hb ad e)
/-- A Builder that has been written to: its own blocks are S. -/
def Bd (w : World) (S : Nat → Prop) (g : Nat) (l : List Int) : Prop := ∃ v, Blk w g 98 #[.pointer (some ⟨g, 0, none⟩), v] ∧ S g ∧ (Kd.int .u8).R 5 w 0 (fun k => S k ∧ k ≠ g) v l
def BdS (S : Nat → Prop) (w w' : World) (k : Nat) : Prop := S k ∨ w.heap.size ≤ k ∧ k < w'.heap.size
set_option maxRecDepth 100000 in
set_option maxHeartbeats 1000000 in
theorem strings_Builder_WriteByte.calls (S : Nat → Prop) (g : Nat) (l : List Int) (c : Int) (w : World) (hW : Bd w S g l) (hl : l.length + 1 ≤ 140737488355328) :
    Calls Tryz.prog 65 #[.pointer (some ⟨g, 0, none⟩), .int .u8 c] w fun e w' => e = .returned .nilIface ∧ Bd w' (BdS S w w') g (l ++ [c]) ∧ Below 0 w w' ∧ Kept w w' S := by
  obtain ⟨v, hb, hS, hR⟩ := hW
  obtain ⟨Av, cv, rfl, hcv, _⟩ := Kd.R_reads hR
  have HB := Aside0.mk hb
  have HR := Aside0.mk (Kd.R_mono (ok' := fun k => (S k ∨ w.heap.size ≤ k) ∧ k ≠ g) hR (fun k hk => ⟨.inl hk.1, hk.2⟩))
  have hg := hb.lt
  have h0 : w.cell? ⟨g, 0, none⟩ = some (.pointer (some ⟨g, 0, none⟩)) := hb.cell 0
  have h1 : w.cell? ⟨g, 1, none⟩ = some (.slice Av l.length cv) := hb.cell 1
  have f1 : w.frozen? ⟨g, 1, none⟩ = false := hb.frozen 1
  have HL := Aside0.mk (show (l.length + 1) * 1 ≤ 140737488355328 by omega)
  have HRa := Aside0.mk (Kd.R_alloc HR.out (.cells #[.int .u8 c] 5))
  have HBa := Aside0.mk ((Below.refl 0 w).alloc (Nat.zero_le _) (.cells #[.int .u8 c] 5))
  have HCC := Aside0.mk (show Calls Tryz.prog 80 #[.pointer (some ⟨g, 0, none⟩)] w fun e w' => e = .returned (.tuple #[]) ∧ w' = w from Go.Proofs.Any.Builder_copyCheck_used Tryz.lays240 Tryz.Builder_X72_240 g w h0)
  clear hb hR hl
  go_enter Tryz.func65, Tryz.ntmps65
  go_wp2_with (first | ((with_reducible refine gate_builtin (b := .append) (xs := #[.tmp 11, .tmp 13]) rfl ?_); at_builtin; refine Kd.R_append (Kd.int .u8) (w0 := w) (W := w) 0 rfl (.tmp 11) (.tmp 13) 23 5 (.int .u8 0) 1 rfl Tryz.underlying23 info5 rfl (by decide) (by omega) (.slice Av l.length cv) l c [.int .u8 c] (fun k => (S k ∨ w.heap.size ≤ k) ∧ k ≠ g) (fun _ => False) rfl rfl rfl (fun _ hk => hk.elim) (fun k hk => ⟨.inr hk, by omega⟩) HR.out (Below.refl 0 w) (Nat.zero_le _) HL.out ?_; intro v3 w3 hR3 hB3 hG3 hA3; obtain ⟨A3, c3, rfl⟩ := Kd.R_slice hR3; have hgv : some g ≠ (Value.slice Av l.length cv).ownBlock := (fun he => (HR.out.1 g he.symm).2 rfl); have hb3 : Blk w3 g 98 #[.pointer (some ⟨g, 0, none⟩), .slice Av l.length cv] := (hG3.block g hg hgv).trans HB.out; have h3 : w3.cell? ⟨g, 1, none⟩ = some (.slice Av l.length cv) := hb3.cell 1; have f3 : w3.frozen? ⟨g, 1, none⟩ = false := hb3.frozen 1; have HR3 := Aside0.mk hR3; have HB3 := Aside0.mk hb3; have HD3 := Aside0.mk hB3; have HG3 := Aside0.mk hG3; clear hR3 hB3 hG3 hA3 hb3) | (go_at_call 80; (with_reducible refine HCC.out.mono ?_); rintro e w9 ⟨rfl, hw9⟩; subst w9))
  go_ret
  refine ⟨rfl, ⟨.slice A3 (l ++ [c]).length c3, by simpa using HB3.out.set_ 1 (.slice A3 (l ++ [c]).length c3), .inl hS, ?_⟩, HD3.out.setCell (Nat.zero_le _) _, Kept.setCell (Kept.of_grown HG3.out (Kept.refl w S) (fun k hk => ?_)) (.inl hS) _⟩
  · refine Kd.R_far (p := ⟨g, 1, none⟩) ?_ (fun k hk => hk.2) _
    refine Kd.R_mono (Kd.R_bound HR3.out) (fun k hk => ⟨hk.1.1.elim .inl (fun h => .inr ⟨h, ?_⟩), hk.1.2⟩)
    simpa [World.setCell] using hk.2.2.1
  · exact (HR.out.1 k hk).1
theorem Bd.of {w : World} {B b : Nat} {l : List Int} (h : Lib.BuilderAt 98 5 B b (.pointer (some ⟨b, 0, none⟩)) (l.map (Value.int .u8)) w) : ∃ S, Bd w S b l ∧ ∀ k, S k → B ≤ k ∧ k < w.heap.size := by
  have hlt := h.lt
  obtain ⟨hB, v, hb, ho, hne⟩ := h
  rw [List.length_map] at ho
  have hR : (Kd.int .u8).R 5 w B (fun k => v.ownBlock = some k) v l := Kd.R_of_own ho (fun _ hk => hk)
  refine ⟨fun k => k = b ∨ v.ownBlock = some k, ⟨v, hb, .inl rfl, Kd.R_lower (Kd.R_mono hR (fun k hk => ⟨.inr hk, fun he => hne (by rw [hk, he])⟩)) (Nat.zero_le _)⟩, fun k hk => ?_⟩
  rcases hk with rfl | hk
  · exact ⟨hB, hlt⟩
  · exact ⟨Kd.R_base hR k hk, Kd.R_lt hR k hk⟩
theorem Bd.to {w : World} {S : Nat → Prop} {B g : Nat} {l : List Int} (h : Bd w S g l) (hS : ∀ k, S k → B ≤ k) : Lib.BuilderAt 98 5 B g (.pointer (some ⟨g, 0, none⟩)) (l.map (Value.int .u8)) w := by
  obtain ⟨v, hb, hg, hR⟩ := h
  have ho := Kd.own_of_R hR
  refine ⟨hS g hg, v, hb, ?_, fun he => (hR.1 g he).2 rfl⟩
  rw [List.length_map]
  obtain ⟨hl, h2⟩ := ho
  refine ⟨hl, h2.imp id ?_⟩
  rintro ⟨g', cap, cur, hv, _, hr⟩
  exact ⟨g', cap, cur, hv, hS g' (hR.1 g' (by rw [hv]; rfl)).1, hr⟩


end Go.Proofs.YtblaibigjhlblaaGreatDoor.Q
end

section
-- written by hprint.py (a program of these sessions) out of the translation; Lean checks it
namespace Go.Proofs.YtblaibigjhlblaaGreatDoor.Q
open Go.RowKit Go.Proofs.YtblaibigjhlblaaGreatDoorW.Hb Go.Proofs.YtblaibigjhlblaaGreatDoorW.PrintWords Go.Proofs.YtblaibigjhlblaaGreatDoorW.PrintLast Go.Proofs.YtblaibigjhlblaaGreatDoorW.PrintMore
attribute [local go_sem] max2_int min2_int max_two min_two max_three min_three max_four min_four   -- for this text's walks alone
set_option linter.unusedVariables false
set_option linter.unusedSimpArgs false

/-! ### value_text: function 40, by hand -/
def hexC (n : Nat) : UInt8 := if n < 10 then (48 + n).toUInt8 else (87 + n).toUInt8
def hexU (l : List UInt8) : List UInt8 := l.flatMap (fun c => [hexC (c.toNat / 16), hexC (c.toNat % 16)])
def nat8 (l : List UInt8) : List Int := l.map fun b => (b.toNat : Int)
def textU (b : ByteArray) : List UInt8 := 120 :: 39 :: (hexU b.data.toList ++ [39])
theorem Bd.below {w w' : World} {S : Nat → Prop} {g : Nat} {l : List Int} (h : Bd w S g l) (hb : Below w.heap.size w w') : Bd w' S g l := by
  obtain ⟨v, h1, h2, h3⟩ := h
  exact ⟨v, h1.after hb, h2, Kd.R_below h3 hb⟩
theorem hexAt (n : Nat) (h : n < 16) : (({ data := #[48, 49, 50, 51, 52, 53, 54, 55, 56, 57, 97, 98, 99, 100, 101, 102] } : ByteArray)[n]'(by show n < 16; exact h)).toNat = (hexC n).toNat := by
  match n, h with
  | 0, _ => rfl
  | 1, _ => rfl
  | 2, _ => rfl
  | 3, _ => rfl
  | 4, _ => rfl
  | 5, _ => rfl
  | 6, _ => rfl
  | 7, _ => rfl
  | 8, _ => rfl
  | 9, _ => rfl
  | 10, _ => rfl
  | 11, _ => rfl
  | 12, _ => rfl
  | 13, _ => rfl
  | 14, _ => rfl
  | 15, _ => rfl
  | n + 16, h => exact absurd h (by omega)
theorem bdBelow {w w' : World} {S : Nat → Prop} {B : Nat} (hb : Below 0 w w') (hk : Kept w w' S) (hB : B ≤ w.heap.size) (hS : ∀ k, S k → B ≤ k) : Below B w w' :=
  ⟨hb.os, hb.tape, hb.output, hb.size, fun k hlt => hk.2 k (by omega) (fun h => by have := hS k h; omega)⟩
theorem hexU_len (l : List UInt8) : (hexU l).length = 2 * l.length := by
  unfold hexU
  induction l with
  | nil => rfl
  | cons a t ih => rw [List.flatMap_cons, List.length_append, ih, List.length_cons, List.length_cons, List.length_cons, List.length_nil]; omega
def value_text.f (a0 a1 : Int) (a2 : ByteArray) : Option ByteArray := if a0 = 1 then (if -9223372036854775808 ≤ a1 ∧ a1 ≤ 9223372036854775807 then some ⟨(Lib.itoa a1).toArray⟩ else none) else if a0 = 3 then some ⟨(Lib.formatBool (a1 == 1)).toArray⟩ else if a2.size * 2 + 3 ≤ 140737488355328 then some ⟨(textU a2).toArray⟩ else none
set_option maxRecDepth 100000 in
set_option maxHeartbeats 4000000 in
theorem value_text.calls (a0 a1 : Int) (a2 : ByteArray) (r : ByteArray) (w : World) (h : value_text.f a0 a1 a2 = some r) (hV : VarsOk w) :
    Calls Tryz.prog 40 #[.agg #[.int .i64 a0, .int .i64 a1, .string a2]] w fun e w' => e = .returned (.string r) ∧ Below w.heap.size w w' := by
  unfold value_text.f at h
  have HV := Aside0.mk hV
  clear hV
  have HB1 := Aside0.mk ((Below.refl w.heap.size w).alloc (Nat.le_refl _) (.cells #[.int .i64 a0, .int .i64 a1, .string a2] 47))
  by_cases h1 : a0 = 1
  · rw [if_pos h1] at h
    by_cases hr : -9223372036854775808 ≤ a1 ∧ a1 ≤ 9223372036854775807
    · rw [if_pos hr] at h
      obtain rfl := Option.some.inj h
      subst h1
      have HI := Aside0.mk (itoaV a1 hr.1 hr.2 _ (HV.out.below HB1.out))
      clear h hr
      go_enter Tryz.func40, Tryz.ntmps40
      go_wp2_with (go_at_call 62; (with_reducible refine HI.out.mono ?_); rintro e w2 ⟨rfl, hb⟩; have HB2 := Aside0.mk hb; clear hb)
      go_ret
      exact ⟨rfl, HB1.out.trans (HB2.out.mono (by simp))⟩
    · rw [if_neg hr] at h
      cases h
  rw [if_neg h1] at h
  have d1 : (a0 == 1) = false := by simpa using h1
  by_cases h3 : a0 = 3
  · rw [if_pos h3] at h
    obtain rfl := Option.some.inj h
    subst h3
    obtain ⟨b, hb⟩ : ∃ b, (a1 == 1) = b := ⟨_, rfl⟩
    have HI := Aside0.mk (Tryz.strconv_FormatBool b (w.alloc (.cells #[.int .i64 3, .int .i64 a1, .string a2] 47)))
    rw [hb]
    clear h h1
    go_enter Tryz.func40, Tryz.ntmps40
    go_wp2_with (go_at_call 63; (with_reducible refine HI.out.mono ?_); rintro e w2 ⟨rfl, rfl⟩)
    go_ret
    exact ⟨rfl, HB1.out⟩
  rw [if_neg h3] at h
  have d3 : (a0 == 3) = false := by simpa using h3
  by_cases hsz : a2.size * 2 + 3 ≤ 140737488355328
  · rw [if_pos hsz] at h
    obtain rfl := Option.some.inj h
    clear h h1 h3
    obtain ⟨b, hb⟩ : ∃ b, b = bytesOf a2 := ⟨_, rfl⟩
    have hbl : b.length = a2.size := by rw [hb, bytesOf_length]
    have HSZ := Aside0.mk (show b.length * 2 + 3 ≤ 140737488355328 by omega)
    have HBY := Aside0.mk hb
    have hbm : b.length ≤ 9223372036854775807 := by omega
    clear hsz
    obtain ⟨gc, bw, hbw, hbc, kb⟩ : ∃ (gc : World → Nat) (bw : World → World), (∀ W, Below W.heap.size W (bw W)) ∧ (∀ W, (Kd.int .u8).C (bw W) (some ⟨W.heap.size, 0, none⟩) b.length b) ∧ ∀ W, (convert 9 23 (.string a2)).run Tryz.prog W = .ok (.slice (some ⟨W.heap.size, 0, none⟩) b.length (gc W)) (bw W) := by
      refine ⟨fun W => grownCap W a2.size 0 5, fun W => Lib.bytesWorld W 5 a2, fun W => bytes_below (Below.refl _ _) (Nat.le_refl _) _ _, fun W => ?_, fun W => ?_⟩
      · have := bytes_reads W 5 a2 (by omega)
        rw [← hb, ← hbl] at this
        exact Kd.C_of_reads (d := (0 : Int)) (h1 := fun _ => rfl) this
      · rw [hbl]
        exact print_bytes (P := Tryz.prog) 9 23 5 Tryz.underlying9 Tryz.underlying23 Tryz.underlying5 a2 W
    have HBW := Aside0.mk hbw
    have HBC := Aside0.mk hbc
    clear hbw hbc hb hbl
    go_enter Tryz.func40, Tryz.ntmps40
    go_upto_region 7 with (fail)
    obtain ⟨w1, hw1⟩ : ∃ w1, w1 = w.alloc (.cells #[.int .i64 a0, .int .i64 a1, .string a2] 47) := ⟨_, rfl⟩
    have hs1 : w.heap.size + 1 = w1.heap.size := by rw [hw1]; simp
    have kc : w1.cell? ⟨w.heap.size, 2, none⟩ = some (.string a2) := by rw [hw1]; exact (Blk.new w 47 #[.int .i64 a0, .int .i64 a1, .string a2]).cell 2
    rw [← hw1, hs1]
    rw [← hw1] at HB1
    have HC1 := Aside0.mk kc
    have HWS := Aside0.mk (Tryz.Builder_WriteString w1.heap.size w1.heap.size [] ⟨#[120, 39]⟩ _ (Lib.fresh_isBuilder 98 5 w1) (by decide) (by simp))
    clear hw1 hs1 kc
    go_upto_region 8 with (go_at_call 64; (with_reducible refine HWS.out.mono ?_); rintro e w2 ⟨rfl, hb2, hB2⟩; have HB2 := Aside0.mk hB2; have HBD := Aside0.mk (Bd.of (l := nat8 [120, 39]) hb2); clear hb2 hB2)
    clear HWS
    obtain ⟨S2, hS2, hS2b⟩ := HBD.out
    obtain ⟨gb, hgb⟩ : ∃ gb, w1.heap.size = gb := ⟨_, rfl⟩
    rw [hgb] at HB2 hS2 hS2b ⊢
    have HG := Aside0.mk hgb
    have HB1a := HB1.out.alloc HB1.out.size (.cells #[.pointer none, .slice none 0 0] 98)
    have HB12 := Aside0.mk (HB1a.trans (HB2.out.mono (by have := HB1.out.size; omega)))
    have hlt1 : w.heap.size < w1.heap.size := World.block_lt_of_cell? w1 _ HC1.out
    have kc2 : w2.cell? ⟨w.heap.size, 2, none⟩ = some (.string a2) := (HB2.out.cell (by show w.heap.size < gb; omega)).trans (((Below.refl w1.heap.size w1).alloc (Nat.le_refl _) _).cell hlt1 |>.trans HC1.out)
    clear HB1a
    have HS2 := Aside0.mk hS2
    have HS2B := Aside0.mk hS2b
    clear hS2 hS2b HBD hgb HC1
    have HBa := Aside0.mk (Bd.below HS2.out (HBW.out w2))
    have HSa := Aside0.mk (show ¬ S2 w2.heap.size ∧ ∀ k, S2 k → gb ≤ k from ⟨fun h => by have := (HS2B.out _ h).2; omega, fun k hk => (HS2B.out k hk).1⟩)
    have HCa := Aside0.mk (HBC.out w2)
    have HWa := Aside0.mk ((HBW.out w2).mono (B := w2.heap.size) (B' := gb) (by have := HS2B.out gb (by obtain ⟨_, _, h, _⟩ := HS2.out; exact h); omega))
    have hlen : a2.data.toList.length = b.length := by rw [HBY.out, bytesOf_length]; rfl
    have HLE := Aside0.mk hlen
    clear hlen HS2B HS2
    go_wp2
    go_loopw [5, 24] (fun _ v24 wl => ∃ (j : Nat) (S : Nat → Prop), j ≤ b.length ∧ v24 = .int .i64 j ∧ Aside0 (Bd wl S gb (nat8 (120 :: 39 :: hexU (a2.data.toList.take j)))) ∧ Aside0 (¬ S w2.heap.size ∧ ∀ k, S k → gb ≤ k) ∧ Aside0 ((Kd.int .u8).C wl (some ⟨w2.heap.size, 0, none⟩) b.length b) ∧ Aside0 (Below gb w2 wl)) (fun _ v _ => b.length - (intOf v).toNat)
    case atStart => exact ⟨0, S2, Nat.zero_le _, rfl, HBa, HSa, HCa, HWa⟩
    case round =>
      clear HBa HSa HCa HWa kc2
      obtain ⟨j, S, hj, rfl, HBr, HSr, HCr, HWr⟩ := hrel
      by_cases hlt : j < b.length
      · obtain ⟨ad, e, hc⟩ := at_intN HCr.out j hlt
        cases e
        obtain ⟨u, hu⟩ : ∃ u, a2.data.toList[j]? = some u := ⟨_, List.getElem?_eq_getElem (by rw [HLE.out]; exact hlt)⟩
        have hbj : b[j] = (u.toNat : Int) := by
          have h1 : b[j]? = some (u.toNat : Int) := by rw [HBY.out]; unfold bytesOf; rw [List.getElem?_map, hu]; rfl
          rw [List.getElem?_eq_getElem hlt] at h1
          exact Option.some.inj h1
        rw [hbj, Addr.add_lit, Nat.zero_add] at hc
        have hu8 := u.toNat_lt
        obtain ⟨x, hx⟩ : ∃ x, u.toNat = x := ⟨_, rfl⟩
        rw [hx] at hc hu8
        have hlti : (j : Int) < (b.length : Int) := by omega
        have hRlt := World.block_lt_of_cell? wr _ hc
        have HRLT := Aside0.mk (show w2.heap.size < wr.heap.size from hRlt)
        have HGLT := Aside0.mk (show gb < wr.heap.size by obtain ⟨_, h, _⟩ := HBr.out; exact h.lt)
        obtain ⟨L, hL⟩ : ∃ L, nat8 (120 :: 39 :: hexU (a2.data.toList.take j)) = L := ⟨_, rfl⟩
        rw [hL] at HBr
        have HLL := Aside0.mk (show L.length = 2 + 2 * j by rw [← hL]; simp only [nat8, List.length_map, List.length_cons, hexU_len, List.length_take, HLE.out]; omega)
        have HNX := Aside0.mk (show nat8 (120 :: 39 :: hexU (a2.data.toList.take (j + 1))) = L ++ [((hexC (x / 16)).toNat : Int)] ++ [((hexC (x % 16)).toNat : Int)] by
          rw [← hL, List.take_add_one, hu, ← hx]
          simp [hexU, nat8])
        clear hbj hRlt hL hu hx
        go_upto_region 13 with (first | (go_at_call 65; (with_reducible refine (strings_Builder_WriteByte.calls S gb L _ wr HBr.out (by have := HLL.out; have := HSZ.out; omega)).mono ?_); rintro e w4 ⟨rfl, hb4, hB4, hk4⟩; rw [hexAt (x / 16) (by omega)] at hb4; have HB4 := Aside0.mk hb4; have HD4 := Aside0.mk hB4; have HK4 := Aside0.mk hk4; clear hb4 hB4 hk4) | (go_at_call 65; (with_reducible refine (strings_Builder_WriteByte.calls (BdS S wr w4) gb _ _ w4 HB4.out (by have := HLL.out; have := HSZ.out; rw [List.length_append, List.length_singleton]; omega)).mono ?_); rintro e w5 ⟨rfl, hb5, hB5, hk5⟩; have HB5 := Aside0.mk hb5; have HD5 := Aside0.mk hB5; have HK5 := Aside0.mk hk5; clear hb5 hB5 hk5))
        have hb5 := HB5.out
        rw [hexAt (x % 16) (by omega), ← HNX.out] at hb5
        have HB6 := Aside0.mk hb5
        have HKa := HK4.out.1
        have HKb := HK5.out.1
        have HSn := Aside0.mk (show ¬ BdS (BdS S wr w4) w4 w5 w2.heap.size ∧ ∀ k, BdS (BdS S wr w4) w4 w5 k → gb ≤ k from ⟨fun h => by
          have h1 := HRLT.out
          rcases h with (h | h) | h
          · exact HSr.out.1 h
          · omega
          · omega, fun k h => by
          have h1 := HGLT.out
          rcases h with (h | h) | h
          · exact HSr.out.2 k h
          · omega
          · omega⟩)
        have HCn := Aside0.mk (show (Kd.int .u8).C w5 (some ⟨w2.heap.size, 0, none⟩) b.length b from bdC_blocks HCr.out (fun ad e => by
          cases e
          have h1 := HRLT.out
          show w5.heap[w2.heap.size]? = wr.heap[w2.heap.size]?
          rw [HK5.out.2 _ (by omega) (fun h => by
            rcases h with h | h
            · exact HSr.out.1 h
            · omega), HK4.out.2 _ h1 HSr.out.1]))
        have HWn := Aside0.mk (show Below gb w2 w5 from (HWr.out.trans (bdBelow HD4.out HK4.out (by have := HGLT.out; omega) HSr.out.2)).trans (bdBelow HD5.out HK5.out (by have := HGLT.out; omega) (fun k h => by
          have h1 := HGLT.out
          rcases h with h | h
          · exact HSr.out.2 k h
          · omega)))
        clear hb5 HB5 HD4 HD5 HK4 HK5 HNX HKa HKb HCr HBr HSr HWr hc
        go_wp2
        go_roundw
        case rel => exact ⟨j + 1, _, by omega, by go_num, HB6, HSn, HCn, HWn⟩
        case measure => simp [intOf]; omega
      · have hj' : j = b.length := by omega
        have hall : a2.data.toList.take j = a2.data.toList := List.take_of_length_le (by rw [HLE.out]; omega)
        rw [hall] at HBr
        obtain ⟨L, hL⟩ : ∃ L, nat8 (120 :: 39 :: hexU a2.data.toList) = L := ⟨_, rfl⟩
        rw [hL] at HBr
        have HLL := Aside0.mk (show L.length = 2 + 2 * b.length by rw [← hL]; simp only [nat8, List.length_map, List.length_cons, hexU_len, HLE.out]; omega)
        have HNX := Aside0.mk (show (L ++ [39]).map (Value.int .u8) = Lib.byteCells (textU a2) by
          rw [← hL]
          simp [textU, nat8, Lib.byteCells])
        have hlti : ¬ (j : Int) < (b.length : Int) := by omega
        have HGLT := Aside0.mk (show gb < wr.heap.size by obtain ⟨_, h, _⟩ := HBr.out; exact h.lt)
        clear hall hL hj'
        go_wp2_with (first | (go_at_call 65; (with_reducible refine (strings_Builder_WriteByte.calls S gb L 39 wr HBr.out (by have := HLL.out; have := HSZ.out; omega)).mono ?_); rintro e w4 ⟨rfl, hb4, hB4, hk4⟩; have hq4 := Bd.to (B := gb) hb4 (fun k h => by have h1 := HGLT.out; rcases h with h | h; exact HSr.out.2 k h; omega); rw [HNX.out] at hq4; have HB4 := Aside0.mk (show Lib.IsBuilder 98 5 gb gb (Lib.byteCells (textU a2)) w4 from .inr hq4); have HW4 := Aside0.mk (HWr.out.trans (bdBelow hB4 hk4 (by have := HGLT.out; omega) HSr.out.2)); have HZ4 := Aside0.mk (show gb ≤ w4.heap.size by have := hk4.1; have := HGLT.out; omega); clear hb4 hB4 hk4 hq4) | (go_at_call 66; (with_reducible refine (Tryz.Builder_String_any gb gb (textU a2) w4 HB4.out HZ4.out).mono ?_); rintro e w5 ⟨rfl, hB5⟩; have HB5 := Aside0.mk hB5; clear hB5))
        go_ret
        refine ⟨rfl, HB12.out.trans ((HW4.out.trans HB5.out).mono ?_)⟩
        have h1 := HB1.out.size
        have h2 := HG.out
        omega
  · rw [if_neg hsz] at h
    cases h


end Go.Proofs.YtblaibigjhlblaaGreatDoor.Q
end
