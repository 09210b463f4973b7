/- texts of one claim, merged: each in a section of its own -/
import Derived.Test.YtlmlkcobkmhmbaaMMessageRecords3
import Derived.Test.YtlmlkcobkmhmbaaMMessageRecords4
section
-- written by hprint.py (a program of these sessions) out of the translation; Lean checks it
namespace Go.Proofs.Ytlmlkcobkmhmbaa.Q
open Go.RowKit Go.Proofs.YtlmlkcobkmhmbaaW.Hb Go.Proofs.YtlmlkcobkmhmbaaW.PrintWords Go.Proofs.YtlmlkcobkmhmbaaW.PrintLast Go.Proofs.YtlmlkcobkmhmbaaW.PrintMore
attribute [local go_sem] max2_int min2_int max_two min_two max_three min_three max_four min_four   -- for this text's walks alone
set_option linter.unusedVariables false
set_option linter.unusedSimpArgs false

/-! ### weighhouseref17_PutRecord: function 18 -/
def weighhouseref17_PutRecord.f (k : Nat) (a0_0 : Int) (a0_1 : Int) (a0_2 : Int) (a0_3 : Int) (l0_4 : List (S113)) : Option (List Int × Int) := (weighhouseref17_RightRecord.f k a0_0 a0_1 a0_2 a0_3 l0_4).bind fun t287 => (if t287 = true then ((some (([(a0_0) % 256] : List Int) : List Int)).bind fun y288 => ((weighhouseref17_numbers.f k (([a0_1, a0_2, a0_3] : List Int))).bind fun t294 => (if y288.length + t294.length < 140737488355328 then ((some (y288 ++ t294 : List Int)).bind fun y297 => ((weighhouseref17_entries.f k l0_4).bind fun t300 => (if y297.length + t300.length < 140737488355328 then ((some (y297 ++ t300 : List Int)).bind fun y303 => (if (y303.length : Int) > 1048576 then (some (([] : List Int), 6)) else (some (y303, 0)))) else (none)))) else (none)))) else (some (([] : List Int), 1)))
theorem weighhouseref17_PutRecord.mono : ∀ a0 a1 a2 a3 a4 k, LeO (weighhouseref17_PutRecord.f k a0 a1 a2 a3 a4) (weighhouseref17_PutRecord.f (k + 1) a0 a1 a2 a3 a4) := by
  intro a0 a1 a2 a3 a4 k
  unfold weighhouseref17_PutRecord.f
  repeat' first
      | (with_reducible exact weighhouseref17_RightRecord.mono _ _ _ _ _ _)
      | (with_reducible exact weighhouseref17_entries.mono _ _)
      | (with_reducible exact weighhouseref17_numbers.mono _ _)
      | (with_reducible exact LeO.refl _)
      | (with_reducible exact LeO.none _)
      | (with_reducible refine LeO.ite ?_ ?_)
      | (with_reducible refine LeO.bind ?_ (fun _ => ?_))
      | exact weighhouseref17_RightRecord.mono _ _ _ _ _ _
      | exact weighhouseref17_entries.mono _ _
      | exact weighhouseref17_numbers.mono _ _
      | exact LeO.none _
      | refine LeO.ite ?_ ?_
      | refine LeO.bind ?_ (fun _ => ?_)
def weighhouseref17_PutRecord.T3 : Bool × List (List Nat × List Nat) := (true, [([], []), ([0], [0]), ([1], [1]), ([2], [2]), ([], []), ([4], [4]), ([], []), ([6], [6]), ([], []), ([8], [8]), ([5, 7, 9], [5, 7, 9]), ([10], [10]), ([3, 11, 11], [3, 11]), ([12, 12, 0, 1, 2, 3, 4, 5, 6, 7, 8, 9, 10, 11, 12], [12])])
def weighhouseref17_PutRecord.B3 : List Nat := [0, 1, 3, 7, 0, 16, 0, 64, 0, 256, 1008, 2032, 4095, 8191]
theorem weighhouseref17_PutRecord.tab3 : rtab .any (opsOf Try.f18 3) = weighhouseref17_PutRecord.T3 := by kernel_rfl
theorem weighhouseref17_PutRecord.bits3 : waitsOk weighhouseref17_PutRecord.T3.2 weighhouseref17_PutRecord.B3 = true := by kernel_rfl
set_option maxHeartbeats 8000000 in
set_option maxRecDepth 100000 in
theorem weighhouseref17_PutRecord.calls (k : Nat) (a0_0 : Int) (a0_1 : Int) (a0_2 : Int) (a0_3 : Int) (A0_4 : Option Addr) (c0_4 : Nat) (l0_4 : List (S113)) (r1 : List Int) (r2 : Int) (w : World) (hr0_4 : Kd.C k113 w A0_4 l0_4.length l0_4) (hc0_4 : l0_4.length ≤ c0_4) (h : weighhouseref17_PutRecord.f k a0_0 a0_1 a0_2 a0_3 l0_4 = some (r1, r2)) :
    Calls Try.prog 18 #[.agg #[.int .i64 a0_0, .int .i64 a0_1, .int .i64 a0_2, .int .i64 a0_3, .slice A0_4 l0_4.length c0_4]] w fun e w' => ∃ v0_ : Value, e = .returned (.tuple #[v0_, .int .i64 r2]) ∧ Kd.R (Kd.int .u8) 5 w' w.heap.size (fun _ => True) v0_ r1 ∧ Below w.heap.size w w' := by
  have hu46 := Try.underlying46
  have HR0_4 := Aside0.mk hr0_4
  have HC0_4 := Aside0.mk hc0_4
  clear hr0_4 hc0_4
  have HB := Aside0.mk (Below.refl w.heap.size w)
  have H : ((weighhouseref17_RightRecord.f k a0_0 a0_1 a0_2 a0_3 l0_4).bind fun t287 => (if t287 = true then ((some (([(a0_0) % 256] : List Int) : List Int)).bind fun y288 => ((weighhouseref17_numbers.f k (([a0_1, a0_2, a0_3] : List Int))).bind fun t294 => (if y288.length + t294.length < 140737488355328 then ((some (y288 ++ t294 : List Int)).bind fun y297 => ((weighhouseref17_entries.f k l0_4).bind fun t300 => (if y297.length + t300.length < 140737488355328 then ((some (y297 ++ t300 : List Int)).bind fun y303 => (if (y303.length : Int) > 1048576 then (some (([] : List Int), 6)) else (some (y303, 0)))) else (none)))) else (none)))) else (some (([] : List Int), 1)))) = some (r1, r2) := h
  clear h
  replace H := Option.bind_eq_some_iff.mp H
  obtain ⟨t287, A20, H⟩ := H
  replace H : (if t287 = true then ((some (([(a0_0) % 256] : List Int) : List Int)).bind fun y288 => ((weighhouseref17_numbers.f k (([a0_1, a0_2, a0_3] : List Int))).bind fun t294 => (if y288.length + t294.length < 140737488355328 then ((some (y288 ++ t294 : List Int)).bind fun y297 => ((weighhouseref17_entries.f k l0_4).bind fun t300 => (if y297.length + t300.length < 140737488355328 then ((some (y297 ++ t300 : List Int)).bind fun y303 => (if (y303.length : Int) > 1048576 then (some (([] : List Int), 6)) else (some (y303, 0)))) else (none)))) else (none)))) else (some (([] : List Int), 1))) = some (r1, r2) := H
  have A2 := Aside0.mk A20
  clear A20
  by_cases c3 : t287 = true
  · subst c3
    have H1 : ((some (([(a0_0) % 256] : List Int) : List Int)).bind fun y288 => ((weighhouseref17_numbers.f k (([a0_1, a0_2, a0_3] : List Int))).bind fun t294 => (if y288.length + t294.length < 140737488355328 then ((some (y288 ++ t294 : List Int)).bind fun y297 => ((weighhouseref17_entries.f k l0_4).bind fun t300 => (if y297.length + t300.length < 140737488355328 then ((some (y297 ++ t300 : List Int)).bind fun y303 => (if (y303.length : Int) > 1048576 then (some (([] : List Int), 6)) else (some (y303, 0)))) else (none)))) else (none)))) = some (r1, r2) := by rw [if_pos rfl] at H; exact H
    clear H
    have H := H1
    clear H1
    obtain ⟨y288, hy288⟩ : ∃ y_ : List Int, y_ = (([(a0_0) % 256] : List Int)) := ⟨_, rfl⟩
    replace H : ((weighhouseref17_numbers.f k (([a0_1, a0_2, a0_3] : List Int))).bind fun t294 => (if y288.length + t294.length < 140737488355328 then ((some (y288 ++ t294 : List Int)).bind fun y297 => ((weighhouseref17_entries.f k l0_4).bind fun t300 => (if y297.length + t300.length < 140737488355328 then ((some (y297 ++ t300 : List Int)).bind fun y303 => (if (y303.length : Int) > 1048576 then (some (([] : List Int), 6)) else (some (y303, 0)))) else (none)))) else (none))) = some (r1, r2) := by first | (rw [hy288]; with_reducible exact H) | (have H2_ := (Option.bind_some _ _).symm.trans H; rw [hy288]; with_reducible exact H2_) | (have H2_ := (Option.bind_some _ _).symm.trans H; with_reducible exact H2_) | with_reducible exact H | (rw [hy288]; exact H) | exact H
    have Ny288 := Aside0.mk hy288
    clear hy288
    obtain ⟨y291, hy291⟩ : ∃ y_ : List Int, y_ = (([a0_1, a0_2, a0_3] : List Int)) := ⟨_, rfl⟩
    replace H : ((weighhouseref17_numbers.f k y291).bind fun t294 => (if y288.length + t294.length < 140737488355328 then ((some (y288 ++ t294 : List Int)).bind fun y297 => ((weighhouseref17_entries.f k l0_4).bind fun t300 => (if y297.length + t300.length < 140737488355328 then ((some (y297 ++ t300 : List Int)).bind fun y303 => (if (y303.length : Int) > 1048576 then (some (([] : List Int), 6)) else (some (y303, 0)))) else (none)))) else (none))) = some (r1, r2) := by first | (rw [hy291]; with_reducible exact H) | (have H2_ := (Option.bind_some _ _).symm.trans H; rw [hy291]; with_reducible exact H2_) | (have H2_ := (Option.bind_some _ _).symm.trans H; with_reducible exact H2_) | with_reducible exact H | (rw [hy291]; exact H) | exact H
    have Ny291 := Aside0.mk hy291
    clear hy291
    replace H := Option.bind_eq_some_iff.mp H
    obtain ⟨t294, A40, H⟩ := H
    replace H : (if y288.length + t294.length < 140737488355328 then ((some (y288 ++ t294 : List Int)).bind fun y297 => ((weighhouseref17_entries.f k l0_4).bind fun t300 => (if y297.length + t300.length < 140737488355328 then ((some (y297 ++ t300 : List Int)).bind fun y303 => (if (y303.length : Int) > 1048576 then (some (([] : List Int), 6)) else (some (y303, 0)))) else (none)))) else (none)) = some (r1, r2) := H
    have A4 := Aside0.mk A40
    clear A40
    by_cases c5 : y288.length + t294.length < 140737488355328
    · rw [if_pos c5] at H
      have LMc5 := Aside0.mk c5
      clear c5
      obtain ⟨y297, hy297⟩ : ∃ y_ : List Int, y_ = (y288 ++ t294) := ⟨_, rfl⟩
      replace H : ((weighhouseref17_entries.f k l0_4).bind fun t300 => (if y297.length + t300.length < 140737488355328 then ((some (y297 ++ t300 : List Int)).bind fun y303 => (if (y303.length : Int) > 1048576 then (some (([] : List Int), 6)) else (some (y303, 0)))) else (none))) = some (r1, r2) := by first | (rw [hy297]; with_reducible exact H) | (have H2_ := (Option.bind_some _ _).symm.trans H; rw [hy297]; with_reducible exact H2_) | (have H2_ := (Option.bind_some _ _).symm.trans H; with_reducible exact H2_) | with_reducible exact H | (rw [hy297]; exact H) | exact H
      have Ny297 := Aside0.mk hy297
      clear hy297
      replace H := Option.bind_eq_some_iff.mp H
      obtain ⟨t300, A60, H⟩ := H
      replace H : (if y297.length + t300.length < 140737488355328 then ((some (y297 ++ t300 : List Int)).bind fun y303 => (if (y303.length : Int) > 1048576 then (some (([] : List Int), 6)) else (some (y303, 0)))) else (none)) = some (r1, r2) := H
      have A6 := Aside0.mk A60
      clear A60
      by_cases c7 : y297.length + t300.length < 140737488355328
      · rw [if_pos c7] at H
        have LMc7 := Aside0.mk c7
        clear c7
        obtain ⟨y303, hy303⟩ : ∃ y_ : List Int, y_ = (y297 ++ t300) := ⟨_, rfl⟩
        replace H : (if (y303.length : Int) > 1048576 then (some (([] : List Int), 6)) else (some (y303, 0))) = some (r1, r2) := by first | (rw [hy303]; with_reducible exact H) | (have H2_ := (Option.bind_some _ _).symm.trans H; rw [hy303]; with_reducible exact H2_) | (have H2_ := (Option.bind_some _ _).symm.trans H; with_reducible exact H2_) | with_reducible exact H | (rw [hy303]; exact H) | exact H
        have Ny303 := Aside0.mk hy303
        clear hy303
        by_cases c8 : (y303.length : Int) > 1048576
        · rw [if_pos c8] at H
          have c8b0 : decide (1048576 < (y303.length : Int)) = true := decide_eq_true c8
          have c8b1 : decide (1048576 < y303.length) = true := decide_eq_true (by omega)
          clear c8
          simp only [Option.some.injEq, Prod.mk.injEq] at H
          obtain ⟨rfl, rfl⟩ := H
          go_enter Try.func18, Try.ntmps18
          try go_wp2_with (first | ((with_reducible refine gate_dst (N := 1) rfl ?_); refine box_event ?hg (N := 1) ?hd (cs := #[.int .i64 a0_0, .int .i64 a0_1, .int .i64 a0_2, .int .i64 a0_3, .slice A0_4 l0_4.length c0_4]) (t := 46) ?hr ?_; (case hd => rfl); (case hg => rfl); (case hr => first | (go_simp; done) | (go_simp; rfl)); intro gb286 hg w9 hbox hb; have n0_ := Aside0.mk (below_step (by repeat (first | (with_reducible first | exact HB.out | apply below_alloc | apply pw_below_drewN | apply below_drew1) | exact HB.out)) hb); have n1_ := Aside0.mk (hbox); have n2_ := Aside0.mk ((by rw [hg]; exact (below_size (by repeat (first | (with_reducible first | exact HB.out | apply below_alloc | apply pw_below_drewN | apply below_drew1) | exact HB.out))) : w.heap.size ≤ gb286)); have n3_ := Aside0.mk ((by rw [hg]; exact (below_size (by repeat (first | (with_reducible first | exact HB.out | apply below_alloc | apply pw_below_drewN | apply below_drew1) | exact HB.out))) : w.heap.size ≤ gb286)); clear HB; have HB := n0_; have BK286 := n1_; have GW286 := n2_; have GE286 := n3_; clear n0_ n1_ n2_ n3_; clear hb hbox hg; have hcz10_0 : w9.cell? ⟨gb286, 0, none⟩ = some (.int .i64 a0_0) := (blk_cell BK286.out 0).trans rfl; have hcz10_1 : w9.cell? ⟨gb286, 1, none⟩ = some (.int .i64 a0_1) := (blk_cell BK286.out 1).trans rfl; have hcz10_2 : w9.cell? ⟨gb286, 2, none⟩ = some (.int .i64 a0_2) := (blk_cell BK286.out 2).trans rfl; have hcz10_3 : w9.cell? ⟨gb286, 3, none⟩ = some (.int .i64 a0_3) := (blk_cell BK286.out 3).trans rfl; have hcz10_4 : w9.cell? ⟨gb286, 4, none⟩ = some (.slice A0_4 l0_4.length c0_4) := (blk_cell BK286.out 4).trans rfl; have hfz10_0 := blk_frozen BK286.out 0; have hfz10_1 := blk_frozen BK286.out 1; have hfz10_2 := blk_frozen BK286.out 2; have hfz10_3 := blk_frozen BK286.out 3; have hfz10_4 := blk_frozen BK286.out 4) | ((with_reducible refine gate_callee (f := 22) rfl ?_); refine goesL_ (some 6) rfl rfl Try.func22 (by kernel_rfl) rfl #[.agg #[.int .i64 a0_0, .int .i64 a0_1, .int .i64 a0_2, .int .i64 a0_3, .slice A0_4 l0_4.length c0_4]] rfl (by (try simp only [List.map_toArray, List.map_cons, List.map_nil]); first | done | rfl | (simp only [List.length_drop, List.length_take]; rfl)) ?_; (with_reducible refine (weighhouseref17_RightRecord.calls k a0_0 a0_1 a0_2 a0_3 _ _ l0_4 true _ ?side1 ?side2 A2.out).mono ?_); (case side1 => repeat (first | exact (Kd.C_below HR0_4.out HB.out) | (with_reducible refine Kd.C_alloc ?_ _) | (with_reducible refine Kd.C_drewN ?_ _) | (with_reducible refine Kd.C_drew ?_))); (case side2 => exact HC0_4.out); rintro e w11 ⟨rfl, hb⟩; refine ⟨_, rfl, ?_⟩; have n0_ := Aside0.mk (blk_below (g := gb286) (o := .cells #[.int .i64 a0_0, .int .i64 a0_1, .int .i64 a0_2, .int .i64 a0_3, .slice A0_4 l0_4.length c0_4] 46 (0, 0)) (by (with_reducible repeat (first | refine blk_drewN ?_ _ | refine blk_drew ?_ | refine blk_alloc ?_ _)); exact BK286.out) hb); have n1_ := Aside0.mk (below_step (by repeat (first | (with_reducible first | exact HB.out | apply below_alloc | apply pw_below_drewN | apply below_drew1 | refine below_set ?_ GE286.out) | exact HB.out)) hb); clear BK286; clear HB; have BK286 := n0_; have HB := n1_; clear n0_ n1_; (try clear hb); (try clear hb2); (try clear hk); (try clear hi)))
          have n0_ := Aside0.mk (blk_drew BK286.out)
          have n1_ := Aside0.mk (below_drew1 HB.out)
          clear BK286
          clear HB
          have BK286 := n0_
          have HB := n1_
          clear n0_ n1_
          refine start_ (n := 14) (S := fun w' => w'.cell? ⟨gb286, 0, none⟩ = some (.int .i64 a0_0) ∧ w'.cell? ⟨gb286, 1, none⟩ = some (.int .i64 a0_1) ∧ w'.cell? ⟨gb286, 2, none⟩ = some (.int .i64 a0_2) ∧ w'.cell? ⟨gb286, 3, none⟩ = some (.int .i64 a0_3) ∧ w'.cell? ⟨gb286, 4, none⟩ = some (.slice A0_4 l0_4.length c0_4)) (ds := []) #[false, false, false, false, false, false, false, false, false, false, false, false, false, false] (by kernel_rfl) rfl rfl ⟨(blk_cell BK286.out 0).trans rfl, (blk_cell BK286.out 1).trans rfl, (blk_cell BK286.out 2).trans rfl, (blk_cell BK286.out 3).trans rfl, (blk_cell BK286.out 4).trans rfl⟩ (fun hHeld => ?_); refine with_tabW weighhouseref17_PutRecord.tab3 weighhouseref17_PutRecord.bits3 (fun HT_ HW_ => ?_)
          generalize w11.drew = w12 at BK286 HB hHeld ⊢
          refine pure_ (i := 0) (N := some 8) (v := ?_) (a' := ?_) #[true, false, false, false, false, false, false, false, false, false, false, false, false, false] rfl rfl (any_of HT_.out (by kernel_rfl)) (fun _ _ _ h => h) (Or.inl ⟨by rfl, ?_⟩) ?_ ?_
          rotate_left
          · intro w'
            go_simp
            with_reducible rfl
          rotate_left
          · simp only [Act.put, List.setIfInBounds_toArray, List.set_cons_zero, List.set_cons_succ, i64_w, i32_w]
            rfl
          refine pure_ (i := 4) (N := some 12) (v := ?_) (a' := ?_) #[true, false, false, false, true, false, false, false, false, false, false, false, false, false] rfl rfl (any_of HT_.out (by kernel_rfl)) (fun _ _ _ h => h) (Or.inl ⟨by rfl, ?_⟩) ?_ ?_
          rotate_left
          · intro w'
            go_simp
            with_reducible rfl
          rotate_left
          · simp only [Act.put, List.setIfInBounds_toArray, List.set_cons_zero, List.set_cons_succ, i64_w, i32_w]
            rfl
          refine pure_ (i := 6) (N := some 14) (v := ?_) (a' := ?_) #[true, false, false, false, true, false, true, false, false, false, false, false, false, false] rfl rfl (any_of HT_.out (by kernel_rfl)) (fun _ _ _ h => h) (Or.inl ⟨by rfl, ?_⟩) ?_ ?_
          rotate_left
          · intro w'
            go_simp
            with_reducible rfl
          rotate_left
          · simp only [Act.put, List.setIfInBounds_toArray, List.set_cons_zero, List.set_cons_succ, i64_w, i32_w]
            rfl
          refine pure_ (i := 8) (N := some 16) (v := ?_) (a' := ?_) #[true, false, false, false, true, false, true, false, true, false, false, false, false, false] rfl rfl (any_of HT_.out (by kernel_rfl)) (fun _ _ _ h => h) (Or.inl ⟨by rfl, ?_⟩) ?_ ?_
          rotate_left
          · intro w'
            go_simp
            with_reducible rfl
          rotate_left
          · simp only [Act.put, List.setIfInBounds_toArray, List.set_cons_zero, List.set_cons_succ, i64_w, i32_w]
            rfl
          refine take_ (i := 1) (N := some 9) (v := ?_) (a' := ?_) #[true, true, false, false, true, false, true, false, true, false, false, false, false, false] rfl rfl (take_ofW HT_.out HW_.out (by kernel_rfl)) (fun _ _ _ h => h) (Or.inl ⟨by rfl, ?_⟩) hHeld ?_ ?_
          rotate_left
          · rintro w' ⟨s0, s1, s2, s3, s4⟩
            go_simp
            with_reducible rfl
          rotate_left
          · simp only [Act.put, List.setIfInBounds_toArray, List.set_cons_zero, List.set_cons_succ, i64_w, i32_w]
            rfl
          refine pure_ (i := 2) (N := some 10) (v := ?_) (a' := ?_) #[true, true, true, false, true, false, true, false, true, false, false, false, false, false] rfl rfl (any_of HT_.out (by kernel_rfl)) (fun _ _ _ h => h) (Or.inl ⟨by rfl, ?_⟩) ?_ ?_
          rotate_left
          · intro w'
            go_simp
            with_reducible rfl
          rotate_left
          · simp only [Act.put, List.setIfInBounds_toArray, List.set_cons_zero, List.set_cons_succ, i64_w, i32_w]
            rfl
          refine take_ (i := 5) (N := some 13) (v := ?_) (a' := ?_) #[true, true, true, false, true, true, true, false, true, false, false, false, false, false] rfl rfl (take_ofW HT_.out HW_.out (by kernel_rfl)) (fun _ _ _ h => h) (Or.inl ⟨by rfl, ?_⟩) hHeld ?_ ?_
          rotate_left
          · rintro w' ⟨s0, s1, s2, s3, s4⟩
            go_simp
            with_reducible rfl
          rotate_left
          · simp only [Act.put, List.setIfInBounds_toArray, List.set_cons_zero, List.set_cons_succ, i64_w, i32_w]
            rfl
          refine take_ (i := 7) (N := some 15) (v := ?_) (a' := ?_) #[true, true, true, false, true, true, true, true, true, false, false, false, false, false] rfl rfl (take_ofW HT_.out HW_.out (by kernel_rfl)) (fun _ _ _ h => h) (Or.inl ⟨by rfl, ?_⟩) hHeld ?_ ?_
          rotate_left
          · rintro w' ⟨s0, s1, s2, s3, s4⟩
            go_simp
            with_reducible rfl
          rotate_left
          · simp only [Act.put, List.setIfInBounds_toArray, List.set_cons_zero, List.set_cons_succ, i64_w, i32_w]
            rfl
          refine take_ (i := 9) (N := some 17) (v := ?_) (a' := ?_) #[true, true, true, false, true, true, true, true, true, true, false, false, false, false] rfl rfl (take_ofW HT_.out HW_.out (by kernel_rfl)) (fun _ _ _ h => h) (Or.inl ⟨by rfl, ?_⟩) hHeld ?_ ?_
          rotate_left
          · rintro w' ⟨s0, s1, s2, s3, s4⟩
            go_simp
            with_reducible rfl
          rotate_left
          · simp only [Act.put, List.setIfInBounds_toArray, List.set_cons_zero, List.set_cons_succ, i64_w, i32_w]
            rfl
          refine join_ (σ := Value × Value × Value) 2 #[true, true, true, true, true, true, true, true, true, true, true, true, false, false] (fun s_ => [(11, s_.1), (18, s_.2.1), (19, s_.2.2)]) (fun s_ w' => (w'.cell? ⟨gb286, 0, none⟩ = some (.int .i64 a0_0) ∧ w'.cell? ⟨gb286, 1, none⟩ = some (.int .i64 a0_1) ∧ w'.cell? ⟨gb286, 2, none⟩ = some (.int .i64 a0_2) ∧ w'.cell? ⟨gb286, 3, none⟩ = some (.int .i64 a0_3) ∧ w'.cell? ⟨gb286, 4, none⟩ = some (.slice A0_4 l0_4.length c0_4)) ∧ (Kd.R (Kd.int .u8) 5 w' w.heap.size (fun k_ => some k_ ≠ (s_.2.2 : Value).ownBlock) s_.1 y288) ∧ (Kd.R (Kd.int .i64) 3 w' w.heap.size (fun _ => True) s_.2.1 y291) ∧ (Kd.R (Kd.int .u8) 5 w' w.heap.size (fun k_ => some k_ ≠ (s_.1 : Value).ownBlock) s_.2.2 t294) ∧ (w'.heap[gb286]? = some (.cells #[.int .i64 a0_0, .int .i64 a0_1, .int .i64 a0_2, .int .i64 a0_3, .slice A0_4 l0_4.length c0_4] 46 (0, 0))) ∧ (Below w.heap.size w w')) ?_ ?_
          rotate_left
          · intro hCont
            refine two_ (i := 3) (j := 10) (Ni := some 11) (Nj := some 18) #[true, true, true, true, true, true, true, true, true, true, false, false, false, false] #[true, true, true, false, true, true, true, true, true, true, true, false, false, false] rfl rfl rfl rfl (two_of HT_.out (by kernel_rfl)) (by decide) (by decide) (fun K hK => ?_) (fun K hK => ?_)
            · skip
              refine Kd.R_lit_step (Kd.int .u8) _ 5 ?hg (N := 11) ?hd (xs := ([(a0_0) % 256] : List Int)) (inner := [.int .u8 ((a0_0) % 256)]) (ok := fun _ => True) (okp := fun _ => True) ?hr ?hp (fun _ hk => hk) trivial (Below.refl _ _) (Nat.le_refl _) (by simp) ?_; (case hd => rfl); (case hg => rfl); (case hr => first | (go_simp; done) | (go_simp; rfl)); (case hp => exact (Reps.one (show Kd.M (Kd.int .u8) _ _ _ ((a0_0) % 256) [.int .u8 ((a0_0) % 256)] from rfl) (Reps.none _ _)))
              intro v289 w13 ho14 hb hg_ hnew_
              clear hg_ hnew_
              (first | rw [← Ny288.out] at ho14 | (simp only [Int.reduceToNat] at ho14; rw [← Ny288.out] at ho14))
              have n0_ := Aside0.mk (Kd.R_lower ho14 (below_size (by repeat (first | (with_reducible first | exact HB.out | apply below_alloc | apply pw_below_drewN | apply below_drew1 | refine below_set ?_ GE286.out) | exact HB.out))))
              have n1_ := Aside0.mk (blk_below (g := gb286) (o := .cells #[.int .i64 a0_0, .int .i64 a0_1, .int .i64 a0_2, .int .i64 a0_3, .slice A0_4 l0_4.length c0_4] 46 (0, 0)) (by (with_reducible repeat (first | refine blk_drewN ?_ _ | refine blk_drew ?_ | refine blk_alloc ?_ _)); exact BK286.out) hb)
              have n2_ := Aside0.mk (below_step (by repeat (first | (with_reducible first | exact HB.out | apply below_alloc | apply pw_below_drewN | apply below_drew1 | refine below_set ?_ GE286.out) | exact HB.out)) hb)
              clear BK286
              clear HB
              have HO290 := n0_
              have BK286 := n1_
              have HB := n2_
              clear n0_ n1_ n2_
              clear hb ho14
              refine hK.out _ _ ⟨(blk_cell BK286.out 0).trans rfl, (blk_cell BK286.out 1).trans rfl, (blk_cell BK286.out 2).trans rfl, (blk_cell BK286.out 3).trans rfl, (blk_cell BK286.out 4).trans rfl⟩ (fun hHeld => ?_)
              clear hK K
              refine norm_ (a' := ?_) ?_ ?_
              rotate_left
              · show Act.put _ (some 11) _ = _
                simp only [Act.put, List.setIfInBounds_toArray, List.set_cons_zero, List.set_cons_succ, i64_w, i32_w]
                rfl
              refine one_ (i := 10) (N := some 18) #[true, true, true, true, true, true, true, true, true, true, true, false, false, false] rfl rfl (one_of HT_.out (by kernel_rfl)) (by decide) (fun K hK => ?_)
              refine Kd.R_lit_step (Kd.int .i64) _ 3 ?hg (N := 18) ?hd (xs := ([a0_1, a0_2, a0_3] : List Int)) (inner := [.int .i64 a0_1, .int .i64 a0_2, .int .i64 a0_3]) (ok := fun _ => True) (okp := fun _ => True) ?hr ?hp (fun _ hk => hk) trivial (Below.refl _ _) (Nat.le_refl _) (by simp) ?_; (case hd => rfl); (case hg => rfl); (case hr => first | (go_simp; done) | (go_simp; rfl)); (case hp => exact (Reps.one (show Kd.M (Kd.int .i64) _ _ _ a0_1 [.int .i64 a0_1] from rfl) (Reps.one (show Kd.M (Kd.int .i64) _ _ _ a0_2 [.int .i64 a0_2] from rfl) (Reps.one (show Kd.M (Kd.int .i64) _ _ _ a0_3 [.int .i64 a0_3] from rfl) (Reps.none _ _)))))
              intro v292 w15 ho16 hb hg_ hnew_
              clear hg_ hnew_
              (first | rw [← Ny291.out] at ho16 | (simp only [Int.reduceToNat] at ho16; rw [← Ny291.out] at ho16))
              have n0_ := Aside0.mk (Kd.R_below (by (with_reducible repeat (first | apply Kd.R_alloc | apply Kd.R_drewN | apply Kd.R_drew)); exact HO290.out) hb)
              have n1_ := Aside0.mk (Kd.R_lower ho16 (below_size (by repeat (first | (with_reducible first | exact HB.out | apply below_alloc | apply pw_below_drewN | apply below_drew1 | refine below_set ?_ GE286.out) | exact HB.out))))
              have n2_ := Aside0.mk (blk_below (g := gb286) (o := .cells #[.int .i64 a0_0, .int .i64 a0_1, .int .i64 a0_2, .int .i64 a0_3, .slice A0_4 l0_4.length c0_4] 46 (0, 0)) (by (with_reducible repeat (first | refine blk_drewN ?_ _ | refine blk_drew ?_ | refine blk_alloc ?_ _)); exact BK286.out) hb)
              have n3_ := Aside0.mk (below_step (by repeat (first | (with_reducible first | exact HB.out | apply below_alloc | apply pw_below_drewN | apply below_drew1 | refine below_set ?_ GE286.out) | exact HB.out)) hb)
              clear HO290
              clear BK286
              clear HB
              have HO290 := n0_
              have HO293 := n1_
              have BK286 := n2_
              have HB := n3_
              clear n0_ n1_ n2_ n3_
              clear hb ho16
              obtain ⟨Ao17, co17, eo17⟩ := Kd.R_slice HO293.out
              (first | subst eo17 | (injection eo17 with f1_ f2_ f3_; have f4_ := f1_.symm; have f5_ := f3_.symm; clear f1_ f2_ f3_; subst f4_; subst f5_))
              refine hK.out _ _ ⟨(blk_cell BK286.out 0).trans rfl, (blk_cell BK286.out 1).trans rfl, (blk_cell BK286.out 2).trans rfl, (blk_cell BK286.out 3).trans rfl, (blk_cell BK286.out 4).trans rfl⟩ (fun hHeld => ?_)
              clear hK K
              refine norm_ (a' := ?_) ?_ ?_
              rotate_left
              · show Act.put _ (some 18) _ = _
                simp only [Act.put, List.setIfInBounds_toArray, List.set_cons_zero, List.set_cons_succ, i64_w, i32_w]
                rfl
              refine one_ (i := 11) (N := some 19) #[true, true, true, true, true, true, true, true, true, true, true, true, false, false] rfl rfl (one_of HT_.out (by kernel_rfl)) (by decide) (fun K hK => ?_)
              refine goes_ Try.func39 (by kernel_rfl) rfl #[.slice Ao17 y291.length co17] (by rfl) rfl rfl (by (try simp only [List.map_toArray, List.map_cons, List.map_nil]); first | done | rfl | (simp only [List.length_drop, List.length_take]; rfl)) ?_
              with_reducible refine (weighhouseref17_numbers.calls k _ _ y291 t294 _ ?side1 ?side2 A4.out).mono ?_
              (case side1 => repeat (first | exact (Kd.R_reads' HO293.out).2.2 | (with_reducible refine Kd.C_alloc ?_ _) | (with_reducible refine Kd.C_drewN ?_ _) | (with_reducible refine Kd.C_drew ?_)))
              (case side2 => exact (Kd.R_reads' HO293.out).2.1)
              rintro e w18 ⟨v295, rfl, ho0, hb⟩
              refine ⟨_, rfl, ?_⟩
              have n0_ := Aside0.mk (Kd.R_elder' (by (with_reducible repeat (first | apply Kd.R_alloc | apply Kd.R_drewN | apply Kd.R_drew)); exact HO290.out) (Kd.R_base ho0) hb)
              have n1_ := Aside0.mk (Kd.R_below (by (with_reducible repeat (first | apply Kd.R_alloc | apply Kd.R_drewN | apply Kd.R_drew)); exact HO293.out) hb)
              have n2_ := Aside0.mk (Kd.R_lower (Kd.R_new' ho0 (Kd.R_lt (by (with_reducible repeat (first | apply Kd.R_alloc | apply Kd.R_drewN | apply Kd.R_drew)); exact HO290.out))) (below_size (by repeat (first | (with_reducible first | exact HB.out | apply below_alloc | apply pw_below_drewN | apply below_drew1 | refine below_set ?_ GE286.out) | exact HB.out))))
              have n3_ := Aside0.mk (blk_below (g := gb286) (o := .cells #[.int .i64 a0_0, .int .i64 a0_1, .int .i64 a0_2, .int .i64 a0_3, .slice A0_4 l0_4.length c0_4] 46 (0, 0)) (by (with_reducible repeat (first | refine blk_drewN ?_ _ | refine blk_drew ?_ | refine blk_alloc ?_ _)); exact BK286.out) hb)
              have n4_ := Aside0.mk (below_step (by repeat (first | (with_reducible first | exact HB.out | apply below_alloc | apply pw_below_drewN | apply below_drew1 | refine below_set ?_ GE286.out) | exact HB.out)) hb)
              clear HO290
              clear HO293
              clear BK286
              clear HB
              have HO290 := n0_
              have HO293 := n1_
              have HO296 := n2_
              have BK286 := n3_
              have HB := n4_
              clear n0_ n1_ n2_ n3_ n4_
              (try clear hb)
              (try clear hb2)
              (try clear hk)
              (try clear hi)
              (try clear ho0)
              refine hK.out _ _ ⟨(blk_cell BK286.out 0).trans rfl, (blk_cell BK286.out 1).trans rfl, (blk_cell BK286.out 2).trans rfl, (blk_cell BK286.out 3).trans rfl, (blk_cell BK286.out 4).trans rfl⟩ (fun hHeld => ?_)
              clear hK K
              refine norm_ (a' := ?_) ?_ ?_
              rotate_left
              · show Act.put _ (some 19) _ = _
                simp only [Act.put, List.setIfInBounds_toArray, List.set_cons_zero, List.set_cons_succ, i64_w, i32_w]
                rfl
              exact norm_ (by simp only [putAll, Act.put, List.setIfInBounds_toArray, List.set_cons_zero, List.set_cons_succ]) (hCont (v289, .slice Ao17 y291.length co17, v295) _ ⟨hHeld, (by (with_reducible repeat (first | apply Kd.R_alloc | apply Kd.R_drewN | apply Kd.R_drew)); exact Kd.R_mono HO290.out (fun _ hk => hk.2)), (by (with_reducible repeat (first | apply Kd.R_alloc | apply Kd.R_drewN | apply Kd.R_drew)); exact HO293.out), (by (with_reducible repeat (first | apply Kd.R_alloc | apply Kd.R_drewN | apply Kd.R_drew)); exact Kd.R_mono HO296.out (fun _ hk => hk.2)), (by (with_reducible repeat (first | refine blk_drewN ?_ _ | refine blk_drew ?_ | refine blk_alloc ?_ _)); exact BK286.out), (by repeat (first | (with_reducible first | exact HB.out | apply below_alloc | apply pw_below_drewN | apply below_drew1 | refine below_set ?_ GE286.out) | exact HB.out))⟩)
            · skip
              refine Kd.R_lit_step (Kd.int .i64) _ 3 ?hg (N := 18) ?hd (xs := ([a0_1, a0_2, a0_3] : List Int)) (inner := [.int .i64 a0_1, .int .i64 a0_2, .int .i64 a0_3]) (ok := fun _ => True) (okp := fun _ => True) ?hr ?hp (fun _ hk => hk) trivial (Below.refl _ _) (Nat.le_refl _) (by simp) ?_; (case hd => rfl); (case hg => rfl); (case hr => first | (go_simp; done) | (go_simp; rfl)); (case hp => exact (Reps.one (show Kd.M (Kd.int .i64) _ _ _ a0_1 [.int .i64 a0_1] from rfl) (Reps.one (show Kd.M (Kd.int .i64) _ _ _ a0_2 [.int .i64 a0_2] from rfl) (Reps.one (show Kd.M (Kd.int .i64) _ _ _ a0_3 [.int .i64 a0_3] from rfl) (Reps.none _ _)))))
              intro v292 w13 ho14 hb hg_ hnew_
              clear hg_ hnew_
              (first | rw [← Ny291.out] at ho14 | (simp only [Int.reduceToNat] at ho14; rw [← Ny291.out] at ho14))
              have n0_ := Aside0.mk (Kd.R_lower ho14 (below_size (by repeat (first | (with_reducible first | exact HB.out | apply below_alloc | apply pw_below_drewN | apply below_drew1 | refine below_set ?_ GE286.out) | exact HB.out))))
              have n1_ := Aside0.mk (blk_below (g := gb286) (o := .cells #[.int .i64 a0_0, .int .i64 a0_1, .int .i64 a0_2, .int .i64 a0_3, .slice A0_4 l0_4.length c0_4] 46 (0, 0)) (by (with_reducible repeat (first | refine blk_drewN ?_ _ | refine blk_drew ?_ | refine blk_alloc ?_ _)); exact BK286.out) hb)
              have n2_ := Aside0.mk (below_step (by repeat (first | (with_reducible first | exact HB.out | apply below_alloc | apply pw_below_drewN | apply below_drew1 | refine below_set ?_ GE286.out) | exact HB.out)) hb)
              clear BK286
              clear HB
              have HO293 := n0_
              have BK286 := n1_
              have HB := n2_
              clear n0_ n1_ n2_
              clear hb ho14
              refine hK.out _ _ ⟨(blk_cell BK286.out 0).trans rfl, (blk_cell BK286.out 1).trans rfl, (blk_cell BK286.out 2).trans rfl, (blk_cell BK286.out 3).trans rfl, (blk_cell BK286.out 4).trans rfl⟩ (fun hHeld => ?_)
              clear hK K
              refine norm_ (a' := ?_) ?_ ?_
              rotate_left
              · show Act.put _ (some 18) _ = _
                simp only [Act.put, List.setIfInBounds_toArray, List.set_cons_zero, List.set_cons_succ, i64_w, i32_w]
                rfl
              refine two_ (i := 3) (j := 11) (Ni := some 11) (Nj := some 19) #[true, true, true, true, true, true, true, true, true, true, true, false, false, false] #[true, true, true, false, true, true, true, true, true, true, true, true, false, false] rfl rfl rfl rfl (two_of HT_.out (by kernel_rfl)) (by decide) (by decide) (fun K hK => ?_) (fun K hK => ?_)
              · skip
                refine Kd.R_lit_step (Kd.int .u8) _ 5 ?hg (N := 11) ?hd (xs := ([(a0_0) % 256] : List Int)) (inner := [.int .u8 ((a0_0) % 256)]) (ok := fun _ => True) (okp := fun _ => True) ?hr ?hp (fun _ hk => hk) trivial (Below.refl _ _) (Nat.le_refl _) (by simp) ?_; (case hd => rfl); (case hg => rfl); (case hr => first | (go_simp; done) | (go_simp; rfl)); (case hp => exact (Reps.one (show Kd.M (Kd.int .u8) _ _ _ ((a0_0) % 256) [.int .u8 ((a0_0) % 256)] from rfl) (Reps.none _ _)))
                intro v289 w15 ho16 hb hg_ hnew_
                clear hg_ hnew_
                (first | rw [← Ny288.out] at ho16 | (simp only [Int.reduceToNat] at ho16; rw [← Ny288.out] at ho16))
                have n0_ := Aside0.mk (Kd.R_below (by (with_reducible repeat (first | apply Kd.R_alloc | apply Kd.R_drewN | apply Kd.R_drew)); exact HO293.out) hb)
                have n1_ := Aside0.mk (Kd.R_lower ho16 (below_size (by repeat (first | (with_reducible first | exact HB.out | apply below_alloc | apply pw_below_drewN | apply below_drew1 | refine below_set ?_ GE286.out) | exact HB.out))))
                have n2_ := Aside0.mk (blk_below (g := gb286) (o := .cells #[.int .i64 a0_0, .int .i64 a0_1, .int .i64 a0_2, .int .i64 a0_3, .slice A0_4 l0_4.length c0_4] 46 (0, 0)) (by (with_reducible repeat (first | refine blk_drewN ?_ _ | refine blk_drew ?_ | refine blk_alloc ?_ _)); exact BK286.out) hb)
                have n3_ := Aside0.mk (below_step (by repeat (first | (with_reducible first | exact HB.out | apply below_alloc | apply pw_below_drewN | apply below_drew1 | refine below_set ?_ GE286.out) | exact HB.out)) hb)
                clear HO293
                clear BK286
                clear HB
                have HO293 := n0_
                have HO290 := n1_
                have BK286 := n2_
                have HB := n3_
                clear n0_ n1_ n2_ n3_
                clear hb ho16
                obtain ⟨Ao17, co17, eo17⟩ := Kd.R_slice HO293.out
                (first | subst eo17 | (injection eo17 with f1_ f2_ f3_; have f4_ := f1_.symm; have f5_ := f3_.symm; clear f1_ f2_ f3_; subst f4_; subst f5_))
                refine hK.out _ _ ⟨(blk_cell BK286.out 0).trans rfl, (blk_cell BK286.out 1).trans rfl, (blk_cell BK286.out 2).trans rfl, (blk_cell BK286.out 3).trans rfl, (blk_cell BK286.out 4).trans rfl⟩ (fun hHeld => ?_)
                clear hK K
                refine norm_ (a' := ?_) ?_ ?_
                rotate_left
                · show Act.put _ (some 11) _ = _
                  simp only [Act.put, List.setIfInBounds_toArray, List.set_cons_zero, List.set_cons_succ, i64_w, i32_w]
                  rfl
                refine one_ (i := 11) (N := some 19) #[true, true, true, true, true, true, true, true, true, true, true, true, false, false] rfl rfl (one_of HT_.out (by kernel_rfl)) (by decide) (fun K hK => ?_)
                refine goes_ Try.func39 (by kernel_rfl) rfl #[.slice Ao17 y291.length co17] (by rfl) rfl rfl (by (try simp only [List.map_toArray, List.map_cons, List.map_nil]); first | done | rfl | (simp only [List.length_drop, List.length_take]; rfl)) ?_
                with_reducible refine (weighhouseref17_numbers.calls k _ _ y291 t294 _ ?side1 ?side2 A4.out).mono ?_
                (case side1 => repeat (first | exact (Kd.R_reads' HO293.out).2.2 | (with_reducible refine Kd.C_alloc ?_ _) | (with_reducible refine Kd.C_drewN ?_ _) | (with_reducible refine Kd.C_drew ?_)))
                (case side2 => exact (Kd.R_reads' HO293.out).2.1)
                rintro e w18 ⟨v295, rfl, ho0, hb⟩
                refine ⟨_, rfl, ?_⟩
                have n0_ := Aside0.mk (Kd.R_below (by (with_reducible repeat (first | apply Kd.R_alloc | apply Kd.R_drewN | apply Kd.R_drew)); exact HO293.out) hb)
                have n1_ := Aside0.mk (Kd.R_elder' (by (with_reducible repeat (first | apply Kd.R_alloc | apply Kd.R_drewN | apply Kd.R_drew)); exact HO290.out) (Kd.R_base ho0) hb)
                have n2_ := Aside0.mk (Kd.R_lower (Kd.R_new' ho0 (Kd.R_lt (by (with_reducible repeat (first | apply Kd.R_alloc | apply Kd.R_drewN | apply Kd.R_drew)); exact HO290.out))) (below_size (by repeat (first | (with_reducible first | exact HB.out | apply below_alloc | apply pw_below_drewN | apply below_drew1 | refine below_set ?_ GE286.out) | exact HB.out))))
                have n3_ := Aside0.mk (blk_below (g := gb286) (o := .cells #[.int .i64 a0_0, .int .i64 a0_1, .int .i64 a0_2, .int .i64 a0_3, .slice A0_4 l0_4.length c0_4] 46 (0, 0)) (by (with_reducible repeat (first | refine blk_drewN ?_ _ | refine blk_drew ?_ | refine blk_alloc ?_ _)); exact BK286.out) hb)
                have n4_ := Aside0.mk (below_step (by repeat (first | (with_reducible first | exact HB.out | apply below_alloc | apply pw_below_drewN | apply below_drew1 | refine below_set ?_ GE286.out) | exact HB.out)) hb)
                clear HO293
                clear HO290
                clear BK286
                clear HB
                have HO293 := n0_
                have HO290 := n1_
                have HO296 := n2_
                have BK286 := n3_
                have HB := n4_
                clear n0_ n1_ n2_ n3_ n4_
                (try clear hb)
                (try clear hb2)
                (try clear hk)
                (try clear hi)
                (try clear ho0)
                refine hK.out _ _ ⟨(blk_cell BK286.out 0).trans rfl, (blk_cell BK286.out 1).trans rfl, (blk_cell BK286.out 2).trans rfl, (blk_cell BK286.out 3).trans rfl, (blk_cell BK286.out 4).trans rfl⟩ (fun hHeld => ?_)
                clear hK K
                refine norm_ (a' := ?_) ?_ ?_
                rotate_left
                · show Act.put _ (some 19) _ = _
                  simp only [Act.put, List.setIfInBounds_toArray, List.set_cons_zero, List.set_cons_succ, i64_w, i32_w]
                  rfl
                exact norm_ (by simp only [putAll, Act.put, List.setIfInBounds_toArray, List.set_cons_zero, List.set_cons_succ]) (hCont (v289, .slice Ao17 y291.length co17, v295) _ ⟨hHeld, (by (with_reducible repeat (first | apply Kd.R_alloc | apply Kd.R_drewN | apply Kd.R_drew)); exact Kd.R_mono HO290.out (fun _ hk => hk.2)), (by (with_reducible repeat (first | apply Kd.R_alloc | apply Kd.R_drewN | apply Kd.R_drew)); exact HO293.out), (by (with_reducible repeat (first | apply Kd.R_alloc | apply Kd.R_drewN | apply Kd.R_drew)); exact Kd.R_mono HO296.out (fun _ hk => hk.2)), (by (with_reducible repeat (first | refine blk_drewN ?_ _ | refine blk_drew ?_ | refine blk_alloc ?_ _)); exact BK286.out), (by repeat (first | (with_reducible first | exact HB.out | apply below_alloc | apply pw_below_drewN | apply below_drew1 | refine below_set ?_ GE286.out) | exact HB.out))⟩)
              · skip
                obtain ⟨Ao15, co15, eo15⟩ := Kd.R_slice HO293.out
                (first | subst eo15 | (injection eo15 with f1_ f2_ f3_; have f4_ := f1_.symm; have f5_ := f3_.symm; clear f1_ f2_ f3_; subst f4_; subst f5_))
                refine goes_ Try.func39 (by kernel_rfl) rfl #[.slice Ao15 y291.length co15] (by rfl) rfl rfl (by (try simp only [List.map_toArray, List.map_cons, List.map_nil]); first | done | rfl | (simp only [List.length_drop, List.length_take]; rfl)) ?_
                with_reducible refine (weighhouseref17_numbers.calls k _ _ y291 t294 _ ?side1 ?side2 A4.out).mono ?_
                (case side1 => repeat (first | exact (Kd.R_reads' HO293.out).2.2 | (with_reducible refine Kd.C_alloc ?_ _) | (with_reducible refine Kd.C_drewN ?_ _) | (with_reducible refine Kd.C_drew ?_)))
                (case side2 => exact (Kd.R_reads' HO293.out).2.1)
                rintro e w16 ⟨v295, rfl, ho0, hb⟩
                refine ⟨_, rfl, ?_⟩
                have n0_ := Aside0.mk (Kd.R_below (by (with_reducible repeat (first | apply Kd.R_alloc | apply Kd.R_drewN | apply Kd.R_drew)); exact HO293.out) hb)
                have n1_ := Aside0.mk (Kd.R_lower ho0 (below_size (by repeat (first | (with_reducible first | exact HB.out | apply below_alloc | apply pw_below_drewN | apply below_drew1 | refine below_set ?_ GE286.out) | exact HB.out))))
                have n2_ := Aside0.mk (blk_below (g := gb286) (o := .cells #[.int .i64 a0_0, .int .i64 a0_1, .int .i64 a0_2, .int .i64 a0_3, .slice A0_4 l0_4.length c0_4] 46 (0, 0)) (by (with_reducible repeat (first | refine blk_drewN ?_ _ | refine blk_drew ?_ | refine blk_alloc ?_ _)); exact BK286.out) hb)
                have n3_ := Aside0.mk (below_step (by repeat (first | (with_reducible first | exact HB.out | apply below_alloc | apply pw_below_drewN | apply below_drew1 | refine below_set ?_ GE286.out) | exact HB.out)) hb)
                clear HO293
                clear BK286
                clear HB
                have HO293 := n0_
                have HO296 := n1_
                have BK286 := n2_
                have HB := n3_
                clear n0_ n1_ n2_ n3_
                (try clear hb)
                (try clear hb2)
                (try clear hk)
                (try clear hi)
                (try clear ho0)
                refine hK.out _ _ ⟨(blk_cell BK286.out 0).trans rfl, (blk_cell BK286.out 1).trans rfl, (blk_cell BK286.out 2).trans rfl, (blk_cell BK286.out 3).trans rfl, (blk_cell BK286.out 4).trans rfl⟩ (fun hHeld => ?_)
                clear hK K
                refine norm_ (a' := ?_) ?_ ?_
                rotate_left
                · show Act.put _ (some 19) _ = _
                  simp only [Act.put, List.setIfInBounds_toArray, List.set_cons_zero, List.set_cons_succ, i64_w, i32_w]
                  rfl
                refine one_ (i := 3) (N := some 11) #[true, true, true, true, true, true, true, true, true, true, true, true, false, false] rfl rfl (one_of HT_.out (by kernel_rfl)) (by decide) (fun K hK => ?_)
                refine Kd.R_lit_step (Kd.int .u8) _ 5 ?hg (N := 11) ?hd (xs := ([(a0_0) % 256] : List Int)) (inner := [.int .u8 ((a0_0) % 256)]) (ok := fun _ => True) (okp := fun _ => True) ?hr ?hp (fun _ hk => hk) trivial (Below.refl _ _) (Nat.le_refl _) (by simp) ?_; (case hd => rfl); (case hg => rfl); (case hr => first | (go_simp; done) | (go_simp; rfl)); (case hp => exact (Reps.one (show Kd.M (Kd.int .u8) _ _ _ ((a0_0) % 256) [.int .u8 ((a0_0) % 256)] from rfl) (Reps.none _ _)))
                intro v289 w17 ho18 hb hg_ hnew_
                clear hg_ hnew_
                (first | rw [← Ny288.out] at ho18 | (simp only [Int.reduceToNat] at ho18; rw [← Ny288.out] at ho18))
                have n0_ := Aside0.mk (Kd.R_below (by (with_reducible repeat (first | apply Kd.R_alloc | apply Kd.R_drewN | apply Kd.R_drew)); exact HO293.out) hb)
                have n1_ := Aside0.mk (Kd.R_elder' (by (with_reducible repeat (first | apply Kd.R_alloc | apply Kd.R_drewN | apply Kd.R_drew)); exact HO296.out) (Kd.R_base ho18) hb)
                have n2_ := Aside0.mk (Kd.R_lower (Kd.R_new' ho18 (Kd.R_lt (by (with_reducible repeat (first | apply Kd.R_alloc | apply Kd.R_drewN | apply Kd.R_drew)); exact HO296.out))) (below_size (by repeat (first | (with_reducible first | exact HB.out | apply below_alloc | apply pw_below_drewN | apply below_drew1 | refine below_set ?_ GE286.out) | exact HB.out))))
                have n3_ := Aside0.mk (blk_below (g := gb286) (o := .cells #[.int .i64 a0_0, .int .i64 a0_1, .int .i64 a0_2, .int .i64 a0_3, .slice A0_4 l0_4.length c0_4] 46 (0, 0)) (by (with_reducible repeat (first | refine blk_drewN ?_ _ | refine blk_drew ?_ | refine blk_alloc ?_ _)); exact BK286.out) hb)
                have n4_ := Aside0.mk (below_step (by repeat (first | (with_reducible first | exact HB.out | apply below_alloc | apply pw_below_drewN | apply below_drew1 | refine below_set ?_ GE286.out) | exact HB.out)) hb)
                clear HO293
                clear HO296
                clear BK286
                clear HB
                have HO293 := n0_
                have HO296 := n1_
                have HO290 := n2_
                have BK286 := n3_
                have HB := n4_
                clear n0_ n1_ n2_ n3_ n4_
                clear hb ho18
                refine hK.out _ _ ⟨(blk_cell BK286.out 0).trans rfl, (blk_cell BK286.out 1).trans rfl, (blk_cell BK286.out 2).trans rfl, (blk_cell BK286.out 3).trans rfl, (blk_cell BK286.out 4).trans rfl⟩ (fun hHeld => ?_)
                clear hK K
                refine norm_ (a' := ?_) ?_ ?_
                rotate_left
                · show Act.put _ (some 11) _ = _
                  simp only [Act.put, List.setIfInBounds_toArray, List.set_cons_zero, List.set_cons_succ, i64_w, i32_w]
                  rfl
                exact norm_ (by simp only [putAll, Act.put, List.setIfInBounds_toArray, List.set_cons_zero, List.set_cons_succ]) (hCont (v289, .slice Ao15 y291.length co15, v295) _ ⟨hHeld, (by (with_reducible repeat (first | apply Kd.R_alloc | apply Kd.R_drewN | apply Kd.R_drew)); exact Kd.R_mono HO290.out (fun _ hk => hk.2)), (by (with_reducible repeat (first | apply Kd.R_alloc | apply Kd.R_drewN | apply Kd.R_drew)); exact HO293.out), (by (with_reducible repeat (first | apply Kd.R_alloc | apply Kd.R_drewN | apply Kd.R_drew)); exact Kd.R_mono HO296.out (fun _ hk => hk.2)), (by (with_reducible repeat (first | refine blk_drewN ?_ _ | refine blk_drew ?_ | refine blk_alloc ?_ _)); exact BK286.out), (by repeat (first | (with_reducible first | exact HB.out | apply below_alloc | apply pw_below_drewN | apply below_drew1 | refine below_set ?_ GE286.out) | exact HB.out))⟩)
          rintro ⟨v289, v292, v295⟩ w19 ⟨hS_, h0_, h1_, h2_, h3_, h4_⟩
          have n0_ : Aside0 (Kd.R (Kd.int .u8) 5 w19 w.heap.size (fun k_ => some k_ ≠ (v295 : Value).ownBlock) v289 y288) := ⟨h0_⟩
          have n1_ : Aside0 (Kd.R (Kd.int .i64) 3 w19 w.heap.size (fun _ => True) v292 y291) := ⟨h1_⟩
          have n2_ : Aside0 (Kd.R (Kd.int .u8) 5 w19 w.heap.size (fun k_ => some k_ ≠ (v289 : Value).ownBlock) v295 t294) := ⟨h2_⟩
          have n3_ : Aside0 (w19.heap[gb286]? = some (.cells #[.int .i64 a0_0, .int .i64 a0_1, .int .i64 a0_2, .int .i64 a0_3, .slice A0_4 l0_4.length c0_4] 46 (0, 0))) := ⟨h3_⟩
          have n4_ : Aside0 (Below w.heap.size w w19) := ⟨h4_⟩
          clear BK286
          clear HB
          clear h0_ h1_ h2_ h3_ h4_
          have HO290 := n0_
          have HO293 := n1_
          have HO296 := n2_
          have BK286 := n3_
          have HB := n4_
          clear n0_ n1_ n2_ n3_ n4_
          have hHeld : w19.cell? ⟨gb286, 0, none⟩ = some (.int .i64 a0_0) ∧ w19.cell? ⟨gb286, 1, none⟩ = some (.int .i64 a0_1) ∧ w19.cell? ⟨gb286, 2, none⟩ = some (.int .i64 a0_2) ∧ w19.cell? ⟨gb286, 3, none⟩ = some (.int .i64 a0_3) ∧ w19.cell? ⟨gb286, 4, none⟩ = some (.slice A0_4 l0_4.length c0_4) := hS_
          obtain ⟨Ao21, co21, eo21⟩ := Kd.R_slice HO296.out
          (first | subst eo21 | (injection eo21 with f1_ f2_ f3_; have f4_ := f1_.symm; have f5_ := f3_.symm; clear f1_ f2_ f3_; subst f4_; subst f5_))
          refine norm_ (a' := ?_) ?_ ?_
          rotate_left
          · simp only [putAll, Act.put, List.setIfInBounds_toArray, List.set_cons_zero, List.set_cons_succ]
            rfl
          refine one_ (i := 12) (N := some 20) #[true, true, true, true, true, true, true, true, true, true, true, true, true, false] rfl rfl (one_of HT_.out (by kernel_rfl)) (by decide) (fun K hK => ?_)
          refine Kd.R_append_rows_step (Kd.int .u8) (w0 := w) w.heap.size (by rfl) (.tmp 11) (.tmp 19) 35 5 (.int .u8 0) 1 rfl Try.underlying35 info5 rfl (by decide) (by omega) v289 y288 t294 _ _ _ (fun k_ => some k_ ≠ (.slice Ao21 t294.length co21 : Value).ownBlock) (fun _ => False) rfl rfl ?aO ?aR (fun _ _ h => h) (fun _ h => h.elim) ?aF ?aB ?aS ?aL ?_
          (case aR => repeat (first | exact (Kd.R_reads' HO296.out).2.2 | (with_reducible refine Kd.C_alloc ?_ _) | (with_reducible refine Kd.C_drewN ?_ _) | (with_reducible refine Kd.C_drew ?_)))
          (case aB => exact (by repeat (first | (with_reducible first | exact HB.out | apply below_alloc | apply pw_below_drewN | apply below_drew1 | refine below_set ?_ GE286.out) | exact HB.out)))
          (case aF => exact (fun k_ hk => Kd.fresh' (Kd.R_lt (by (with_reducible repeat (first | apply Kd.R_alloc | apply Kd.R_drewN | apply Kd.R_drew)); exact HO296.out)) k_ hk))
          (case aO => exact (by (with_reducible repeat (first | apply Kd.R_alloc | apply Kd.R_drewN | apply Kd.R_drew)); exact HO290.out))
          (case aS => exact (below_size (by repeat (first | (with_reducible first | exact HB.out | apply below_alloc | apply pw_below_drewN | apply below_drew1 | refine below_set ?_ GE286.out) | exact HB.out))))
          (case aL => have := LMc5.out; omega)
          intro v298 w20 ho hb hg hat
          rw [← Ny297.out] at ho
          have n0_ := Aside0.mk (blk_grown (g := gb286) (o := .cells #[.int .i64 a0_0, .int .i64 a0_1, .int .i64 a0_2, .int .i64 a0_3, .slice A0_4 l0_4.length c0_4] 46 (0, 0)) (by (with_reducible repeat (first | refine blk_drewN ?_ _ | refine blk_drew ?_ | refine blk_alloc ?_ _)); exact BK286.out) hg (Kd.R_ne HO290.out BK286.out (by decide)))
          have n1_ := Aside0.mk (Kd.R_over' (by (with_reducible repeat (first | apply Kd.R_alloc | apply Kd.R_drewN | apply Kd.R_drew)); exact HO293.out) (Kd.R_typed (by (with_reducible repeat (first | apply Kd.R_alloc | apply Kd.R_drewN | apply Kd.R_drew)); exact HO290.out)) (by decide) hg)
          have n2_ := Aside0.mk (Kd.R_after (ok := (fun _ => True)) (by (with_reducible repeat (first | apply Kd.R_alloc | apply Kd.R_drewN | apply Kd.R_drew)); exact Kd.R_mono HO296.out (fun _ hk => ⟨trivial, hk⟩)) hg hat)
          have n3_ := Aside0.mk (hb)
          have n4_ := Aside0.mk (ho)
          clear BK286
          clear HO293
          clear HO296
          clear HB
          clear HO290
          have BK286 := n0_
          have HO293 := n1_
          have HO296 := n2_
          have HB := n3_
          have HO299 := n4_
          clear n0_ n1_ n2_ n3_ n4_
          clear ho hb hg hat
          refine hK.out _ _ ⟨(blk_cell BK286.out 0).trans rfl, (blk_cell BK286.out 1).trans rfl, (blk_cell BK286.out 2).trans rfl, (blk_cell BK286.out 3).trans rfl, (blk_cell BK286.out 4).trans rfl⟩ (fun hHeld => ?_)
          clear hK K
          refine norm_ (a' := ?_) ?_ ?_
          rotate_left
          · show Act.put _ (some 20) _ = _
            simp only [Act.put, List.setIfInBounds_toArray, List.set_cons_zero, List.set_cons_succ, i64_w, i32_w]
            rfl
          refine pure_ (i := 13) (N := some 4) (v := ?_) (a' := ?_) #[true, true, true, true, true, true, true, true, true, true, true, true, true, true] rfl rfl (any_of HT_.out (by kernel_rfl)) (fun _ _ _ h => h) (Or.inl ⟨by rfl, ?_⟩) ?_ ?_
          rotate_left
          · intro w'
            go_simp
            with_reducible rfl
          rotate_left
          · simp only [Act.put, List.setIfInBounds_toArray, List.set_cons_zero, List.set_cons_succ, i64_w, i32_w]
            rfl
          refine done_ (done_of HT_.out (by kernel_rfl)) ?_
          have hcz22_0 : w20.cell? ⟨gb286, 0, none⟩ = some (.int .i64 a0_0) := (blk_cell BK286.out 0).trans rfl
          have hcz22_1 : w20.cell? ⟨gb286, 1, none⟩ = some (.int .i64 a0_1) := (blk_cell BK286.out 1).trans rfl
          have hcz22_2 : w20.cell? ⟨gb286, 2, none⟩ = some (.int .i64 a0_2) := (blk_cell BK286.out 2).trans rfl
          have hcz22_3 : w20.cell? ⟨gb286, 3, none⟩ = some (.int .i64 a0_3) := (blk_cell BK286.out 3).trans rfl
          have hcz22_4 : w20.cell? ⟨gb286, 4, none⟩ = some (.slice A0_4 l0_4.length c0_4) := (blk_cell BK286.out 4).trans rfl
          have hfz22_0 := blk_frozen BK286.out 0
          have hfz22_1 := blk_frozen BK286.out 1
          have hfz22_2 := blk_frozen BK286.out 2
          have hfz22_3 := blk_frozen BK286.out 3
          have hfz22_4 := blk_frozen BK286.out 4
          try go_wp2_with (first | ((with_reducible refine gate_callee (f := 40) rfl ?_); refine goesL_ (some 24) rfl rfl Try.func40 (by kernel_rfl) rfl #[.slice A0_4 l0_4.length c0_4] rfl (by (try simp only [List.map_toArray, List.map_cons, List.map_nil]); first | done | rfl | (simp only [List.length_drop, List.length_take]; rfl)) ?_; (with_reducible refine (weighhouseref17_entries.calls k _ _ l0_4 t300 _ ?side1 ?side2 A6.out).mono ?_); (case side1 => repeat (first | exact (Kd.C_below HR0_4.out HB.out) | (with_reducible refine Kd.C_alloc ?_ _) | (with_reducible refine Kd.C_drewN ?_ _) | (with_reducible refine Kd.C_drew ?_))); (case side2 => exact HC0_4.out); rintro e w23 ⟨v301, rfl, ho0, hb⟩; refine ⟨_, rfl, ?_⟩; have n0_ := Aside0.mk (Kd.R_below (by (with_reducible repeat (first | apply Kd.R_alloc | apply Kd.R_drewN | apply Kd.R_drew)); exact HO293.out) hb); have n1_ := Aside0.mk (Kd.R_elder' (by (with_reducible repeat (first | apply Kd.R_alloc | apply Kd.R_drewN | apply Kd.R_drew)); exact HO296.out) (Kd.R_base ho0) hb); have n2_ := Aside0.mk (Kd.R_elder' (by (with_reducible repeat (first | apply Kd.R_alloc | apply Kd.R_drewN | apply Kd.R_drew)); exact HO299.out) (Kd.R_base ho0) hb); have n3_ := Aside0.mk (Kd.R_lower (Kd.R_new' (Kd.R_new' ho0 (Kd.R_lt (by (with_reducible repeat (first | apply Kd.R_alloc | apply Kd.R_drewN | apply Kd.R_drew)); exact HO296.out))) (Kd.R_lt (by (with_reducible repeat (first | apply Kd.R_alloc | apply Kd.R_drewN | apply Kd.R_drew)); exact HO299.out))) (below_size (by repeat (first | (with_reducible first | exact HB.out | apply below_alloc | apply pw_below_drewN | apply below_drew1 | refine below_set ?_ GE286.out) | exact HB.out)))); have n4_ := Aside0.mk (blk_below (g := gb286) (o := .cells #[.int .i64 a0_0, .int .i64 a0_1, .int .i64 a0_2, .int .i64 a0_3, .slice A0_4 l0_4.length c0_4] 46 (0, 0)) (by (with_reducible repeat (first | refine blk_drewN ?_ _ | refine blk_drew ?_ | refine blk_alloc ?_ _)); exact BK286.out) hb); have n5_ := Aside0.mk (below_step (by repeat (first | (with_reducible first | exact HB.out | apply below_alloc | apply pw_below_drewN | apply below_drew1 | refine below_set ?_ GE286.out) | exact HB.out)) hb); clear HO293; clear HO296; clear HO299; clear BK286; clear HB; have HO293 := n0_; have HO296 := n1_; have HO299 := n2_; have HO302 := n3_; have BK286 := n4_; have HB := n5_; clear n0_ n1_ n2_ n3_ n4_ n5_; (try clear hb); (try clear hb2); (try clear hk); (try clear hi); (try clear ho0); obtain ⟨Ao25, co25, eo25⟩ := Kd.R_slice HO302.out; subst eo25) | ((with_reducible refine gate_builtin (b := .append) (xs := #[.tmp 21, .tmp 24]) rfl ?_); at_builtin; refine Kd.R_append_rows (Kd.int .u8) (w0 := w) w.heap.size rfl (.tmp 21) (.tmp 24) 35 5 (.int .u8 0) 1 rfl Try.underlying35 info5 rfl (by decide) (by omega) v298 y297 t300 _ _ _ (fun k_ => some k_ ≠ (.slice Ao21 t294.length co21 : Value).ownBlock ∧ some k_ ≠ (.slice Ao25 t300.length co25 : Value).ownBlock) (fun _ => False) rfl rfl ?aO ?aR (fun _ _ h => h) (fun _ h => h.elim) ?aF ?aB ?aS ?aL ?_; (case aR => repeat (first | exact (Kd.R_reads' HO302.out).2.2 | (with_reducible refine Kd.C_alloc ?_ _) | (with_reducible refine Kd.C_drewN ?_ _) | (with_reducible refine Kd.C_drew ?_))); (case aB => exact (by repeat (first | (with_reducible first | exact HB.out | apply below_alloc | apply pw_below_drewN | apply below_drew1 | refine below_set ?_ GE286.out) | exact HB.out))); (case aF => exact (fun k_ hk => ⟨Kd.fresh' (Kd.R_lt (by (with_reducible repeat (first | apply Kd.R_alloc | apply Kd.R_drewN | apply Kd.R_drew)); exact HO296.out)) k_ hk, Kd.fresh' (Kd.R_lt (by (with_reducible repeat (first | apply Kd.R_alloc | apply Kd.R_drewN | apply Kd.R_drew)); exact HO302.out)) k_ hk⟩)); (case aO => exact (by (with_reducible repeat (first | apply Kd.R_alloc | apply Kd.R_drewN | apply Kd.R_drew)); exact HO299.out)); (case aS => exact (below_size (by repeat (first | (with_reducible first | exact HB.out | apply below_alloc | apply pw_below_drewN | apply below_drew1 | refine below_set ?_ GE286.out) | exact HB.out)))); (case aL => have := LMc7.out; omega); intro v304 w24 ho hb hg hat; rw [← Ny303.out] at ho; have n0_ := Aside0.mk (blk_grown (g := gb286) (o := .cells #[.int .i64 a0_0, .int .i64 a0_1, .int .i64 a0_2, .int .i64 a0_3, .slice A0_4 l0_4.length c0_4] 46 (0, 0)) (by (with_reducible repeat (first | refine blk_drewN ?_ _ | refine blk_drew ?_ | refine blk_alloc ?_ _)); exact BK286.out) hg (Kd.R_ne HO299.out BK286.out (by decide))); have n1_ := Aside0.mk (Kd.R_over' (by (with_reducible repeat (first | apply Kd.R_alloc | apply Kd.R_drewN | apply Kd.R_drew)); exact HO293.out) (Kd.R_typed (by (with_reducible repeat (first | apply Kd.R_alloc | apply Kd.R_drewN | apply Kd.R_drew)); exact HO299.out)) (by decide) hg); have n2_ := Aside0.mk (Kd.R_after (ok := (fun k_ => some k_ ≠ (.slice Ao25 t300.length co25 : Value).ownBlock)) (by (with_reducible repeat (first | apply Kd.R_alloc | apply Kd.R_drewN | apply Kd.R_drew)); exact Kd.R_mono HO296.out (fun _ hk => ⟨hk.2, hk.1.2⟩)) hg hat); have n3_ := Aside0.mk (Kd.R_after (ok := (fun k_ => some k_ ≠ (.slice Ao21 t294.length co21 : Value).ownBlock)) (by (with_reducible repeat (first | apply Kd.R_alloc | apply Kd.R_drewN | apply Kd.R_drew)); exact Kd.R_mono HO302.out (fun _ hk => ⟨hk.1.2, hk.2⟩)) hg hat); have n4_ := Aside0.mk (hb); have n5_ := Aside0.mk (ho); clear BK286; clear HO293; clear HO296; clear HO302; clear HB; clear HO299; have BK286 := n0_; have HO293 := n1_; have HO296 := n2_; have HO302 := n3_; have HB := n4_; have HO305 := n5_; clear n0_ n1_ n2_ n3_ n4_ n5_; clear ho hb hg hat; obtain ⟨Ao26, co26, eo26⟩ := Kd.R_slice HO305.out; subst eo26))
          go_ret2
          exact ⟨_, by first | rfl | (simp [errW_none, errW_some] <;> rfl) | (simp [*, errW_none, errW_some] <;> rfl), by first | exact Kd.R_nil _ _ _ _ _ | exact Kd.N_nil _ _ _ _ _ | exact Kd.V_nil _ _ _ _ _ | exact Kd.Q_nil _ _ _ _ _ | exact Kd.S_nil _ _ _ _ _, by repeat (first | (with_reducible first | exact HB.out | apply below_alloc | apply pw_below_drewN | apply below_drew1 | refine below_set ?_ GE286.out) | exact HB.out)⟩
        · rw [if_neg c8] at H
          have c8b0 : decide (1048576 < (y303.length : Int)) = false := decide_eq_false c8
          have c8b1 : decide (1048576 < y303.length) = false := decide_eq_false (by omega)
          clear c8
          simp only [Option.some.injEq, Prod.mk.injEq] at H
          obtain ⟨rfl, rfl⟩ := H
          go_enter Try.func18, Try.ntmps18
          try go_wp2_with (first | ((with_reducible refine gate_dst (N := 1) rfl ?_); refine box_event ?hg (N := 1) ?hd (cs := #[.int .i64 a0_0, .int .i64 a0_1, .int .i64 a0_2, .int .i64 a0_3, .slice A0_4 l0_4.length c0_4]) (t := 46) ?hr ?_; (case hd => rfl); (case hg => rfl); (case hr => first | (go_simp; done) | (go_simp; rfl)); intro gb286 hg w27 hbox hb; have n0_ := Aside0.mk (below_step (by repeat (first | (with_reducible first | exact HB.out | apply below_alloc | apply pw_below_drewN | apply below_drew1) | exact HB.out)) hb); have n1_ := Aside0.mk (hbox); have n2_ := Aside0.mk ((by rw [hg]; exact (below_size (by repeat (first | (with_reducible first | exact HB.out | apply below_alloc | apply pw_below_drewN | apply below_drew1) | exact HB.out))) : w.heap.size ≤ gb286)); have n3_ := Aside0.mk ((by rw [hg]; exact (below_size (by repeat (first | (with_reducible first | exact HB.out | apply below_alloc | apply pw_below_drewN | apply below_drew1) | exact HB.out))) : w.heap.size ≤ gb286)); clear HB; have HB := n0_; have BK286 := n1_; have GW286 := n2_; have GE286 := n3_; clear n0_ n1_ n2_ n3_; clear hb hbox hg; have hcz28_0 : w27.cell? ⟨gb286, 0, none⟩ = some (.int .i64 a0_0) := (blk_cell BK286.out 0).trans rfl; have hcz28_1 : w27.cell? ⟨gb286, 1, none⟩ = some (.int .i64 a0_1) := (blk_cell BK286.out 1).trans rfl; have hcz28_2 : w27.cell? ⟨gb286, 2, none⟩ = some (.int .i64 a0_2) := (blk_cell BK286.out 2).trans rfl; have hcz28_3 : w27.cell? ⟨gb286, 3, none⟩ = some (.int .i64 a0_3) := (blk_cell BK286.out 3).trans rfl; have hcz28_4 : w27.cell? ⟨gb286, 4, none⟩ = some (.slice A0_4 l0_4.length c0_4) := (blk_cell BK286.out 4).trans rfl; have hfz28_0 := blk_frozen BK286.out 0; have hfz28_1 := blk_frozen BK286.out 1; have hfz28_2 := blk_frozen BK286.out 2; have hfz28_3 := blk_frozen BK286.out 3; have hfz28_4 := blk_frozen BK286.out 4) | ((with_reducible refine gate_callee (f := 22) rfl ?_); refine goesL_ (some 6) rfl rfl Try.func22 (by kernel_rfl) rfl #[.agg #[.int .i64 a0_0, .int .i64 a0_1, .int .i64 a0_2, .int .i64 a0_3, .slice A0_4 l0_4.length c0_4]] rfl (by (try simp only [List.map_toArray, List.map_cons, List.map_nil]); first | done | rfl | (simp only [List.length_drop, List.length_take]; rfl)) ?_; (with_reducible refine (weighhouseref17_RightRecord.calls k a0_0 a0_1 a0_2 a0_3 _ _ l0_4 true _ ?side1 ?side2 A2.out).mono ?_); (case side1 => repeat (first | exact (Kd.C_below HR0_4.out HB.out) | (with_reducible refine Kd.C_alloc ?_ _) | (with_reducible refine Kd.C_drewN ?_ _) | (with_reducible refine Kd.C_drew ?_))); (case side2 => exact HC0_4.out); rintro e w29 ⟨rfl, hb⟩; refine ⟨_, rfl, ?_⟩; have n0_ := Aside0.mk (blk_below (g := gb286) (o := .cells #[.int .i64 a0_0, .int .i64 a0_1, .int .i64 a0_2, .int .i64 a0_3, .slice A0_4 l0_4.length c0_4] 46 (0, 0)) (by (with_reducible repeat (first | refine blk_drewN ?_ _ | refine blk_drew ?_ | refine blk_alloc ?_ _)); exact BK286.out) hb); have n1_ := Aside0.mk (below_step (by repeat (first | (with_reducible first | exact HB.out | apply below_alloc | apply pw_below_drewN | apply below_drew1 | refine below_set ?_ GE286.out) | exact HB.out)) hb); clear BK286; clear HB; have BK286 := n0_; have HB := n1_; clear n0_ n1_; (try clear hb); (try clear hb2); (try clear hk); (try clear hi)))
          have n0_ := Aside0.mk (blk_drew BK286.out)
          have n1_ := Aside0.mk (below_drew1 HB.out)
          clear BK286
          clear HB
          have BK286 := n0_
          have HB := n1_
          clear n0_ n1_
          refine start_ (n := 14) (S := fun w' => w'.cell? ⟨gb286, 0, none⟩ = some (.int .i64 a0_0) ∧ w'.cell? ⟨gb286, 1, none⟩ = some (.int .i64 a0_1) ∧ w'.cell? ⟨gb286, 2, none⟩ = some (.int .i64 a0_2) ∧ w'.cell? ⟨gb286, 3, none⟩ = some (.int .i64 a0_3) ∧ w'.cell? ⟨gb286, 4, none⟩ = some (.slice A0_4 l0_4.length c0_4)) (ds := []) #[false, false, false, false, false, false, false, false, false, false, false, false, false, false] (by kernel_rfl) rfl rfl ⟨(blk_cell BK286.out 0).trans rfl, (blk_cell BK286.out 1).trans rfl, (blk_cell BK286.out 2).trans rfl, (blk_cell BK286.out 3).trans rfl, (blk_cell BK286.out 4).trans rfl⟩ (fun hHeld => ?_); refine with_tabW weighhouseref17_PutRecord.tab3 weighhouseref17_PutRecord.bits3 (fun HT_ HW_ => ?_)
          generalize w29.drew = w30 at BK286 HB hHeld ⊢
          refine pure_ (i := 0) (N := some 8) (v := ?_) (a' := ?_) #[true, false, false, false, false, false, false, false, false, false, false, false, false, false] rfl rfl (any_of HT_.out (by kernel_rfl)) (fun _ _ _ h => h) (Or.inl ⟨by rfl, ?_⟩) ?_ ?_
          rotate_left
          · intro w'
            go_simp
            with_reducible rfl
          rotate_left
          · simp only [Act.put, List.setIfInBounds_toArray, List.set_cons_zero, List.set_cons_succ, i64_w, i32_w]
            rfl
          refine pure_ (i := 4) (N := some 12) (v := ?_) (a' := ?_) #[true, false, false, false, true, false, false, false, false, false, false, false, false, false] rfl rfl (any_of HT_.out (by kernel_rfl)) (fun _ _ _ h => h) (Or.inl ⟨by rfl, ?_⟩) ?_ ?_
          rotate_left
          · intro w'
            go_simp
            with_reducible rfl
          rotate_left
          · simp only [Act.put, List.setIfInBounds_toArray, List.set_cons_zero, List.set_cons_succ, i64_w, i32_w]
            rfl
          refine pure_ (i := 6) (N := some 14) (v := ?_) (a' := ?_) #[true, false, false, false, true, false, true, false, false, false, false, false, false, false] rfl rfl (any_of HT_.out (by kernel_rfl)) (fun _ _ _ h => h) (Or.inl ⟨by rfl, ?_⟩) ?_ ?_
          rotate_left
          · intro w'
            go_simp
            with_reducible rfl
          rotate_left
          · simp only [Act.put, List.setIfInBounds_toArray, List.set_cons_zero, List.set_cons_succ, i64_w, i32_w]
            rfl
          refine pure_ (i := 8) (N := some 16) (v := ?_) (a' := ?_) #[true, false, false, false, true, false, true, false, true, false, false, false, false, false] rfl rfl (any_of HT_.out (by kernel_rfl)) (fun _ _ _ h => h) (Or.inl ⟨by rfl, ?_⟩) ?_ ?_
          rotate_left
          · intro w'
            go_simp
            with_reducible rfl
          rotate_left
          · simp only [Act.put, List.setIfInBounds_toArray, List.set_cons_zero, List.set_cons_succ, i64_w, i32_w]
            rfl
          refine take_ (i := 1) (N := some 9) (v := ?_) (a' := ?_) #[true, true, false, false, true, false, true, false, true, false, false, false, false, false] rfl rfl (take_ofW HT_.out HW_.out (by kernel_rfl)) (fun _ _ _ h => h) (Or.inl ⟨by rfl, ?_⟩) hHeld ?_ ?_
          rotate_left
          · rintro w' ⟨s0, s1, s2, s3, s4⟩
            go_simp
            with_reducible rfl
          rotate_left
          · simp only [Act.put, List.setIfInBounds_toArray, List.set_cons_zero, List.set_cons_succ, i64_w, i32_w]
            rfl
          refine pure_ (i := 2) (N := some 10) (v := ?_) (a' := ?_) #[true, true, true, false, true, false, true, false, true, false, false, false, false, false] rfl rfl (any_of HT_.out (by kernel_rfl)) (fun _ _ _ h => h) (Or.inl ⟨by rfl, ?_⟩) ?_ ?_
          rotate_left
          · intro w'
            go_simp
            with_reducible rfl
          rotate_left
          · simp only [Act.put, List.setIfInBounds_toArray, List.set_cons_zero, List.set_cons_succ, i64_w, i32_w]
            rfl
          refine take_ (i := 5) (N := some 13) (v := ?_) (a' := ?_) #[true, true, true, false, true, true, true, false, true, false, false, false, false, false] rfl rfl (take_ofW HT_.out HW_.out (by kernel_rfl)) (fun _ _ _ h => h) (Or.inl ⟨by rfl, ?_⟩) hHeld ?_ ?_
          rotate_left
          · rintro w' ⟨s0, s1, s2, s3, s4⟩
            go_simp
            with_reducible rfl
          rotate_left
          · simp only [Act.put, List.setIfInBounds_toArray, List.set_cons_zero, List.set_cons_succ, i64_w, i32_w]
            rfl
          refine take_ (i := 7) (N := some 15) (v := ?_) (a' := ?_) #[true, true, true, false, true, true, true, true, true, false, false, false, false, false] rfl rfl (take_ofW HT_.out HW_.out (by kernel_rfl)) (fun _ _ _ h => h) (Or.inl ⟨by rfl, ?_⟩) hHeld ?_ ?_
          rotate_left
          · rintro w' ⟨s0, s1, s2, s3, s4⟩
            go_simp
            with_reducible rfl
          rotate_left
          · simp only [Act.put, List.setIfInBounds_toArray, List.set_cons_zero, List.set_cons_succ, i64_w, i32_w]
            rfl
          refine take_ (i := 9) (N := some 17) (v := ?_) (a' := ?_) #[true, true, true, false, true, true, true, true, true, true, false, false, false, false] rfl rfl (take_ofW HT_.out HW_.out (by kernel_rfl)) (fun _ _ _ h => h) (Or.inl ⟨by rfl, ?_⟩) hHeld ?_ ?_
          rotate_left
          · rintro w' ⟨s0, s1, s2, s3, s4⟩
            go_simp
            with_reducible rfl
          rotate_left
          · simp only [Act.put, List.setIfInBounds_toArray, List.set_cons_zero, List.set_cons_succ, i64_w, i32_w]
            rfl
          refine join_ (σ := Value × Value × Value) 2 #[true, true, true, true, true, true, true, true, true, true, true, true, false, false] (fun s_ => [(11, s_.1), (18, s_.2.1), (19, s_.2.2)]) (fun s_ w' => (w'.cell? ⟨gb286, 0, none⟩ = some (.int .i64 a0_0) ∧ w'.cell? ⟨gb286, 1, none⟩ = some (.int .i64 a0_1) ∧ w'.cell? ⟨gb286, 2, none⟩ = some (.int .i64 a0_2) ∧ w'.cell? ⟨gb286, 3, none⟩ = some (.int .i64 a0_3) ∧ w'.cell? ⟨gb286, 4, none⟩ = some (.slice A0_4 l0_4.length c0_4)) ∧ (Kd.R (Kd.int .u8) 5 w' w.heap.size (fun k_ => some k_ ≠ (s_.2.2 : Value).ownBlock) s_.1 y288) ∧ (Kd.R (Kd.int .i64) 3 w' w.heap.size (fun _ => True) s_.2.1 y291) ∧ (Kd.R (Kd.int .u8) 5 w' w.heap.size (fun k_ => some k_ ≠ (s_.1 : Value).ownBlock) s_.2.2 t294) ∧ (w'.heap[gb286]? = some (.cells #[.int .i64 a0_0, .int .i64 a0_1, .int .i64 a0_2, .int .i64 a0_3, .slice A0_4 l0_4.length c0_4] 46 (0, 0))) ∧ (Below w.heap.size w w')) ?_ ?_
          rotate_left
          · intro hCont
            refine two_ (i := 3) (j := 10) (Ni := some 11) (Nj := some 18) #[true, true, true, true, true, true, true, true, true, true, false, false, false, false] #[true, true, true, false, true, true, true, true, true, true, true, false, false, false] rfl rfl rfl rfl (two_of HT_.out (by kernel_rfl)) (by decide) (by decide) (fun K hK => ?_) (fun K hK => ?_)
            · skip
              refine Kd.R_lit_step (Kd.int .u8) _ 5 ?hg (N := 11) ?hd (xs := ([(a0_0) % 256] : List Int)) (inner := [.int .u8 ((a0_0) % 256)]) (ok := fun _ => True) (okp := fun _ => True) ?hr ?hp (fun _ hk => hk) trivial (Below.refl _ _) (Nat.le_refl _) (by simp) ?_; (case hd => rfl); (case hg => rfl); (case hr => first | (go_simp; done) | (go_simp; rfl)); (case hp => exact (Reps.one (show Kd.M (Kd.int .u8) _ _ _ ((a0_0) % 256) [.int .u8 ((a0_0) % 256)] from rfl) (Reps.none _ _)))
              intro v289 w31 ho32 hb hg_ hnew_
              clear hg_ hnew_
              (first | rw [← Ny288.out] at ho32 | (simp only [Int.reduceToNat] at ho32; rw [← Ny288.out] at ho32))
              have n0_ := Aside0.mk (Kd.R_lower ho32 (below_size (by repeat (first | (with_reducible first | exact HB.out | apply below_alloc | apply pw_below_drewN | apply below_drew1 | refine below_set ?_ GE286.out) | exact HB.out))))
              have n1_ := Aside0.mk (blk_below (g := gb286) (o := .cells #[.int .i64 a0_0, .int .i64 a0_1, .int .i64 a0_2, .int .i64 a0_3, .slice A0_4 l0_4.length c0_4] 46 (0, 0)) (by (with_reducible repeat (first | refine blk_drewN ?_ _ | refine blk_drew ?_ | refine blk_alloc ?_ _)); exact BK286.out) hb)
              have n2_ := Aside0.mk (below_step (by repeat (first | (with_reducible first | exact HB.out | apply below_alloc | apply pw_below_drewN | apply below_drew1 | refine below_set ?_ GE286.out) | exact HB.out)) hb)
              clear BK286
              clear HB
              have HO290 := n0_
              have BK286 := n1_
              have HB := n2_
              clear n0_ n1_ n2_
              clear hb ho32
              refine hK.out _ _ ⟨(blk_cell BK286.out 0).trans rfl, (blk_cell BK286.out 1).trans rfl, (blk_cell BK286.out 2).trans rfl, (blk_cell BK286.out 3).trans rfl, (blk_cell BK286.out 4).trans rfl⟩ (fun hHeld => ?_)
              clear hK K
              refine norm_ (a' := ?_) ?_ ?_
              rotate_left
              · show Act.put _ (some 11) _ = _
                simp only [Act.put, List.setIfInBounds_toArray, List.set_cons_zero, List.set_cons_succ, i64_w, i32_w]
                rfl
              refine one_ (i := 10) (N := some 18) #[true, true, true, true, true, true, true, true, true, true, true, false, false, false] rfl rfl (one_of HT_.out (by kernel_rfl)) (by decide) (fun K hK => ?_)
              refine Kd.R_lit_step (Kd.int .i64) _ 3 ?hg (N := 18) ?hd (xs := ([a0_1, a0_2, a0_3] : List Int)) (inner := [.int .i64 a0_1, .int .i64 a0_2, .int .i64 a0_3]) (ok := fun _ => True) (okp := fun _ => True) ?hr ?hp (fun _ hk => hk) trivial (Below.refl _ _) (Nat.le_refl _) (by simp) ?_; (case hd => rfl); (case hg => rfl); (case hr => first | (go_simp; done) | (go_simp; rfl)); (case hp => exact (Reps.one (show Kd.M (Kd.int .i64) _ _ _ a0_1 [.int .i64 a0_1] from rfl) (Reps.one (show Kd.M (Kd.int .i64) _ _ _ a0_2 [.int .i64 a0_2] from rfl) (Reps.one (show Kd.M (Kd.int .i64) _ _ _ a0_3 [.int .i64 a0_3] from rfl) (Reps.none _ _)))))
              intro v292 w33 ho34 hb hg_ hnew_
              clear hg_ hnew_
              (first | rw [← Ny291.out] at ho34 | (simp only [Int.reduceToNat] at ho34; rw [← Ny291.out] at ho34))
              have n0_ := Aside0.mk (Kd.R_below (by (with_reducible repeat (first | apply Kd.R_alloc | apply Kd.R_drewN | apply Kd.R_drew)); exact HO290.out) hb)
              have n1_ := Aside0.mk (Kd.R_lower ho34 (below_size (by repeat (first | (with_reducible first | exact HB.out | apply below_alloc | apply pw_below_drewN | apply below_drew1 | refine below_set ?_ GE286.out) | exact HB.out))))
              have n2_ := Aside0.mk (blk_below (g := gb286) (o := .cells #[.int .i64 a0_0, .int .i64 a0_1, .int .i64 a0_2, .int .i64 a0_3, .slice A0_4 l0_4.length c0_4] 46 (0, 0)) (by (with_reducible repeat (first | refine blk_drewN ?_ _ | refine blk_drew ?_ | refine blk_alloc ?_ _)); exact BK286.out) hb)
              have n3_ := Aside0.mk (below_step (by repeat (first | (with_reducible first | exact HB.out | apply below_alloc | apply pw_below_drewN | apply below_drew1 | refine below_set ?_ GE286.out) | exact HB.out)) hb)
              clear HO290
              clear BK286
              clear HB
              have HO290 := n0_
              have HO293 := n1_
              have BK286 := n2_
              have HB := n3_
              clear n0_ n1_ n2_ n3_
              clear hb ho34
              obtain ⟨Ao35, co35, eo35⟩ := Kd.R_slice HO293.out
              (first | subst eo35 | (injection eo35 with f1_ f2_ f3_; have f4_ := f1_.symm; have f5_ := f3_.symm; clear f1_ f2_ f3_; subst f4_; subst f5_))
              refine hK.out _ _ ⟨(blk_cell BK286.out 0).trans rfl, (blk_cell BK286.out 1).trans rfl, (blk_cell BK286.out 2).trans rfl, (blk_cell BK286.out 3).trans rfl, (blk_cell BK286.out 4).trans rfl⟩ (fun hHeld => ?_)
              clear hK K
              refine norm_ (a' := ?_) ?_ ?_
              rotate_left
              · show Act.put _ (some 18) _ = _
                simp only [Act.put, List.setIfInBounds_toArray, List.set_cons_zero, List.set_cons_succ, i64_w, i32_w]
                rfl
              refine one_ (i := 11) (N := some 19) #[true, true, true, true, true, true, true, true, true, true, true, true, false, false] rfl rfl (one_of HT_.out (by kernel_rfl)) (by decide) (fun K hK => ?_)
              refine goes_ Try.func39 (by kernel_rfl) rfl #[.slice Ao35 y291.length co35] (by rfl) rfl rfl (by (try simp only [List.map_toArray, List.map_cons, List.map_nil]); first | done | rfl | (simp only [List.length_drop, List.length_take]; rfl)) ?_
              with_reducible refine (weighhouseref17_numbers.calls k _ _ y291 t294 _ ?side1 ?side2 A4.out).mono ?_
              (case side1 => repeat (first | exact (Kd.R_reads' HO293.out).2.2 | (with_reducible refine Kd.C_alloc ?_ _) | (with_reducible refine Kd.C_drewN ?_ _) | (with_reducible refine Kd.C_drew ?_)))
              (case side2 => exact (Kd.R_reads' HO293.out).2.1)
              rintro e w36 ⟨v295, rfl, ho0, hb⟩
              refine ⟨_, rfl, ?_⟩
              have n0_ := Aside0.mk (Kd.R_elder' (by (with_reducible repeat (first | apply Kd.R_alloc | apply Kd.R_drewN | apply Kd.R_drew)); exact HO290.out) (Kd.R_base ho0) hb)
              have n1_ := Aside0.mk (Kd.R_below (by (with_reducible repeat (first | apply Kd.R_alloc | apply Kd.R_drewN | apply Kd.R_drew)); exact HO293.out) hb)
              have n2_ := Aside0.mk (Kd.R_lower (Kd.R_new' ho0 (Kd.R_lt (by (with_reducible repeat (first | apply Kd.R_alloc | apply Kd.R_drewN | apply Kd.R_drew)); exact HO290.out))) (below_size (by repeat (first | (with_reducible first | exact HB.out | apply below_alloc | apply pw_below_drewN | apply below_drew1 | refine below_set ?_ GE286.out) | exact HB.out))))
              have n3_ := Aside0.mk (blk_below (g := gb286) (o := .cells #[.int .i64 a0_0, .int .i64 a0_1, .int .i64 a0_2, .int .i64 a0_3, .slice A0_4 l0_4.length c0_4] 46 (0, 0)) (by (with_reducible repeat (first | refine blk_drewN ?_ _ | refine blk_drew ?_ | refine blk_alloc ?_ _)); exact BK286.out) hb)
              have n4_ := Aside0.mk (below_step (by repeat (first | (with_reducible first | exact HB.out | apply below_alloc | apply pw_below_drewN | apply below_drew1 | refine below_set ?_ GE286.out) | exact HB.out)) hb)
              clear HO290
              clear HO293
              clear BK286
              clear HB
              have HO290 := n0_
              have HO293 := n1_
              have HO296 := n2_
              have BK286 := n3_
              have HB := n4_
              clear n0_ n1_ n2_ n3_ n4_
              (try clear hb)
              (try clear hb2)
              (try clear hk)
              (try clear hi)
              (try clear ho0)
              refine hK.out _ _ ⟨(blk_cell BK286.out 0).trans rfl, (blk_cell BK286.out 1).trans rfl, (blk_cell BK286.out 2).trans rfl, (blk_cell BK286.out 3).trans rfl, (blk_cell BK286.out 4).trans rfl⟩ (fun hHeld => ?_)
              clear hK K
              refine norm_ (a' := ?_) ?_ ?_
              rotate_left
              · show Act.put _ (some 19) _ = _
                simp only [Act.put, List.setIfInBounds_toArray, List.set_cons_zero, List.set_cons_succ, i64_w, i32_w]
                rfl
              exact norm_ (by simp only [putAll, Act.put, List.setIfInBounds_toArray, List.set_cons_zero, List.set_cons_succ]) (hCont (v289, .slice Ao35 y291.length co35, v295) _ ⟨hHeld, (by (with_reducible repeat (first | apply Kd.R_alloc | apply Kd.R_drewN | apply Kd.R_drew)); exact Kd.R_mono HO290.out (fun _ hk => hk.2)), (by (with_reducible repeat (first | apply Kd.R_alloc | apply Kd.R_drewN | apply Kd.R_drew)); exact HO293.out), (by (with_reducible repeat (first | apply Kd.R_alloc | apply Kd.R_drewN | apply Kd.R_drew)); exact Kd.R_mono HO296.out (fun _ hk => hk.2)), (by (with_reducible repeat (first | refine blk_drewN ?_ _ | refine blk_drew ?_ | refine blk_alloc ?_ _)); exact BK286.out), (by repeat (first | (with_reducible first | exact HB.out | apply below_alloc | apply pw_below_drewN | apply below_drew1 | refine below_set ?_ GE286.out) | exact HB.out))⟩)
            · skip
              refine Kd.R_lit_step (Kd.int .i64) _ 3 ?hg (N := 18) ?hd (xs := ([a0_1, a0_2, a0_3] : List Int)) (inner := [.int .i64 a0_1, .int .i64 a0_2, .int .i64 a0_3]) (ok := fun _ => True) (okp := fun _ => True) ?hr ?hp (fun _ hk => hk) trivial (Below.refl _ _) (Nat.le_refl _) (by simp) ?_; (case hd => rfl); (case hg => rfl); (case hr => first | (go_simp; done) | (go_simp; rfl)); (case hp => exact (Reps.one (show Kd.M (Kd.int .i64) _ _ _ a0_1 [.int .i64 a0_1] from rfl) (Reps.one (show Kd.M (Kd.int .i64) _ _ _ a0_2 [.int .i64 a0_2] from rfl) (Reps.one (show Kd.M (Kd.int .i64) _ _ _ a0_3 [.int .i64 a0_3] from rfl) (Reps.none _ _)))))
              intro v292 w31 ho32 hb hg_ hnew_
              clear hg_ hnew_
              (first | rw [← Ny291.out] at ho32 | (simp only [Int.reduceToNat] at ho32; rw [← Ny291.out] at ho32))
              have n0_ := Aside0.mk (Kd.R_lower ho32 (below_size (by repeat (first | (with_reducible first | exact HB.out | apply below_alloc | apply pw_below_drewN | apply below_drew1 | refine below_set ?_ GE286.out) | exact HB.out))))
              have n1_ := Aside0.mk (blk_below (g := gb286) (o := .cells #[.int .i64 a0_0, .int .i64 a0_1, .int .i64 a0_2, .int .i64 a0_3, .slice A0_4 l0_4.length c0_4] 46 (0, 0)) (by (with_reducible repeat (first | refine blk_drewN ?_ _ | refine blk_drew ?_ | refine blk_alloc ?_ _)); exact BK286.out) hb)
              have n2_ := Aside0.mk (below_step (by repeat (first | (with_reducible first | exact HB.out | apply below_alloc | apply pw_below_drewN | apply below_drew1 | refine below_set ?_ GE286.out) | exact HB.out)) hb)
              clear BK286
              clear HB
              have HO293 := n0_
              have BK286 := n1_
              have HB := n2_
              clear n0_ n1_ n2_
              clear hb ho32
              refine hK.out _ _ ⟨(blk_cell BK286.out 0).trans rfl, (blk_cell BK286.out 1).trans rfl, (blk_cell BK286.out 2).trans rfl, (blk_cell BK286.out 3).trans rfl, (blk_cell BK286.out 4).trans rfl⟩ (fun hHeld => ?_)
              clear hK K
              refine norm_ (a' := ?_) ?_ ?_
              rotate_left
              · show Act.put _ (some 18) _ = _
                simp only [Act.put, List.setIfInBounds_toArray, List.set_cons_zero, List.set_cons_succ, i64_w, i32_w]
                rfl
              refine two_ (i := 3) (j := 11) (Ni := some 11) (Nj := some 19) #[true, true, true, true, true, true, true, true, true, true, true, false, false, false] #[true, true, true, false, true, true, true, true, true, true, true, true, false, false] rfl rfl rfl rfl (two_of HT_.out (by kernel_rfl)) (by decide) (by decide) (fun K hK => ?_) (fun K hK => ?_)
              · skip
                refine Kd.R_lit_step (Kd.int .u8) _ 5 ?hg (N := 11) ?hd (xs := ([(a0_0) % 256] : List Int)) (inner := [.int .u8 ((a0_0) % 256)]) (ok := fun _ => True) (okp := fun _ => True) ?hr ?hp (fun _ hk => hk) trivial (Below.refl _ _) (Nat.le_refl _) (by simp) ?_; (case hd => rfl); (case hg => rfl); (case hr => first | (go_simp; done) | (go_simp; rfl)); (case hp => exact (Reps.one (show Kd.M (Kd.int .u8) _ _ _ ((a0_0) % 256) [.int .u8 ((a0_0) % 256)] from rfl) (Reps.none _ _)))
                intro v289 w33 ho34 hb hg_ hnew_
                clear hg_ hnew_
                (first | rw [← Ny288.out] at ho34 | (simp only [Int.reduceToNat] at ho34; rw [← Ny288.out] at ho34))
                have n0_ := Aside0.mk (Kd.R_below (by (with_reducible repeat (first | apply Kd.R_alloc | apply Kd.R_drewN | apply Kd.R_drew)); exact HO293.out) hb)
                have n1_ := Aside0.mk (Kd.R_lower ho34 (below_size (by repeat (first | (with_reducible first | exact HB.out | apply below_alloc | apply pw_below_drewN | apply below_drew1 | refine below_set ?_ GE286.out) | exact HB.out))))
                have n2_ := Aside0.mk (blk_below (g := gb286) (o := .cells #[.int .i64 a0_0, .int .i64 a0_1, .int .i64 a0_2, .int .i64 a0_3, .slice A0_4 l0_4.length c0_4] 46 (0, 0)) (by (with_reducible repeat (first | refine blk_drewN ?_ _ | refine blk_drew ?_ | refine blk_alloc ?_ _)); exact BK286.out) hb)
                have n3_ := Aside0.mk (below_step (by repeat (first | (with_reducible first | exact HB.out | apply below_alloc | apply pw_below_drewN | apply below_drew1 | refine below_set ?_ GE286.out) | exact HB.out)) hb)
                clear HO293
                clear BK286
                clear HB
                have HO293 := n0_
                have HO290 := n1_
                have BK286 := n2_
                have HB := n3_
                clear n0_ n1_ n2_ n3_
                clear hb ho34
                obtain ⟨Ao35, co35, eo35⟩ := Kd.R_slice HO293.out
                (first | subst eo35 | (injection eo35 with f1_ f2_ f3_; have f4_ := f1_.symm; have f5_ := f3_.symm; clear f1_ f2_ f3_; subst f4_; subst f5_))
                refine hK.out _ _ ⟨(blk_cell BK286.out 0).trans rfl, (blk_cell BK286.out 1).trans rfl, (blk_cell BK286.out 2).trans rfl, (blk_cell BK286.out 3).trans rfl, (blk_cell BK286.out 4).trans rfl⟩ (fun hHeld => ?_)
                clear hK K
                refine norm_ (a' := ?_) ?_ ?_
                rotate_left
                · show Act.put _ (some 11) _ = _
                  simp only [Act.put, List.setIfInBounds_toArray, List.set_cons_zero, List.set_cons_succ, i64_w, i32_w]
                  rfl
                refine one_ (i := 11) (N := some 19) #[true, true, true, true, true, true, true, true, true, true, true, true, false, false] rfl rfl (one_of HT_.out (by kernel_rfl)) (by decide) (fun K hK => ?_)
                refine goes_ Try.func39 (by kernel_rfl) rfl #[.slice Ao35 y291.length co35] (by rfl) rfl rfl (by (try simp only [List.map_toArray, List.map_cons, List.map_nil]); first | done | rfl | (simp only [List.length_drop, List.length_take]; rfl)) ?_
                with_reducible refine (weighhouseref17_numbers.calls k _ _ y291 t294 _ ?side1 ?side2 A4.out).mono ?_
                (case side1 => repeat (first | exact (Kd.R_reads' HO293.out).2.2 | (with_reducible refine Kd.C_alloc ?_ _) | (with_reducible refine Kd.C_drewN ?_ _) | (with_reducible refine Kd.C_drew ?_)))
                (case side2 => exact (Kd.R_reads' HO293.out).2.1)
                rintro e w36 ⟨v295, rfl, ho0, hb⟩
                refine ⟨_, rfl, ?_⟩
                have n0_ := Aside0.mk (Kd.R_below (by (with_reducible repeat (first | apply Kd.R_alloc | apply Kd.R_drewN | apply Kd.R_drew)); exact HO293.out) hb)
                have n1_ := Aside0.mk (Kd.R_elder' (by (with_reducible repeat (first | apply Kd.R_alloc | apply Kd.R_drewN | apply Kd.R_drew)); exact HO290.out) (Kd.R_base ho0) hb)
                have n2_ := Aside0.mk (Kd.R_lower (Kd.R_new' ho0 (Kd.R_lt (by (with_reducible repeat (first | apply Kd.R_alloc | apply Kd.R_drewN | apply Kd.R_drew)); exact HO290.out))) (below_size (by repeat (first | (with_reducible first | exact HB.out | apply below_alloc | apply pw_below_drewN | apply below_drew1 | refine below_set ?_ GE286.out) | exact HB.out))))
                have n3_ := Aside0.mk (blk_below (g := gb286) (o := .cells #[.int .i64 a0_0, .int .i64 a0_1, .int .i64 a0_2, .int .i64 a0_3, .slice A0_4 l0_4.length c0_4] 46 (0, 0)) (by (with_reducible repeat (first | refine blk_drewN ?_ _ | refine blk_drew ?_ | refine blk_alloc ?_ _)); exact BK286.out) hb)
                have n4_ := Aside0.mk (below_step (by repeat (first | (with_reducible first | exact HB.out | apply below_alloc | apply pw_below_drewN | apply below_drew1 | refine below_set ?_ GE286.out) | exact HB.out)) hb)
                clear HO293
                clear HO290
                clear BK286
                clear HB
                have HO293 := n0_
                have HO290 := n1_
                have HO296 := n2_
                have BK286 := n3_
                have HB := n4_
                clear n0_ n1_ n2_ n3_ n4_
                (try clear hb)
                (try clear hb2)
                (try clear hk)
                (try clear hi)
                (try clear ho0)
                refine hK.out _ _ ⟨(blk_cell BK286.out 0).trans rfl, (blk_cell BK286.out 1).trans rfl, (blk_cell BK286.out 2).trans rfl, (blk_cell BK286.out 3).trans rfl, (blk_cell BK286.out 4).trans rfl⟩ (fun hHeld => ?_)
                clear hK K
                refine norm_ (a' := ?_) ?_ ?_
                rotate_left
                · show Act.put _ (some 19) _ = _
                  simp only [Act.put, List.setIfInBounds_toArray, List.set_cons_zero, List.set_cons_succ, i64_w, i32_w]
                  rfl
                exact norm_ (by simp only [putAll, Act.put, List.setIfInBounds_toArray, List.set_cons_zero, List.set_cons_succ]) (hCont (v289, .slice Ao35 y291.length co35, v295) _ ⟨hHeld, (by (with_reducible repeat (first | apply Kd.R_alloc | apply Kd.R_drewN | apply Kd.R_drew)); exact Kd.R_mono HO290.out (fun _ hk => hk.2)), (by (with_reducible repeat (first | apply Kd.R_alloc | apply Kd.R_drewN | apply Kd.R_drew)); exact HO293.out), (by (with_reducible repeat (first | apply Kd.R_alloc | apply Kd.R_drewN | apply Kd.R_drew)); exact Kd.R_mono HO296.out (fun _ hk => hk.2)), (by (with_reducible repeat (first | refine blk_drewN ?_ _ | refine blk_drew ?_ | refine blk_alloc ?_ _)); exact BK286.out), (by repeat (first | (with_reducible first | exact HB.out | apply below_alloc | apply pw_below_drewN | apply below_drew1 | refine below_set ?_ GE286.out) | exact HB.out))⟩)
              · skip
                obtain ⟨Ao33, co33, eo33⟩ := Kd.R_slice HO293.out
                (first | subst eo33 | (injection eo33 with f1_ f2_ f3_; have f4_ := f1_.symm; have f5_ := f3_.symm; clear f1_ f2_ f3_; subst f4_; subst f5_))
                refine goes_ Try.func39 (by kernel_rfl) rfl #[.slice Ao33 y291.length co33] (by rfl) rfl rfl (by (try simp only [List.map_toArray, List.map_cons, List.map_nil]); first | done | rfl | (simp only [List.length_drop, List.length_take]; rfl)) ?_
                with_reducible refine (weighhouseref17_numbers.calls k _ _ y291 t294 _ ?side1 ?side2 A4.out).mono ?_
                (case side1 => repeat (first | exact (Kd.R_reads' HO293.out).2.2 | (with_reducible refine Kd.C_alloc ?_ _) | (with_reducible refine Kd.C_drewN ?_ _) | (with_reducible refine Kd.C_drew ?_)))
                (case side2 => exact (Kd.R_reads' HO293.out).2.1)
                rintro e w34 ⟨v295, rfl, ho0, hb⟩
                refine ⟨_, rfl, ?_⟩
                have n0_ := Aside0.mk (Kd.R_below (by (with_reducible repeat (first | apply Kd.R_alloc | apply Kd.R_drewN | apply Kd.R_drew)); exact HO293.out) hb)
                have n1_ := Aside0.mk (Kd.R_lower ho0 (below_size (by repeat (first | (with_reducible first | exact HB.out | apply below_alloc | apply pw_below_drewN | apply below_drew1 | refine below_set ?_ GE286.out) | exact HB.out))))
                have n2_ := Aside0.mk (blk_below (g := gb286) (o := .cells #[.int .i64 a0_0, .int .i64 a0_1, .int .i64 a0_2, .int .i64 a0_3, .slice A0_4 l0_4.length c0_4] 46 (0, 0)) (by (with_reducible repeat (first | refine blk_drewN ?_ _ | refine blk_drew ?_ | refine blk_alloc ?_ _)); exact BK286.out) hb)
                have n3_ := Aside0.mk (below_step (by repeat (first | (with_reducible first | exact HB.out | apply below_alloc | apply pw_below_drewN | apply below_drew1 | refine below_set ?_ GE286.out) | exact HB.out)) hb)
                clear HO293
                clear BK286
                clear HB
                have HO293 := n0_
                have HO296 := n1_
                have BK286 := n2_
                have HB := n3_
                clear n0_ n1_ n2_ n3_
                (try clear hb)
                (try clear hb2)
                (try clear hk)
                (try clear hi)
                (try clear ho0)
                refine hK.out _ _ ⟨(blk_cell BK286.out 0).trans rfl, (blk_cell BK286.out 1).trans rfl, (blk_cell BK286.out 2).trans rfl, (blk_cell BK286.out 3).trans rfl, (blk_cell BK286.out 4).trans rfl⟩ (fun hHeld => ?_)
                clear hK K
                refine norm_ (a' := ?_) ?_ ?_
                rotate_left
                · show Act.put _ (some 19) _ = _
                  simp only [Act.put, List.setIfInBounds_toArray, List.set_cons_zero, List.set_cons_succ, i64_w, i32_w]
                  rfl
                refine one_ (i := 3) (N := some 11) #[true, true, true, true, true, true, true, true, true, true, true, true, false, false] rfl rfl (one_of HT_.out (by kernel_rfl)) (by decide) (fun K hK => ?_)
                refine Kd.R_lit_step (Kd.int .u8) _ 5 ?hg (N := 11) ?hd (xs := ([(a0_0) % 256] : List Int)) (inner := [.int .u8 ((a0_0) % 256)]) (ok := fun _ => True) (okp := fun _ => True) ?hr ?hp (fun _ hk => hk) trivial (Below.refl _ _) (Nat.le_refl _) (by simp) ?_; (case hd => rfl); (case hg => rfl); (case hr => first | (go_simp; done) | (go_simp; rfl)); (case hp => exact (Reps.one (show Kd.M (Kd.int .u8) _ _ _ ((a0_0) % 256) [.int .u8 ((a0_0) % 256)] from rfl) (Reps.none _ _)))
                intro v289 w35 ho36 hb hg_ hnew_
                clear hg_ hnew_
                (first | rw [← Ny288.out] at ho36 | (simp only [Int.reduceToNat] at ho36; rw [← Ny288.out] at ho36))
                have n0_ := Aside0.mk (Kd.R_below (by (with_reducible repeat (first | apply Kd.R_alloc | apply Kd.R_drewN | apply Kd.R_drew)); exact HO293.out) hb)
                have n1_ := Aside0.mk (Kd.R_elder' (by (with_reducible repeat (first | apply Kd.R_alloc | apply Kd.R_drewN | apply Kd.R_drew)); exact HO296.out) (Kd.R_base ho36) hb)
                have n2_ := Aside0.mk (Kd.R_lower (Kd.R_new' ho36 (Kd.R_lt (by (with_reducible repeat (first | apply Kd.R_alloc | apply Kd.R_drewN | apply Kd.R_drew)); exact HO296.out))) (below_size (by repeat (first | (with_reducible first | exact HB.out | apply below_alloc | apply pw_below_drewN | apply below_drew1 | refine below_set ?_ GE286.out) | exact HB.out))))
                have n3_ := Aside0.mk (blk_below (g := gb286) (o := .cells #[.int .i64 a0_0, .int .i64 a0_1, .int .i64 a0_2, .int .i64 a0_3, .slice A0_4 l0_4.length c0_4] 46 (0, 0)) (by (with_reducible repeat (first | refine blk_drewN ?_ _ | refine blk_drew ?_ | refine blk_alloc ?_ _)); exact BK286.out) hb)
                have n4_ := Aside0.mk (below_step (by repeat (first | (with_reducible first | exact HB.out | apply below_alloc | apply pw_below_drewN | apply below_drew1 | refine below_set ?_ GE286.out) | exact HB.out)) hb)
                clear HO293
                clear HO296
                clear BK286
                clear HB
                have HO293 := n0_
                have HO296 := n1_
                have HO290 := n2_
                have BK286 := n3_
                have HB := n4_
                clear n0_ n1_ n2_ n3_ n4_
                clear hb ho36
                refine hK.out _ _ ⟨(blk_cell BK286.out 0).trans rfl, (blk_cell BK286.out 1).trans rfl, (blk_cell BK286.out 2).trans rfl, (blk_cell BK286.out 3).trans rfl, (blk_cell BK286.out 4).trans rfl⟩ (fun hHeld => ?_)
                clear hK K
                refine norm_ (a' := ?_) ?_ ?_
                rotate_left
                · show Act.put _ (some 11) _ = _
                  simp only [Act.put, List.setIfInBounds_toArray, List.set_cons_zero, List.set_cons_succ, i64_w, i32_w]
                  rfl
                exact norm_ (by simp only [putAll, Act.put, List.setIfInBounds_toArray, List.set_cons_zero, List.set_cons_succ]) (hCont (v289, .slice Ao33 y291.length co33, v295) _ ⟨hHeld, (by (with_reducible repeat (first | apply Kd.R_alloc | apply Kd.R_drewN | apply Kd.R_drew)); exact Kd.R_mono HO290.out (fun _ hk => hk.2)), (by (with_reducible repeat (first | apply Kd.R_alloc | apply Kd.R_drewN | apply Kd.R_drew)); exact HO293.out), (by (with_reducible repeat (first | apply Kd.R_alloc | apply Kd.R_drewN | apply Kd.R_drew)); exact Kd.R_mono HO296.out (fun _ hk => hk.2)), (by (with_reducible repeat (first | refine blk_drewN ?_ _ | refine blk_drew ?_ | refine blk_alloc ?_ _)); exact BK286.out), (by repeat (first | (with_reducible first | exact HB.out | apply below_alloc | apply pw_below_drewN | apply below_drew1 | refine below_set ?_ GE286.out) | exact HB.out))⟩)
          rintro ⟨v289, v292, v295⟩ w37 ⟨hS_, h0_, h1_, h2_, h3_, h4_⟩
          have n0_ : Aside0 (Kd.R (Kd.int .u8) 5 w37 w.heap.size (fun k_ => some k_ ≠ (v295 : Value).ownBlock) v289 y288) := ⟨h0_⟩
          have n1_ : Aside0 (Kd.R (Kd.int .i64) 3 w37 w.heap.size (fun _ => True) v292 y291) := ⟨h1_⟩
          have n2_ : Aside0 (Kd.R (Kd.int .u8) 5 w37 w.heap.size (fun k_ => some k_ ≠ (v289 : Value).ownBlock) v295 t294) := ⟨h2_⟩
          have n3_ : Aside0 (w37.heap[gb286]? = some (.cells #[.int .i64 a0_0, .int .i64 a0_1, .int .i64 a0_2, .int .i64 a0_3, .slice A0_4 l0_4.length c0_4] 46 (0, 0))) := ⟨h3_⟩
          have n4_ : Aside0 (Below w.heap.size w w37) := ⟨h4_⟩
          clear BK286
          clear HB
          clear h0_ h1_ h2_ h3_ h4_
          have HO290 := n0_
          have HO293 := n1_
          have HO296 := n2_
          have BK286 := n3_
          have HB := n4_
          clear n0_ n1_ n2_ n3_ n4_
          have hHeld : w37.cell? ⟨gb286, 0, none⟩ = some (.int .i64 a0_0) ∧ w37.cell? ⟨gb286, 1, none⟩ = some (.int .i64 a0_1) ∧ w37.cell? ⟨gb286, 2, none⟩ = some (.int .i64 a0_2) ∧ w37.cell? ⟨gb286, 3, none⟩ = some (.int .i64 a0_3) ∧ w37.cell? ⟨gb286, 4, none⟩ = some (.slice A0_4 l0_4.length c0_4) := hS_
          obtain ⟨Ao39, co39, eo39⟩ := Kd.R_slice HO296.out
          (first | subst eo39 | (injection eo39 with f1_ f2_ f3_; have f4_ := f1_.symm; have f5_ := f3_.symm; clear f1_ f2_ f3_; subst f4_; subst f5_))
          refine norm_ (a' := ?_) ?_ ?_
          rotate_left
          · simp only [putAll, Act.put, List.setIfInBounds_toArray, List.set_cons_zero, List.set_cons_succ]
            rfl
          refine one_ (i := 12) (N := some 20) #[true, true, true, true, true, true, true, true, true, true, true, true, true, false] rfl rfl (one_of HT_.out (by kernel_rfl)) (by decide) (fun K hK => ?_)
          refine Kd.R_append_rows_step (Kd.int .u8) (w0 := w) w.heap.size (by rfl) (.tmp 11) (.tmp 19) 35 5 (.int .u8 0) 1 rfl Try.underlying35 info5 rfl (by decide) (by omega) v289 y288 t294 _ _ _ (fun k_ => some k_ ≠ (.slice Ao39 t294.length co39 : Value).ownBlock) (fun _ => False) rfl rfl ?aO ?aR (fun _ _ h => h) (fun _ h => h.elim) ?aF ?aB ?aS ?aL ?_
          (case aR => repeat (first | exact (Kd.R_reads' HO296.out).2.2 | (with_reducible refine Kd.C_alloc ?_ _) | (with_reducible refine Kd.C_drewN ?_ _) | (with_reducible refine Kd.C_drew ?_)))
          (case aB => exact (by repeat (first | (with_reducible first | exact HB.out | apply below_alloc | apply pw_below_drewN | apply below_drew1 | refine below_set ?_ GE286.out) | exact HB.out)))
          (case aF => exact (fun k_ hk => Kd.fresh' (Kd.R_lt (by (with_reducible repeat (first | apply Kd.R_alloc | apply Kd.R_drewN | apply Kd.R_drew)); exact HO296.out)) k_ hk))
          (case aO => exact (by (with_reducible repeat (first | apply Kd.R_alloc | apply Kd.R_drewN | apply Kd.R_drew)); exact HO290.out))
          (case aS => exact (below_size (by repeat (first | (with_reducible first | exact HB.out | apply below_alloc | apply pw_below_drewN | apply below_drew1 | refine below_set ?_ GE286.out) | exact HB.out))))
          (case aL => have := LMc5.out; omega)
          intro v298 w38 ho hb hg hat
          rw [← Ny297.out] at ho
          have n0_ := Aside0.mk (blk_grown (g := gb286) (o := .cells #[.int .i64 a0_0, .int .i64 a0_1, .int .i64 a0_2, .int .i64 a0_3, .slice A0_4 l0_4.length c0_4] 46 (0, 0)) (by (with_reducible repeat (first | refine blk_drewN ?_ _ | refine blk_drew ?_ | refine blk_alloc ?_ _)); exact BK286.out) hg (Kd.R_ne HO290.out BK286.out (by decide)))
          have n1_ := Aside0.mk (Kd.R_over' (by (with_reducible repeat (first | apply Kd.R_alloc | apply Kd.R_drewN | apply Kd.R_drew)); exact HO293.out) (Kd.R_typed (by (with_reducible repeat (first | apply Kd.R_alloc | apply Kd.R_drewN | apply Kd.R_drew)); exact HO290.out)) (by decide) hg)
          have n2_ := Aside0.mk (Kd.R_after (ok := (fun _ => True)) (by (with_reducible repeat (first | apply Kd.R_alloc | apply Kd.R_drewN | apply Kd.R_drew)); exact Kd.R_mono HO296.out (fun _ hk => ⟨trivial, hk⟩)) hg hat)
          have n3_ := Aside0.mk (hb)
          have n4_ := Aside0.mk (ho)
          clear BK286
          clear HO293
          clear HO296
          clear HB
          clear HO290
          have BK286 := n0_
          have HO293 := n1_
          have HO296 := n2_
          have HB := n3_
          have HO299 := n4_
          clear n0_ n1_ n2_ n3_ n4_
          clear ho hb hg hat
          refine hK.out _ _ ⟨(blk_cell BK286.out 0).trans rfl, (blk_cell BK286.out 1).trans rfl, (blk_cell BK286.out 2).trans rfl, (blk_cell BK286.out 3).trans rfl, (blk_cell BK286.out 4).trans rfl⟩ (fun hHeld => ?_)
          clear hK K
          refine norm_ (a' := ?_) ?_ ?_
          rotate_left
          · show Act.put _ (some 20) _ = _
            simp only [Act.put, List.setIfInBounds_toArray, List.set_cons_zero, List.set_cons_succ, i64_w, i32_w]
            rfl
          refine pure_ (i := 13) (N := some 4) (v := ?_) (a' := ?_) #[true, true, true, true, true, true, true, true, true, true, true, true, true, true] rfl rfl (any_of HT_.out (by kernel_rfl)) (fun _ _ _ h => h) (Or.inl ⟨by rfl, ?_⟩) ?_ ?_
          rotate_left
          · intro w'
            go_simp
            with_reducible rfl
          rotate_left
          · simp only [Act.put, List.setIfInBounds_toArray, List.set_cons_zero, List.set_cons_succ, i64_w, i32_w]
            rfl
          refine done_ (done_of HT_.out (by kernel_rfl)) ?_
          have hcz40_0 : w38.cell? ⟨gb286, 0, none⟩ = some (.int .i64 a0_0) := (blk_cell BK286.out 0).trans rfl
          have hcz40_1 : w38.cell? ⟨gb286, 1, none⟩ = some (.int .i64 a0_1) := (blk_cell BK286.out 1).trans rfl
          have hcz40_2 : w38.cell? ⟨gb286, 2, none⟩ = some (.int .i64 a0_2) := (blk_cell BK286.out 2).trans rfl
          have hcz40_3 : w38.cell? ⟨gb286, 3, none⟩ = some (.int .i64 a0_3) := (blk_cell BK286.out 3).trans rfl
          have hcz40_4 : w38.cell? ⟨gb286, 4, none⟩ = some (.slice A0_4 l0_4.length c0_4) := (blk_cell BK286.out 4).trans rfl
          have hfz40_0 := blk_frozen BK286.out 0
          have hfz40_1 := blk_frozen BK286.out 1
          have hfz40_2 := blk_frozen BK286.out 2
          have hfz40_3 := blk_frozen BK286.out 3
          have hfz40_4 := blk_frozen BK286.out 4
          try go_wp2_with (first | ((with_reducible refine gate_callee (f := 40) rfl ?_); refine goesL_ (some 24) rfl rfl Try.func40 (by kernel_rfl) rfl #[.slice A0_4 l0_4.length c0_4] rfl (by (try simp only [List.map_toArray, List.map_cons, List.map_nil]); first | done | rfl | (simp only [List.length_drop, List.length_take]; rfl)) ?_; (with_reducible refine (weighhouseref17_entries.calls k _ _ l0_4 t300 _ ?side1 ?side2 A6.out).mono ?_); (case side1 => repeat (first | exact (Kd.C_below HR0_4.out HB.out) | (with_reducible refine Kd.C_alloc ?_ _) | (with_reducible refine Kd.C_drewN ?_ _) | (with_reducible refine Kd.C_drew ?_))); (case side2 => exact HC0_4.out); rintro e w41 ⟨v301, rfl, ho0, hb⟩; refine ⟨_, rfl, ?_⟩; have n0_ := Aside0.mk (Kd.R_below (by (with_reducible repeat (first | apply Kd.R_alloc | apply Kd.R_drewN | apply Kd.R_drew)); exact HO293.out) hb); have n1_ := Aside0.mk (Kd.R_elder' (by (with_reducible repeat (first | apply Kd.R_alloc | apply Kd.R_drewN | apply Kd.R_drew)); exact HO296.out) (Kd.R_base ho0) hb); have n2_ := Aside0.mk (Kd.R_elder' (by (with_reducible repeat (first | apply Kd.R_alloc | apply Kd.R_drewN | apply Kd.R_drew)); exact HO299.out) (Kd.R_base ho0) hb); have n3_ := Aside0.mk (Kd.R_lower (Kd.R_new' (Kd.R_new' ho0 (Kd.R_lt (by (with_reducible repeat (first | apply Kd.R_alloc | apply Kd.R_drewN | apply Kd.R_drew)); exact HO296.out))) (Kd.R_lt (by (with_reducible repeat (first | apply Kd.R_alloc | apply Kd.R_drewN | apply Kd.R_drew)); exact HO299.out))) (below_size (by repeat (first | (with_reducible first | exact HB.out | apply below_alloc | apply pw_below_drewN | apply below_drew1 | refine below_set ?_ GE286.out) | exact HB.out)))); have n4_ := Aside0.mk (blk_below (g := gb286) (o := .cells #[.int .i64 a0_0, .int .i64 a0_1, .int .i64 a0_2, .int .i64 a0_3, .slice A0_4 l0_4.length c0_4] 46 (0, 0)) (by (with_reducible repeat (first | refine blk_drewN ?_ _ | refine blk_drew ?_ | refine blk_alloc ?_ _)); exact BK286.out) hb); have n5_ := Aside0.mk (below_step (by repeat (first | (with_reducible first | exact HB.out | apply below_alloc | apply pw_below_drewN | apply below_drew1 | refine below_set ?_ GE286.out) | exact HB.out)) hb); clear HO293; clear HO296; clear HO299; clear BK286; clear HB; have HO293 := n0_; have HO296 := n1_; have HO299 := n2_; have HO302 := n3_; have BK286 := n4_; have HB := n5_; clear n0_ n1_ n2_ n3_ n4_ n5_; (try clear hb); (try clear hb2); (try clear hk); (try clear hi); (try clear ho0); obtain ⟨Ao43, co43, eo43⟩ := Kd.R_slice HO302.out; subst eo43) | ((with_reducible refine gate_builtin (b := .append) (xs := #[.tmp 21, .tmp 24]) rfl ?_); at_builtin; refine Kd.R_append_rows (Kd.int .u8) (w0 := w) w.heap.size rfl (.tmp 21) (.tmp 24) 35 5 (.int .u8 0) 1 rfl Try.underlying35 info5 rfl (by decide) (by omega) v298 y297 t300 _ _ _ (fun k_ => some k_ ≠ (.slice Ao39 t294.length co39 : Value).ownBlock ∧ some k_ ≠ (.slice Ao43 t300.length co43 : Value).ownBlock) (fun _ => False) rfl rfl ?aO ?aR (fun _ _ h => h) (fun _ h => h.elim) ?aF ?aB ?aS ?aL ?_; (case aR => repeat (first | exact (Kd.R_reads' HO302.out).2.2 | (with_reducible refine Kd.C_alloc ?_ _) | (with_reducible refine Kd.C_drewN ?_ _) | (with_reducible refine Kd.C_drew ?_))); (case aB => exact (by repeat (first | (with_reducible first | exact HB.out | apply below_alloc | apply pw_below_drewN | apply below_drew1 | refine below_set ?_ GE286.out) | exact HB.out))); (case aF => exact (fun k_ hk => ⟨Kd.fresh' (Kd.R_lt (by (with_reducible repeat (first | apply Kd.R_alloc | apply Kd.R_drewN | apply Kd.R_drew)); exact HO296.out)) k_ hk, Kd.fresh' (Kd.R_lt (by (with_reducible repeat (first | apply Kd.R_alloc | apply Kd.R_drewN | apply Kd.R_drew)); exact HO302.out)) k_ hk⟩)); (case aO => exact (by (with_reducible repeat (first | apply Kd.R_alloc | apply Kd.R_drewN | apply Kd.R_drew)); exact HO299.out)); (case aS => exact (below_size (by repeat (first | (with_reducible first | exact HB.out | apply below_alloc | apply pw_below_drewN | apply below_drew1 | refine below_set ?_ GE286.out) | exact HB.out)))); (case aL => have := LMc7.out; omega); intro v304 w42 ho hb hg hat; rw [← Ny303.out] at ho; have n0_ := Aside0.mk (blk_grown (g := gb286) (o := .cells #[.int .i64 a0_0, .int .i64 a0_1, .int .i64 a0_2, .int .i64 a0_3, .slice A0_4 l0_4.length c0_4] 46 (0, 0)) (by (with_reducible repeat (first | refine blk_drewN ?_ _ | refine blk_drew ?_ | refine blk_alloc ?_ _)); exact BK286.out) hg (Kd.R_ne HO299.out BK286.out (by decide))); have n1_ := Aside0.mk (Kd.R_over' (by (with_reducible repeat (first | apply Kd.R_alloc | apply Kd.R_drewN | apply Kd.R_drew)); exact HO293.out) (Kd.R_typed (by (with_reducible repeat (first | apply Kd.R_alloc | apply Kd.R_drewN | apply Kd.R_drew)); exact HO299.out)) (by decide) hg); have n2_ := Aside0.mk (Kd.R_after (ok := (fun k_ => some k_ ≠ (.slice Ao43 t300.length co43 : Value).ownBlock)) (by (with_reducible repeat (first | apply Kd.R_alloc | apply Kd.R_drewN | apply Kd.R_drew)); exact Kd.R_mono HO296.out (fun _ hk => ⟨hk.2, hk.1.2⟩)) hg hat); have n3_ := Aside0.mk (Kd.R_after (ok := (fun k_ => some k_ ≠ (.slice Ao39 t294.length co39 : Value).ownBlock)) (by (with_reducible repeat (first | apply Kd.R_alloc | apply Kd.R_drewN | apply Kd.R_drew)); exact Kd.R_mono HO302.out (fun _ hk => ⟨hk.1.2, hk.2⟩)) hg hat); have n4_ := Aside0.mk (hb); have n5_ := Aside0.mk (ho); clear BK286; clear HO293; clear HO296; clear HO302; clear HB; clear HO299; have BK286 := n0_; have HO293 := n1_; have HO296 := n2_; have HO302 := n3_; have HB := n4_; have HO305 := n5_; clear n0_ n1_ n2_ n3_ n4_ n5_; clear ho hb hg hat; obtain ⟨Ao44, co44, eo44⟩ := Kd.R_slice HO305.out; subst eo44))
          go_ret2
          exact ⟨_, by first | rfl | (simp [errW_none, errW_some] <;> rfl) | (simp [*, errW_none, errW_some] <;> rfl), by (with_reducible repeat (first | apply Kd.R_alloc | apply Kd.R_drewN | apply Kd.R_drew)); exact Kd.R_mono HO305.out (fun _ hk => trivial), by repeat (first | (with_reducible first | exact HB.out | apply below_alloc | apply pw_below_drewN | apply below_drew1 | refine below_set ?_ GE286.out) | exact HB.out)⟩
      · rw [if_neg c7] at H
        exact absurd H (by simp)
    · rw [if_neg c5] at H
      exact absurd H (by simp)
  · replace c3 := Bool.eq_false_iff.mpr c3
    subst c3
    have H1 : (some (([] : List Int), 1)) = some (r1, r2) := by rw [if_neg (show ¬ (false = true) by decide)] at H; exact H
    clear H
    have H := H1
    clear H1
    simp only [Option.some.injEq, Prod.mk.injEq] at H
    obtain ⟨rfl, rfl⟩ := H
    go_enter Try.func18, Try.ntmps18
    go_wp2_with (first | ((with_reducible refine gate_dst (N := 1) rfl ?_); refine box_event ?hg (N := 1) ?hd (cs := #[.int .i64 a0_0, .int .i64 a0_1, .int .i64 a0_2, .int .i64 a0_3, .slice A0_4 l0_4.length c0_4]) (t := 46) ?hr ?_; (case hd => rfl); (case hg => rfl); (case hr => first | (go_simp; done) | (go_simp; rfl)); intro gb286 hg w45 hbox hb; have n0_ := Aside0.mk (below_step (by repeat (first | (with_reducible first | exact HB.out | apply below_alloc | apply pw_below_drewN | apply below_drew1) | exact HB.out)) hb); have n1_ := Aside0.mk (hbox); have n2_ := Aside0.mk ((by rw [hg]; exact (below_size (by repeat (first | (with_reducible first | exact HB.out | apply below_alloc | apply pw_below_drewN | apply below_drew1) | exact HB.out))) : w.heap.size ≤ gb286)); have n3_ := Aside0.mk ((by rw [hg]; exact (below_size (by repeat (first | (with_reducible first | exact HB.out | apply below_alloc | apply pw_below_drewN | apply below_drew1) | exact HB.out))) : w.heap.size ≤ gb286)); clear HB; have HB := n0_; have BK286 := n1_; have GW286 := n2_; have GE286 := n3_; clear n0_ n1_ n2_ n3_; clear hb hbox hg; have hcz46_0 : w45.cell? ⟨gb286, 0, none⟩ = some (.int .i64 a0_0) := (blk_cell BK286.out 0).trans rfl; have hcz46_1 : w45.cell? ⟨gb286, 1, none⟩ = some (.int .i64 a0_1) := (blk_cell BK286.out 1).trans rfl; have hcz46_2 : w45.cell? ⟨gb286, 2, none⟩ = some (.int .i64 a0_2) := (blk_cell BK286.out 2).trans rfl; have hcz46_3 : w45.cell? ⟨gb286, 3, none⟩ = some (.int .i64 a0_3) := (blk_cell BK286.out 3).trans rfl; have hcz46_4 : w45.cell? ⟨gb286, 4, none⟩ = some (.slice A0_4 l0_4.length c0_4) := (blk_cell BK286.out 4).trans rfl; have hfz46_0 := blk_frozen BK286.out 0; have hfz46_1 := blk_frozen BK286.out 1; have hfz46_2 := blk_frozen BK286.out 2; have hfz46_3 := blk_frozen BK286.out 3; have hfz46_4 := blk_frozen BK286.out 4) | ((with_reducible refine gate_callee (f := 22) rfl ?_); refine goesL_ (some 6) rfl rfl Try.func22 (by kernel_rfl) rfl #[.agg #[.int .i64 a0_0, .int .i64 a0_1, .int .i64 a0_2, .int .i64 a0_3, .slice A0_4 l0_4.length c0_4]] rfl (by (try simp only [List.map_toArray, List.map_cons, List.map_nil]); first | done | rfl | (simp only [List.length_drop, List.length_take]; rfl)) ?_; (with_reducible refine (weighhouseref17_RightRecord.calls k a0_0 a0_1 a0_2 a0_3 _ _ l0_4 false _ ?side1 ?side2 A2.out).mono ?_); (case side1 => repeat (first | exact (Kd.C_below HR0_4.out HB.out) | (with_reducible refine Kd.C_alloc ?_ _) | (with_reducible refine Kd.C_drewN ?_ _) | (with_reducible refine Kd.C_drew ?_))); (case side2 => exact HC0_4.out); rintro e w47 ⟨rfl, hb⟩; refine ⟨_, rfl, ?_⟩; have n0_ := Aside0.mk (blk_below (g := gb286) (o := .cells #[.int .i64 a0_0, .int .i64 a0_1, .int .i64 a0_2, .int .i64 a0_3, .slice A0_4 l0_4.length c0_4] 46 (0, 0)) (by (with_reducible repeat (first | refine blk_drewN ?_ _ | refine blk_drew ?_ | refine blk_alloc ?_ _)); exact BK286.out) hb); have n1_ := Aside0.mk (below_step (by repeat (first | (with_reducible first | exact HB.out | apply below_alloc | apply pw_below_drewN | apply below_drew1 | refine below_set ?_ GE286.out) | exact HB.out)) hb); clear BK286; clear HB; have BK286 := n0_; have HB := n1_; clear n0_ n1_; (try clear hb); (try clear hb2); (try clear hk); (try clear hi)))
    go_ret2
    exact ⟨_, by first | rfl | (simp [errW_none, errW_some] <;> rfl) | (simp [*, errW_none, errW_some] <;> rfl), by first | exact Kd.R_nil _ _ _ _ _ | exact Kd.N_nil _ _ _ _ _ | exact Kd.V_nil _ _ _ _ _ | exact Kd.Q_nil _ _ _ _ _ | exact Kd.S_nil _ _ _ _ _, by repeat (first | (with_reducible first | exact HB.out | apply below_alloc | apply pw_below_drewN | apply below_drew1 | refine below_set ?_ GE286.out) | exact HB.out)⟩

end Go.Proofs.Ytlmlkcobkmhmbaa.Q
end

section
-- written by hprint.py (a program of these sessions) out of the translation; Lean checks it
namespace Go.Proofs.Ytlmlkcobkmhmbaa.Q
open Go.RowKit Go.Proofs.YtlmlkcobkmhmbaaW.Hb Go.Proofs.YtlmlkcobkmhmbaaW.PrintWords Go.Proofs.YtlmlkcobkmhmbaaW.PrintLast Go.Proofs.YtlmlkcobkmhmbaaW.PrintMore
attribute [local go_sem] max2_int min2_int max_two min_two max_three min_three max_four min_four   -- for this text's walks alone
set_option linter.unusedVariables false
set_option linter.unusedSimpArgs false

/-! ### wire_Reader_Left: function 69, by hand -/
set_option maxRecDepth 100000 in
theorem wire_Reader_Left.calls (S : Nat → Prop) (g : Nat) (xs : List Int) (ev : Int) (w : World) (hR : Rd w S g xs ev) :
    Calls Try.prog 69 #[.pointer (some ⟨g, 0, none⟩)] w fun e w' => e = .returned (.int .i64 (xs.length : Int)) ∧ w' = w := by
  obtain ⟨A, c, hb, hc, hS, hA, hC, hx⟩ := hR
  have HB := Aside0.mk hb
  clear hb hC hx hA
  go_enter Try.func69, Try.ntmps69
  go_wp2_with (first | (go_at_call 78; (with_reducible refine (wire_Reader_none.calls g _ _ true _ HB.out).mono ?_); rintro e2 w2 ⟨rfl, hw2⟩; subst w2) | (go_at_call 79; (with_reducible refine (wire_bytes_Left.calls g A xs.length c _ (HB.out.cell 0)).mono ?_); rintro e2 w2 ⟨rfl, hw2⟩; subst w2))
  go_ret
  exact ⟨rfl, rfl⟩


end Go.Proofs.Ytlmlkcobkmhmbaa.Q
end

section
-- written by hprint.py (a program of these sessions) out of the translation; Lean checks it
namespace Go.Proofs.Ytlmlkcobkmhmbaa.Q
open Go.RowKit Go.Proofs.YtlmlkcobkmhmbaaW.Hb Go.Proofs.YtlmlkcobkmhmbaaW.PrintWords Go.Proofs.YtlmlkcobkmhmbaaW.PrintLast Go.Proofs.YtlmlkcobkmhmbaaW.PrintMore
attribute [local go_sem] max2_int min2_int max_two min_two max_three min_three max_four min_four   -- for this text's walks alone
set_option linter.unusedVariables false
set_option linter.unusedSimpArgs false

/-! ### wire_Reader_Err: function 67, by hand -/
set_option maxRecDepth 100000 in
theorem wire_Reader_Err.calls (S : Nat → Prop) (g : Nat) (xs : List Int) (ev : Int) (w : World) (hR : Rd w S g xs ev) :
    Calls Try.prog 67 #[.pointer (some ⟨g, 0, none⟩)] w fun e w' => e = .returned (.int .i64 ev) ∧ w' = w := by
  obtain ⟨A, c, hb, hc, hS, hA, hC, hx⟩ := hR
  have HB := Aside0.mk hb
  have h2 : w.cell? ⟨g, 2, none⟩ = some (.int .i64 ev) := hb.cell 2
  clear hb hC hx hA
  go_enter Try.func67, Try.ntmps67
  go_wp2_with (go_at_call 78; (with_reducible refine (wire_Reader_none.calls g _ _ true _ HB.out).mono ?_); rintro e2 w2 ⟨rfl, hw2⟩; subst w2)
  go_ret
  exact ⟨rfl, rfl⟩


end Go.Proofs.Ytlmlkcobkmhmbaa.Q
end

section
-- written by hprint.py (a program of these sessions) out of the translation; Lean checks it
namespace Go.Proofs.Ytlmlkcobkmhmbaa.Q
open Go.RowKit Go.Proofs.YtlmlkcobkmhmbaaW.Hb Go.Proofs.YtlmlkcobkmhmbaaW.PrintWords Go.Proofs.YtlmlkcobkmhmbaaW.PrintLast Go.Proofs.YtlmlkcobkmhmbaaW.PrintMore
attribute [local go_sem] max2_int min2_int max_two min_two max_three min_three max_four min_four   -- for this text's walks alone
set_option linter.unusedVariables false
set_option linter.unusedSimpArgs false

/-! ### wire_Reader_Done: function 45, by hand -/
def rDone (xs : List Int) (e : Int) : Int := if e ≠ 0 then e else if 0 < xs.length then 21 else 0
set_option maxRecDepth 100000 in
theorem wire_Reader_Done.calls (S : Nat → Prop) (g : Nat) (xs : List Int) (ev : Int) (w : World) (hR : Rd w S g xs ev) :
    Calls Try.prog 45 #[.pointer (some ⟨g, 0, none⟩)] w fun e w' => e = .returned (.int .i64 (rDone xs ev)) ∧ w' = w := by
  have HR := Aside0.mk hR
  clear hR
  by_cases he : ev ≠ 0
  · have HS := Aside0.mk (show rDone xs ev = ev from if_pos he)
    have d1 : (ev == 0) = false := by simp [he]
    have d2 : (ev != 0) = true := by simp [he]
    clear he
    go_enter Try.func45, Try.ntmps45
    go_wp2_with (go_at_call 67; (with_reducible refine (wire_Reader_Err.calls S g xs ev _ HR.out).mono ?_); rintro e2 w2 ⟨rfl, hw2⟩; subst w2)
    go_ret
    rw [HS.out]
    exact ⟨rfl, rfl⟩
  · obtain rfl : ev = 0 := by omega
    by_cases h1 : 0 < xs.length
    · have HS := Aside0.mk (show rDone xs 0 = 21 by unfold rDone; rw [if_neg (by decide), if_pos h1])
      clear he
      go_enter Try.func45, Try.ntmps45
      go_wp2_with (first | (go_at_call 67; (with_reducible refine (wire_Reader_Err.calls S g xs 0 _ HR.out).mono ?_); rintro e2 w2 ⟨rfl, hw2⟩; subst w2) | (go_at_call 69; (with_reducible refine (wire_Reader_Left.calls S g xs 0 _ HR.out).mono ?_); rintro e2 w2 ⟨rfl, hw2⟩; subst w2))
      go_ret
      rw [HS.out]
      exact ⟨rfl, rfl⟩
    · have HS := Aside0.mk (show rDone xs 0 = 0 by unfold rDone; rw [if_neg (by decide), if_neg h1])
      have h2 : xs.length ≤ 0 := by omega
      obtain rfl : xs = [] := List.eq_nil_of_length_eq_zero (by omega)
      clear he h1
      go_enter Try.func45, Try.ntmps45
      go_wp2_with (first | (go_at_call 67; (with_reducible refine (wire_Reader_Err.calls S g [] 0 _ HR.out).mono ?_); rintro e2 w2 ⟨rfl, hw2⟩; subst w2) | (go_at_call 69; (with_reducible refine (wire_Reader_Left.calls S g [] 0 _ HR.out).mono ?_); rintro e2 w2 ⟨rfl, hw2⟩; subst w2))
      go_ret
      rw [HS.out]
      exact ⟨rfl, rfl⟩


end Go.Proofs.Ytlmlkcobkmhmbaa.Q
end

section
-- written by hprint.py (a program of these sessions) out of the translation; Lean checks it
namespace Go.Proofs.Ytlmlkcobkmhmbaa.Q
open Go.RowKit Go.Proofs.YtlmlkcobkmhmbaaW.Hb Go.Proofs.YtlmlkcobkmhmbaaW.PrintWords Go.Proofs.YtlmlkcobkmhmbaaW.PrintLast Go.Proofs.YtlmlkcobkmhmbaaW.PrintMore
attribute [local go_sem] max2_int min2_int max_two min_two max_three min_three max_four min_four   -- for this text's walks alone
set_option linter.unusedVariables false
set_option linter.unusedSimpArgs false

/-! ### wire_NewReader: function 41, by hand -/
set_option maxRecDepth 100000 in
theorem wire_NewReader.calls (A : Option Addr) (c : Nat) (l : List Int) (w : World) (hr : (Kd.int .u8).C w A l.length l) (hc : l.length ≤ c) (hl : l.length * 1 ≤ 140737488355328) (hx : ∀ x ∈ l, 0 ≤ x ∧ x ≤ 255) :
    Calls Try.prog 41 #[.slice A l.length c] w fun e w' => ∃ g, e = .returned (.pointer (some ⟨g, 0, none⟩)) ∧ Rd w' (fun k => w.heap.size ≤ k ∧ k < w'.heap.size) g l 0 ∧ w.heap.size ≤ g ∧ Below w.heap.size w w' := by
  have HC := Aside0.mk (slices_Clone_byte_byte.walk A l.length c l w rfl hr hc hl)
  have HX := Aside0.mk hx
  clear hr hx
  go_enter Try.func41, Try.ntmps41
  go_wp2_with (go_at_call 64; (with_reducible refine HC.out.mono ?_); rintro e2 w2 ⟨v2, rfl, hR2, hB2⟩; obtain ⟨A2, c2, rfl, hc2, hC2⟩ := Kd.R_reads hR2; have HR2 := Aside0.mk (Kd.R_bound hR2); have HB2 := Aside0.mk hB2; have HC2 := Aside0.mk hC2; clear hR2 hB2 hC2)
  go_ret
  have hs := HB2.out.size
  refine ⟨w2.heap.size, rfl, ⟨A2, c2, Blk.new w2 _ _, hc2, ⟨hs, by simp⟩, fun ad e => ?_, Kd.C_alloc HC2.out _, HX.out⟩, hs, HB2.out.alloc hs _⟩
  subst e
  have hb := HR2.out.1 ad.block rfl
  have h1 := hb.2.1
  have h2 := hb.2.2.1
  refine ⟨⟨h1, ?_⟩, by omega, ?_⟩ <;> (simp; omega)


end Go.Proofs.Ytlmlkcobkmhmbaa.Q
end

section
-- written by hprint.py (a program of these sessions) out of the translation; Lean checks it
namespace Go.Proofs.Ytlmlkcobkmhmbaa.Q
open Go.RowKit Go.Proofs.YtlmlkcobkmhmbaaW.Hb Go.Proofs.YtlmlkcobkmhmbaaW.PrintWords Go.Proofs.YtlmlkcobkmhmbaaW.PrintLast Go.Proofs.YtlmlkcobkmhmbaaW.PrintMore
attribute [local go_sem] max2_int min2_int max_two min_two max_three min_three max_four min_four   -- for this text's walks alone
set_option linter.unusedVariables false
set_option linter.unusedSimpArgs false

/-! ### wire_Reader_Text: function 68, by hand -/
theorem or_i64 (a b : Nat) (ha : a < 256) (hb : b < 256) : Go.bits .or .i64 ((a : Int) * 256) (b : Int) = ((a * 256 + b : Nat) : Int) := by
  have h1 : (BitVec.ofInt 64 (((a * 256 : Nat) : Int))).toNat = a * 256 := by
    rw [BitVec.ofInt_natCast, BitVec.toNat_ofNat]; exact Nat.mod_eq_of_lt (by omega)
  have h2 : (BitVec.ofInt 64 (b : Int)).toNat = b := by
    rw [BitVec.ofInt_natCast, BitVec.toNat_ofNat]; exact Nat.mod_eq_of_lt (by omega)
  have h3 := orB a b hb
  show IntKind.i64.wrap ((BitVec.ofInt 64 ((a : Int) * 256) ||| BitVec.ofInt 64 (b : Int)).toNat : Int) = _
  rw [show ((a : Int) * 256) = ((a * 256 : Nat) : Int) by omega, BitVec.toNat_or, h1, h2, h3]
  rw [i64_w]
  exact wrapI (n := ((a * 256 + b : Nat) : Int)) (by omega) (by omega)
def tlen (xs : List Int) : Nat := (rd xs (0 : Nat) * 256 + rd xs (1 : Nat)).toNat
def rText (xs : List Int) (e : Int) : ByteArray × List Int × Int := if e ≠ 0 then (ByteArray.empty, xs, e) else if xs.length < 2 then (ByteArray.empty, xs, 20) else if xs.length < 2 + tlen xs then (ByteArray.empty, xs, 20) else (strOfNums ((xs.drop 2).take (tlen xs)), xs.drop (2 + tlen xs), 0)
theorem add1 (ad : Addr) : ad.add 1 = ⟨ad.block, ad.off + 1, none⟩ := by simp [Addr.add]
theorem add0 (ad : Addr) : ad.add ((0 : Nat) : Int).toNat = ad := by cases ad; simp [Addr.add]
set_option maxRecDepth 100000 in
set_option maxHeartbeats 2000000 in
theorem wire_Reader_Text.calls (S : Nat → Prop) (g : Nat) (xs : List Int) (ev : Int) (w : World) (hR : Rd w S g xs ev) :
    Calls Try.prog 68 #[.pointer (some ⟨g, 0, none⟩)] w fun e w' => e = .returned (.string (rText xs ev).1) ∧ Rd w' S g (rText xs ev).2.1 (rText xs ev).2.2 ∧ Fr w w' (fun k => k = g) := by
  have qT : ∀ (w : World) (a : Option Addr) (n c n' c' : Nat), (binOp .eql 35 (.slice a n c) (.slice none n' c')).run Try.prog w = .ok (.bool a.isNone) w := fun w a n c n' c' => Lib.run_eql_slice_nil w _ _ a n c n' c' Try.underlying35
  have HR := Aside0.mk hR
  obtain ⟨A0, c0, hb, hc, hS, hA, hC, hx⟩ := hR
  have HB := Aside0.mk hb
  have h0 : w.cell? ⟨g, 0, none⟩ = some (.slice A0 xs.length c0) := hb.cell 0
  have HC := Aside0.mk hC
  have HA := Aside0.mk hA
  have HX := Aside0.mk hx
  have hm : xs.length ≤ 9223372036854775807 := hC.2.1
  clear hb hC hA hx
  by_cases he : ev ≠ 0
  · have HS := Aside0.mk (show rText xs ev = (ByteArray.empty, xs, ev) from if_pos he)
    have HE := Aside0.mk he
    clear he
    go_enter Try.func68, Try.ntmps68
    go_wp2_with (first | (go_at_call 78; (with_reducible refine (wire_Reader_none.calls g _ _ true _ HB.out).mono ?_); rintro e2 w2 ⟨rfl, hw2⟩; subst w2) | (go_at_call 65; (with_reducible refine (wire_Reader_take.calls_err S g xs ev 2 _ HR.out HE.out).mono ?_); rintro e2 w2 ⟨rfl, hw2⟩; subst w2))
    go_ret
    rw [HS.out]
    exact ⟨rfl, HR.out, Fr.of_below (Below.refl _ _) _⟩
  obtain rfl : ev = 0 := by omega
  by_cases h1 : xs.length < 2
  · have HS := Aside0.mk (show rText xs 0 = (ByteArray.empty, xs, 20) by unfold rText; rw [if_neg (by decide), if_pos h1])
    have HL := Aside0.mk (show (xs.length : Int) < 2 by omega)
    clear he h1
    go_enter Try.func68, Try.ntmps68
    go_wp2_with (first | (go_at_call 78; (with_reducible refine (wire_Reader_none.calls g _ _ true _ HB.out).mono ?_); rintro e2 w2 ⟨rfl, hw2⟩; subst w2) | (go_at_call 65; (with_reducible refine (wire_Reader_take.calls_end S g xs 2 _ HR.out HL.out).mono ?_); rintro e2 w2 ⟨rfl, hR2, hF2⟩; have HR2 := Aside0.mk hR2; have HF2 := Aside0.mk hF2; clear hR2 hF2))
    go_ret
    rw [HS.out]
    exact ⟨rfl, HR2.out, HF2.out⟩
  have hz0 := rd_in HX.out 0 (by omega)
  have hz1 := rd_in HX.out 1 (by omega)
  have hr0 := rd_take (xs := xs) (n := 2) (i := 0) (by omega)
  have hr1 := rd_take (xs := xs) (n := 2) (i := 1) (by omega)
  have hyl : (xs.take 2).length = 2 := by rw [List.length_take]; omega
  have hzl : (xs.drop 2).length = xs.length - 2 := by rw [List.length_drop]
  have HL := Aside0.mk (show 2 ≤ xs.length by omega)
  have hn : tlen xs = (rd xs (0 : Nat) * 256 + rd xs (1 : Nat)).toNat := rfl
  have HS1 := Aside0.mk (show xs.length < 2 + tlen xs → rText xs 0 = (ByteArray.empty, xs, 20) from fun h => by unfold rText; rw [if_neg (by decide), if_neg h1, if_pos h])
  have HS2 := Aside0.mk (show ¬ xs.length < 2 + tlen xs → rText xs 0 = (strOfNums ((xs.drop 2).take (tlen xs)), (xs.drop 2).drop (tlen xs), 0) from fun h => by unfold rText; rw [if_neg (by decide), if_neg h1, if_neg h, List.drop_drop])
  obtain ⟨x0, hx0⟩ : ∃ x0, rd xs (0 : Nat) = x0 := ⟨_, rfl⟩
  obtain ⟨x1, hx1⟩ : ∃ x1, rd xs (1 : Nat) = x1 := ⟨_, rfl⟩
  obtain ⟨y, hy⟩ : ∃ y, xs.take 2 = y := ⟨_, rfl⟩
  obtain ⟨z, hz⟩ : ∃ z, xs.drop 2 = z := ⟨_, rfl⟩
  obtain ⟨n, hnn⟩ : ∃ n, tlen xs = n := ⟨_, rfl⟩
  have HY := Aside0.mk hy
  have HZ := Aside0.mk hz
  rw [hx0] at hz0 hr0 hn
  rw [hx1] at hz1 hr1 hn
  rw [hy] at hr0 hr1 hyl
  rw [hz] at hzl HS2
  rw [hnn] at hn HS1 HS2
  obtain ⟨p1, p2⟩ := hz0
  obtain ⟨p3, p4⟩ := hz1
  have hy2 : 2 ≤ y.length := by omega
  have HR0 := Aside0.mk hr0
  have HR1 := Aside0.mk hr1
  have HZL := Aside0.mk hzl
  obtain ⟨a, rfl⟩ := Int.eq_ofNat_of_zero_le p1
  obtain ⟨b, rfl⟩ := Int.eq_ofNat_of_zero_le p3
  have hor := or_i64 a b (by omega) (by omega)
  have hn' : a * 256 + b = n := by omega
  rw [hn'] at hor
  have HOR := Aside0.mk hor
  clear he h1 hx0 hx1 hy hz hnn hr0 hr1 hyl hzl hor hn hn'
  by_cases h3 : xs.length < 2 + n
  · have HS := Aside0.mk (HS1.out h3)
    have HL3 := Aside0.mk (show (z.length : Int) < (n : Int) by have := HZL.out; have := HL.out; omega)
    clear HS1 HS2 h3
    go_enter Try.func68, Try.ntmps68
    go_upto_region 5 with (first | (go_at_call 78; (with_reducible refine (wire_Reader_none.calls g _ _ true _ HB.out).mono ?_); rintro e2 w2 ⟨rfl, hw2⟩; subst w2) | (go_at_call 65; (with_reducible refine (wire_Reader_take.calls_ok S g xs 2 2 rfl y z HY.out HZ.out _ HR.out HL.out).mono ?_); rintro e2 w2 ⟨A2, c2, rfl, hc2, hC2, hA2, hR2, hF2⟩; have HR2 := Aside0.mk hR2; have HF2 := Aside0.mk hF2; have HC2 := Aside0.mk hC2; clear hR2 hF2 hC2 hA2))
    obtain ⟨ad, e, hcd0⟩ := Kd.at_int HC2.out (0 : Nat) (by omega) (by omega)
    subst e
    obtain ⟨ad', e, hcd1⟩ := Kd.at_int HC2.out (1 : Nat) (by omega) (by omega)
    cases e
    rw [HR0.out, add0] at hcd0
    rw [HR1.out, Int.toNat_natCast, add1] at hcd1
    have q0 : 0 < y.length := by omega
    have q1 : 1 < (y.length : Int) := by omega
    replace hcd0 : w2.drew.cell? ad = some (.int .u8 a) := hcd0
    replace hcd1 : w2.drew.cell? ⟨ad.block, ad.off + 1, none⟩ = some (.int .u8 b) := hcd1
    have HRd2 := Aside0.mk (HR2.out.below ((Below.refl _ _).drew))
    have HFd2 := Aside0.mk (HF2.out.then_ (Fr.of_below ((Below.refl _ _).drew) (fun k => k = g)) (fun _ h => .inl h))
    have hor := HOR.out
    have hw1 : wrap64 (a : Int) = (a : Int) := wrapI (by omega) (by omega)
    have hw2 : wrap64 ((a : Int) * 256) = (a : Int) * 256 := wrapI (by omega) (by omega)
    have hw3 : wrap64 (b : Int) = (b : Int) := wrapI (by omega) (by omega)
    clear HC2 HR2 HF2
    go_upto_region 7 with (fail)
    refine start_ (n := 13) (S := fun w' => w'.cell? ad = some (.int .u8 a) ∧ w'.cell? ⟨ad.block, ad.off + 1, none⟩ = some (.int .u8 b)) (ds := [11]) #[false, false, false, false, false, false, false, false, false, false, false, false, false] (by kernel_rfl) rfl rfl ⟨hcd0, hcd1⟩ (fun hHeld => ?_)
    generalize w2.drew = wd at HRd2 HFd2 hcd0 hcd1 hHeld ⊢
    refine pure_ (i := 0) (N := some 17) (v := ?_) (a' := ?_) #[true, false, false, false, false, false, false, false, false, false, false, false, false] rfl rfl (by kernel_rfl) (fun _ _ _ h => h) (Or.inl ⟨by rfl, ?_⟩) ?_ ?_
    rotate_left
    · intro w'
      go_simp
      with_reducible rfl
    rotate_left
    · simp only [Act.put, List.setIfInBounds_toArray, List.set_cons_zero, List.set_cons_succ, i64_w, i32_w]
      rfl
    refine pure_ (i := 1) (N := some 18) (v := ?_) (a' := ?_) #[true, true, false, false, false, false, false, false, false, false, false, false, false] rfl rfl (by kernel_rfl) (fun _ _ _ h => h) (Or.inl ⟨by rfl, ?_⟩) ?_ ?_
    rotate_left
    · intro w'
      go_simp
      with_reducible rfl
    rotate_left
    · simp only [Act.put, List.setIfInBounds_toArray, List.set_cons_zero, List.set_cons_succ, i64_w, i32_w]
      rfl
    refine pure_ (i := 2) (N := some 19) (v := ?_) (a' := ?_) #[true, true, true, false, false, false, false, false, false, false, false, false, false] rfl rfl (by kernel_rfl) (fun _ _ _ h => h) (Or.inl ⟨by rfl, ?_⟩) ?_ ?_
    rotate_left
    · intro w'
      go_simp
      with_reducible rfl
    rotate_left
    · simp only [Act.put, List.setIfInBounds_toArray, List.set_cons_zero, List.set_cons_succ, i64_w, i32_w]
      rfl
    refine pure_ (i := 6) (N := some 23) (v := ?_) (a' := ?_) #[true, true, true, false, false, false, true, false, false, false, false, false, false] rfl rfl (by kernel_rfl) (fun _ _ _ h => h) (Or.inl ⟨by rfl, ?_⟩) ?_ ?_
    rotate_left
    · intro w'
      go_simp
      with_reducible rfl
    rotate_left
    · simp only [Act.put, List.setIfInBounds_toArray, List.set_cons_zero, List.set_cons_succ, i64_w, i32_w]
      rfl
    refine pure_ (i := 7) (N := some 24) (v := ?_) (a' := ?_) #[true, true, true, false, false, false, true, true, false, false, false, false, false] rfl rfl (by kernel_rfl) (fun _ _ _ h => h) (Or.inl ⟨by rfl, ?_⟩) ?_ ?_
    rotate_left
    · intro w'
      go_simp
      with_reducible rfl
    rotate_left
    · simp only [Act.put, List.setIfInBounds_toArray, List.set_cons_zero, List.set_cons_succ, i64_w, i32_w]
      rfl
    refine take_ (i := 3) (N := some 20) (v := ?_) (a' := ?_) #[true, true, true, true, false, false, true, true, false, false, false, false, false] rfl rfl (by kernel_rfl) (fun _ _ _ h => h) (Or.inl ⟨by rfl, ?_⟩) hHeld ?_ ?_
    rotate_left
    · rintro w' ⟨s0, s1⟩
      go_simp
      with_reducible rfl
    rotate_left
    · simp only [Act.put, List.setIfInBounds_toArray, List.set_cons_zero, List.set_cons_succ, i64_w, i32_w]
      rfl
    refine pure_ (i := 4) (N := some 21) (v := ?_) (a' := ?_) #[true, true, true, true, true, false, true, true, false, false, false, false, false] rfl rfl (by kernel_rfl) (fun _ _ _ h => h) (Or.inl ⟨by rfl, ?_⟩) ?_ ?_
    rotate_left
    · intro w'
      go_simp
      with_reducible rfl
    rotate_left
    · simp only [Act.put, List.setIfInBounds_toArray, List.set_cons_zero, List.set_cons_succ, i64_w, i32_w]
      rfl
    refine pure_ (i := 5) (N := some 22) (v := ?_) (a' := ?_) #[true, true, true, true, true, true, true, true, false, false, false, false, false] rfl rfl (by kernel_rfl) (fun _ _ _ h => h) (Or.inl ⟨by rfl, ?_⟩) ?_ ?_
    rotate_left
    · intro w'
      go_simp
      with_reducible rfl
    rotate_left
    · simp only [Act.put, List.setIfInBounds_toArray, List.set_cons_zero, List.set_cons_succ, i64_w, i32_w]
      rfl
    refine take_ (i := 8) (N := some 25) (v := ?_) (a' := ?_) #[true, true, true, true, true, true, true, true, true, false, false, false, false] rfl rfl (by kernel_rfl) (fun _ _ _ h => h) (Or.inl ⟨by rfl, ?_⟩) hHeld ?_ ?_
    rotate_left
    · rintro w' ⟨s0, s1⟩
      go_simp
      with_reducible rfl
    rotate_left
    · simp only [Act.put, List.setIfInBounds_toArray, List.set_cons_zero, List.set_cons_succ, i64_w, i32_w]
      rfl
    refine pure_ (i := 9) (N := some 26) (v := ?_) (a' := ?_) #[true, true, true, true, true, true, true, true, true, true, false, false, false] rfl rfl (by kernel_rfl) (fun _ _ _ h => h) (Or.inl ⟨by rfl, ?_⟩) ?_ ?_
    rotate_left
    · intro w'
      go_simp
      with_reducible rfl
    rotate_left
    · simp only [Act.put, List.setIfInBounds_toArray, List.set_cons_zero, List.set_cons_succ, i64_w, i32_w]
      rfl
    refine pure_ (i := 10) (N := some 27) (v := ?_) (a' := ?_) #[true, true, true, true, true, true, true, true, true, true, true, false, false] rfl rfl (by kernel_rfl) (fun _ _ _ h => h) (Or.inl ⟨by rfl, ?_⟩) ?_ ?_
    rotate_left
    · intro w'
      go_simp
      with_reducible rfl
    rotate_left
    · simp only [Act.put, List.setIfInBounds_toArray, List.set_cons_zero, List.set_cons_succ, i64_w, i32_w]
      rfl
    refine last_ (i := 11) (N := some 28) #[true, true, true, true, true, true, true, true, true, true, true, true, false] rfl rfl (by kernel_rfl) (by decide) (fun K hK => ?_)
    refine goes_ Try.func65 (by kernel_rfl) rfl #[.pointer (some ⟨g, 0, none⟩), .int .i64 (n : Int)] (by rfl) rfl rfl (by simp only [List.map_toArray, List.map_cons, List.map_nil]; rfl) ?_
    with_reducible refine (wire_Reader_take.calls_end S g z n _ HRd2.out HL3.out).mono ?_
    rintro e w4 ⟨rfl, hR4, hF4⟩
    refine ⟨_, rfl, ?_⟩
    have HR4 := Aside0.mk hR4
    have HF4 := Aside0.mk (HFd2.out.then_ hF4 (fun _ h => .inl h))
    clear hR4 hF4
    refine hK.out _ _ ?_
    clear hK K
    refine norm_ (a' := ?_) ?_ ?_
    rotate_left
    · show Act.put _ (some 28) _ = _
      simp only [Act.put, List.setIfInBounds_toArray, List.set_cons_zero, List.set_cons_succ, i64_w, i32_w]
      rfl
    refine pure_ (i := 12) (N := some 5) (v := ?_) (a' := ?_) #[true, true, true, true, true, true, true, true, true, true, true, true, true] rfl rfl (by kernel_rfl) (fun _ _ _ h => h) (Or.inl ⟨by rfl, ?_⟩) ?_ ?_
    rotate_left
    · intro w'
      go_simp
      with_reducible rfl
    rotate_left
    · simp only [Act.put, List.setIfInBounds_toArray, List.set_cons_zero, List.set_cons_succ, i64_w, i32_w]
      rfl
    refine done_ (by kernel_rfl) ?_
    clear hHeld hcd0 hcd1 hor hw1 hw2 hw3 HRd2
    obtain ⟨A4, c4, hb4, _, _, _, _, _⟩ := HR4.out
    have HB4 := Aside0.mk hb4
    have k0 : w4.cell? ⟨g, 0, none⟩ = some (.slice A4 z.length c4) := hb4.cell 0
    have k2 : w4.cell? ⟨g, 2, none⟩ = some (.int .i64 20) := hb4.cell 2
    have f0 : w4.frozen? ⟨g, 0, none⟩ = false := hb4.frozen 0
    have hcvn : ∀ (W : World) (c : Nat), (convert 35 9 (.slice none 0 c)).run Try.prog W = .ok (.string ByteArray.empty) W := fun W c => Kd.C_string (P := Try.prog) (src := 35) (dst := 9) (e := 5) (c := c) Try.underlying35 Try.underlying5 Try.underlying9 (Kd.C_nil (Kd.int .u8) W)
    clear hb4
    go_wp2
    go_ret
    rw [HS.out]
    have hA4 : ∀ ad, A0 = some ad → ad.block ≠ g ∧ ad.block < w4.heap.size := fun ad e => ⟨(HA.out ad e).2.1, Nat.lt_of_lt_of_le (HA.out ad e).2.2 HF4.out.1.size⟩
    have hC4 : (Kd.int .u8).C w4 A0 xs.length xs := C_keptb HC.out HF4.out.2 (fun ad e => ⟨(HA.out ad e).2.1, (HA.out ad e).2.2⟩)
    exact ⟨rfl, ⟨A0, c0, by simpa using HB4.out.set_ 0 (.slice A0 xs.length c0), hc, hS, fun ad e => ⟨(HA.out ad e).1, (hA4 ad e).1, by simpa [World.setCell] using (hA4 ad e).2⟩, Rd.far hC4 hA4 0 _, HX.out⟩, HF4.out.then_ (Fr.set_ w4 g 0 _) (fun _ h => .inl h)⟩
  · have HS := HS2.out h3
    have HL5 := Aside0.mk (show n ≤ z.length by have := HZL.out; omega)
    obtain ⟨y5, hy5⟩ : ∃ y5, z.take n = y5 := ⟨_, rfl⟩
    obtain ⟨z5, hz5⟩ : ∃ z5, z.drop n = z5 := ⟨_, rfl⟩
    rw [hy5, hz5] at HS
    have HY5 := Aside0.mk hy5
    have HZ5 := Aside0.mk hz5
    replace HS := Aside0.mk HS
    clear HS1 HS2 h3 hy5 hz5
    go_enter Try.func68, Try.ntmps68
    go_upto_region 5 with (first | (go_at_call 78; (with_reducible refine (wire_Reader_none.calls g _ _ true _ HB.out).mono ?_); rintro e2 w2 ⟨rfl, hw2⟩; subst w2) | (go_at_call 65; (with_reducible refine (wire_Reader_take.calls_ok S g xs 2 2 rfl y z HY.out HZ.out _ HR.out HL.out).mono ?_); rintro e2 w2 ⟨A2, c2, rfl, hc2, hC2, hA2, hR2, hF2⟩; have HR2 := Aside0.mk hR2; have HF2 := Aside0.mk hF2; have HC2 := Aside0.mk hC2; clear hR2 hF2 hC2 hA2))
    obtain ⟨ad, e, hcd0⟩ := Kd.at_int HC2.out (0 : Nat) (by omega) (by omega)
    subst e
    obtain ⟨ad', e, hcd1⟩ := Kd.at_int HC2.out (1 : Nat) (by omega) (by omega)
    cases e
    rw [HR0.out, add0] at hcd0
    rw [HR1.out, Int.toNat_natCast, add1] at hcd1
    have q0 : 0 < y.length := by omega
    have q1 : 1 < (y.length : Int) := by omega
    replace hcd0 : w2.drew.cell? ad = some (.int .u8 a) := hcd0
    replace hcd1 : w2.drew.cell? ⟨ad.block, ad.off + 1, none⟩ = some (.int .u8 b) := hcd1
    have HRd2 := Aside0.mk (HR2.out.below ((Below.refl _ _).drew))
    have HFd2 := Aside0.mk (HF2.out.then_ (Fr.of_below ((Below.refl _ _).drew) (fun k => k = g)) (fun _ h => .inl h))
    have hor := HOR.out
    have hw1 : wrap64 (a : Int) = (a : Int) := wrapI (by omega) (by omega)
    have hw2 : wrap64 ((a : Int) * 256) = (a : Int) * 256 := wrapI (by omega) (by omega)
    have hw3 : wrap64 (b : Int) = (b : Int) := wrapI (by omega) (by omega)
    clear HC2 HR2 HF2
    go_upto_region 7 with (fail)
    refine start_ (n := 13) (S := fun w' => w'.cell? ad = some (.int .u8 a) ∧ w'.cell? ⟨ad.block, ad.off + 1, none⟩ = some (.int .u8 b)) (ds := [11]) #[false, false, false, false, false, false, false, false, false, false, false, false, false] (by kernel_rfl) rfl rfl ⟨hcd0, hcd1⟩ (fun hHeld => ?_)
    generalize w2.drew = wd at HRd2 HFd2 hcd0 hcd1 hHeld ⊢
    refine pure_ (i := 0) (N := some 17) (v := ?_) (a' := ?_) #[true, false, false, false, false, false, false, false, false, false, false, false, false] rfl rfl (by kernel_rfl) (fun _ _ _ h => h) (Or.inl ⟨by rfl, ?_⟩) ?_ ?_
    rotate_left
    · intro w'
      go_simp
      with_reducible rfl
    rotate_left
    · simp only [Act.put, List.setIfInBounds_toArray, List.set_cons_zero, List.set_cons_succ, i64_w, i32_w]
      rfl
    refine pure_ (i := 1) (N := some 18) (v := ?_) (a' := ?_) #[true, true, false, false, false, false, false, false, false, false, false, false, false] rfl rfl (by kernel_rfl) (fun _ _ _ h => h) (Or.inl ⟨by rfl, ?_⟩) ?_ ?_
    rotate_left
    · intro w'
      go_simp
      with_reducible rfl
    rotate_left
    · simp only [Act.put, List.setIfInBounds_toArray, List.set_cons_zero, List.set_cons_succ, i64_w, i32_w]
      rfl
    refine pure_ (i := 2) (N := some 19) (v := ?_) (a' := ?_) #[true, true, true, false, false, false, false, false, false, false, false, false, false] rfl rfl (by kernel_rfl) (fun _ _ _ h => h) (Or.inl ⟨by rfl, ?_⟩) ?_ ?_
    rotate_left
    · intro w'
      go_simp
      with_reducible rfl
    rotate_left
    · simp only [Act.put, List.setIfInBounds_toArray, List.set_cons_zero, List.set_cons_succ, i64_w, i32_w]
      rfl
    refine pure_ (i := 6) (N := some 23) (v := ?_) (a' := ?_) #[true, true, true, false, false, false, true, false, false, false, false, false, false] rfl rfl (by kernel_rfl) (fun _ _ _ h => h) (Or.inl ⟨by rfl, ?_⟩) ?_ ?_
    rotate_left
    · intro w'
      go_simp
      with_reducible rfl
    rotate_left
    · simp only [Act.put, List.setIfInBounds_toArray, List.set_cons_zero, List.set_cons_succ, i64_w, i32_w]
      rfl
    refine pure_ (i := 7) (N := some 24) (v := ?_) (a' := ?_) #[true, true, true, false, false, false, true, true, false, false, false, false, false] rfl rfl (by kernel_rfl) (fun _ _ _ h => h) (Or.inl ⟨by rfl, ?_⟩) ?_ ?_
    rotate_left
    · intro w'
      go_simp
      with_reducible rfl
    rotate_left
    · simp only [Act.put, List.setIfInBounds_toArray, List.set_cons_zero, List.set_cons_succ, i64_w, i32_w]
      rfl
    refine take_ (i := 3) (N := some 20) (v := ?_) (a' := ?_) #[true, true, true, true, false, false, true, true, false, false, false, false, false] rfl rfl (by kernel_rfl) (fun _ _ _ h => h) (Or.inl ⟨by rfl, ?_⟩) hHeld ?_ ?_
    rotate_left
    · rintro w' ⟨s0, s1⟩
      go_simp
      with_reducible rfl
    rotate_left
    · simp only [Act.put, List.setIfInBounds_toArray, List.set_cons_zero, List.set_cons_succ, i64_w, i32_w]
      rfl
    refine pure_ (i := 4) (N := some 21) (v := ?_) (a' := ?_) #[true, true, true, true, true, false, true, true, false, false, false, false, false] rfl rfl (by kernel_rfl) (fun _ _ _ h => h) (Or.inl ⟨by rfl, ?_⟩) ?_ ?_
    rotate_left
    · intro w'
      go_simp
      with_reducible rfl
    rotate_left
    · simp only [Act.put, List.setIfInBounds_toArray, List.set_cons_zero, List.set_cons_succ, i64_w, i32_w]
      rfl
    refine pure_ (i := 5) (N := some 22) (v := ?_) (a' := ?_) #[true, true, true, true, true, true, true, true, false, false, false, false, false] rfl rfl (by kernel_rfl) (fun _ _ _ h => h) (Or.inl ⟨by rfl, ?_⟩) ?_ ?_
    rotate_left
    · intro w'
      go_simp
      with_reducible rfl
    rotate_left
    · simp only [Act.put, List.setIfInBounds_toArray, List.set_cons_zero, List.set_cons_succ, i64_w, i32_w]
      rfl
    refine take_ (i := 8) (N := some 25) (v := ?_) (a' := ?_) #[true, true, true, true, true, true, true, true, true, false, false, false, false] rfl rfl (by kernel_rfl) (fun _ _ _ h => h) (Or.inl ⟨by rfl, ?_⟩) hHeld ?_ ?_
    rotate_left
    · rintro w' ⟨s0, s1⟩
      go_simp
      with_reducible rfl
    rotate_left
    · simp only [Act.put, List.setIfInBounds_toArray, List.set_cons_zero, List.set_cons_succ, i64_w, i32_w]
      rfl
    refine pure_ (i := 9) (N := some 26) (v := ?_) (a' := ?_) #[true, true, true, true, true, true, true, true, true, true, false, false, false] rfl rfl (by kernel_rfl) (fun _ _ _ h => h) (Or.inl ⟨by rfl, ?_⟩) ?_ ?_
    rotate_left
    · intro w'
      go_simp
      with_reducible rfl
    rotate_left
    · simp only [Act.put, List.setIfInBounds_toArray, List.set_cons_zero, List.set_cons_succ, i64_w, i32_w]
      rfl
    refine pure_ (i := 10) (N := some 27) (v := ?_) (a' := ?_) #[true, true, true, true, true, true, true, true, true, true, true, false, false] rfl rfl (by kernel_rfl) (fun _ _ _ h => h) (Or.inl ⟨by rfl, ?_⟩) ?_ ?_
    rotate_left
    · intro w'
      go_simp
      with_reducible rfl
    rotate_left
    · simp only [Act.put, List.setIfInBounds_toArray, List.set_cons_zero, List.set_cons_succ, i64_w, i32_w]
      rfl
    refine last_ (i := 11) (N := some 28) #[true, true, true, true, true, true, true, true, true, true, true, true, false] rfl rfl (by kernel_rfl) (by decide) (fun K hK => ?_)
    refine goes_ Try.func65 (by kernel_rfl) rfl #[.pointer (some ⟨g, 0, none⟩), .int .i64 (n : Int)] (by rfl) rfl rfl (by simp only [List.map_toArray, List.map_cons, List.map_nil]; rfl) ?_
    with_reducible refine (wire_Reader_take.calls_ok S g z n n rfl y5 z5 HY5.out HZ5.out _ HRd2.out HL5.out).mono ?_
    rintro e w4 ⟨A5, c5, rfl, hc5, hC5, hA5, hR4, hF4⟩
    refine ⟨_, rfl, ?_⟩
    have HR4 := Aside0.mk hR4
    have HC5 := Aside0.mk hC5
    have HF4 := Aside0.mk (HFd2.out.then_ hF4 (fun _ h => .inl h))
    clear hR4 hF4 hC5 hA5
    refine hK.out _ _ ?_
    clear hK K
    refine norm_ (a' := ?_) ?_ ?_
    rotate_left
    · show Act.put _ (some 28) _ = _
      simp only [Act.put, List.setIfInBounds_toArray, List.set_cons_zero, List.set_cons_succ, i64_w, i32_w]
      rfl
    refine pure_ (i := 12) (N := some 5) (v := ?_) (a' := ?_) #[true, true, true, true, true, true, true, true, true, true, true, true, true] rfl rfl (by kernel_rfl) (fun _ _ _ h => h) (Or.inl ⟨by rfl, ?_⟩) ?_ ?_
    rotate_left
    · intro w'
      go_simp
      with_reducible rfl
    rotate_left
    · simp only [Act.put, List.setIfInBounds_toArray, List.set_cons_zero, List.set_cons_succ, i64_w, i32_w]
      rfl
    refine done_ (by kernel_rfl) ?_
    clear hHeld hcd0 hcd1 hor hw1 hw2 hw3 HRd2
    obtain ⟨A4, c4, hb4, _, _, _, _, _⟩ := HR4.out
    have k2 : w4.cell? ⟨g, 2, none⟩ = some (.int .i64 0) := hb4.cell 2
    have hcv := Kd.C_string (P := Try.prog) (src := 35) (dst := 9) (e := 5) (c := c5) Try.underlying35 Try.underlying5 Try.underlying9 HC5.out
    clear hb4
    go_wp2
    go_ret
    rw [HS.out]
    exact ⟨rfl, HR4.out, HF4.out⟩
theorem rByte_err {xs : List Int} {e : Int} (h : e ≠ 0) : rByte xs e = (0, xs, e) := if_pos h
theorem rByte_end {xs : List Int} (h : xs.length < 1) : rByte xs 0 = (0, xs, 20) := by unfold rByte; rw [if_neg (by decide), if_pos h]
theorem rByte_ok {xs : List Int} (h : ¬ xs.length < 1) : rByte xs 0 = (rd xs 0, xs.drop 1, 0) := by unfold rByte; rw [if_neg (by decide), if_neg h]
theorem rInt_err {xs : List Int} {e : Int} (h : e ≠ 0) : rInt xs e = (0, xs, e) := if_pos h
theorem rInt_end {xs : List Int} (h : xs.length < 8) : rInt xs 0 = (0, xs, 20) := by unfold rInt; rw [if_neg (by decide), if_pos h]
theorem rInt_ok {xs : List Int} (h : ¬ xs.length < 8) : rInt xs 0 = (wrap64 (numB 0 (xs.take 8) : Int), xs.drop 8, 0) := by unfold rInt; rw [if_neg (by decide), if_neg h]
theorem rText_err {xs : List Int} {e : Int} (h : e ≠ 0) : rText xs e = (ByteArray.empty, xs, e) := if_pos h
theorem rText_end {xs : List Int} (h : xs.length < 2) : rText xs 0 = (ByteArray.empty, xs, 20) := by unfold rText; rw [if_neg (by decide), if_pos h]
theorem rText_end2 {xs : List Int} (h : ¬ xs.length < 2) (h2 : xs.length < 2 + tlen xs) : rText xs 0 = (ByteArray.empty, xs, 20) := by unfold rText; rw [if_neg (by decide), if_neg h, if_pos h2]
theorem rText_ok {xs : List Int} (h : ¬ xs.length < 2) (h2 : ¬ xs.length < 2 + tlen xs) : rText xs 0 = (strOfNums ((xs.drop 2).take (tlen xs)), xs.drop (2 + tlen xs), 0) := by unfold rText; rw [if_neg (by decide), if_neg h, if_neg h2]
theorem str_bytes (s : ByteArray) : strOfNums (bytesOf s) = s := by
  cases s with
  | mk d =>
    unfold strOfNums bytesOf
    congr 1
    rw [List.map_map]
    have : d.toList.map ((fun n : Int => UInt8.ofNat n.toNat) ∘ fun b : UInt8 => (b.toNat : Int)) = d.toList := by
      conv => rhs; rw [← List.map_id d.toList]
      refine List.map_congr_left (fun b _ => ?_)
      simp
    rw [this]
theorem big8 (n : Int) : bigL n 8 = [n / 2 ^ 56 % 256, n / 2 ^ 48 % 256, n / 2 ^ 40 % 256, n / 2 ^ 32 % 256, n / 2 ^ 24 % 256, n / 2 ^ 16 % 256, n / 2 ^ 8 % 256, n % 256] := by
  simp [bigL, bigB, List.range_succ]
theorem bigL_B (n : Int) (m : Nat) : ∀ x ∈ bigL n m, 0 ≤ x ∧ x ≤ 255 := by
  intro x hx
  obtain ⟨i, _, rfl⟩ := List.mem_map.1 hx
  unfold bigB
  omega
theorem bytesOf_B (s : ByteArray) : ∀ x ∈ bytesOf s, 0 ≤ x ∧ x ≤ 255 := by
  intro x hx
  obtain ⟨b, _, rfl⟩ := List.mem_map.1 hx
  have := b.toNat_lt
  omega
theorem ints8_B (l : List Int) : ∀ x ∈ ints8 l, 0 ≤ x ∧ x ≤ 255 := by
  intro x hx
  obtain ⟨y, _, hy⟩ := List.mem_flatMap.1 hx
  exact bigL_B _ _ x hy
theorem textsB_B (l : List ByteArray) : ∀ x ∈ textsB l, 0 ≤ x ∧ x ≤ 255 := by
  intro x hx
  obtain ⟨y, _, hy⟩ := List.mem_flatMap.1 hx
  rcases List.mem_append.1 hy with h | h
  · exact bigL_B _ _ x h
  · exact bytesOf_B _ x h
theorem numB_eight (x : Int) (h0 : 0 ≤ x) (h1 : x < 18446744073709551616) : (numB 0 (bigL x 8) : Int) = x := by
  obtain ⟨n, rfl⟩ := Int.eq_ofNat_of_zero_le h0
  rw [big8]
  have e : ∀ k : Nat, ((n : Int) / 2 ^ k % 256).toNat = n / 2 ^ k % 256 := fun k => by
    have : ((n : Int) / 2 ^ k % 256) = ((n / 2 ^ k % 256 : Nat) : Int) := by
      rw [Int.natCast_emod, Int.natCast_ediv, Int.natCast_pow]
      rfl
    rw [this, Int.toNat_natCast]
  have e0 : ((n : Int) % 256).toNat = n % 256 := by omega
  simp only [numB, List.foldl_cons, List.foldl_nil, e, e0]
  omega
theorem rInt_back (x : Int) (rest : List Int) (h0 : -9223372036854775808 ≤ x) (h1 : x ≤ 9223372036854775807) : rInt (bigL (IntKind.u64.wrap x) 8 ++ rest) 0 = (x, rest, 0) := by
  have hl := bigL_len' (IntKind.u64.wrap x) 8
  rw [rInt_ok (by rw [List.length_append]; omega), List.take_append_of_le_length (by omega), List.take_of_length_le (by omega), List.drop_append_of_le_length (by omega), List.drop_eq_nil_of_le (by omega), List.nil_append]
  have hn := numB_eight (IntKind.u64.wrap x) (u64_wrap_lo x) (by rw [wrapU64]; omega)
  rw [hn, wrapU64]
  congr 1
  unfold wrap64
  omega
theorem tlen_back (s : ByteArray) (rest : List Int) (h : s.size ≤ 65535) : tlen (textB s ++ rest) = s.size := by
  have h2 : bigL (s.size : Int) 2 = [(s.size : Int) / 256 % 256, (s.size : Int) % 256] := by simp [bigL, bigB, List.range_succ]
  unfold tlen textB
  rw [h2]
  simp only [List.cons_append, List.nil_append, rd, Int.toNat_natCast, List.getD_cons_zero, List.getD_cons_succ]
  omega
theorem rText_back (s : ByteArray) (rest : List Int) (h : s.size ≤ 65535) : rText (textB s ++ rest) 0 = (s, rest, 0) := by
  have hb := bigL_len' (s.size : Int) 2
  have hs := bytesOf_length s
  have ht := tlen_back s rest h
  have hl : (textB s ++ rest).length = 2 + s.size + rest.length := by unfold textB; rw [List.length_append, List.length_append, hb, hs]
  have hd : (textB s ++ rest).drop 2 = bytesOf s ++ rest := by
    unfold textB
    rw [List.append_assoc, List.drop_append_of_le_length (by omega), List.drop_eq_nil_of_le (by omega), List.nil_append]
  rw [rText_ok (by omega) (by rw [ht]; omega), ht, ← List.drop_drop, hd, List.take_append_of_le_length (by omega), List.take_of_length_le (by omega), List.drop_append_of_le_length (by omega), List.drop_eq_nil_of_le (by omega), List.nil_append, str_bytes]
theorem rByte_back (b : Int) (rest : List Int) : rByte (b :: rest) 0 = (b, rest, 0) := by
  rw [rByte_ok (by simp)]
  rfl
theorem ints8_cons (x : Int) (l : List Int) : ints8 (x :: l) = bigL (IntKind.u64.wrap x) 8 ++ ints8 l := rfl
theorem textsB_cons (x : ByteArray) (l : List ByteArray) : textsB (x :: l) = textB x ++ textsB l := rfl
theorem drop_cons_ {α : Type} (l : List α) (j : Nat) (h : j < l.length) : l.drop j = l[j] :: l.drop (j + 1) := List.drop_eq_getElem_cons h
/-- One reader. -/
def OneR (w0 w : World) (g : Nat) (xs : List Int) (e : Int) : Prop := ∃ S, Rd w S g xs e ∧ (∀ k, S k → w0.heap.size ≤ k) ∧ Below w0.heap.size w0 w
section
variable {w0 w w' : World} {g : Nat} {l xs : List Int} {e : Int}
theorem OneR.bel (h : OneR w0 w g xs e) : Below w0.heap.size w0 w := by
  obtain ⟨_, _, _, h⟩ := h
  exact h
theorem OneR.below (h : OneR w0 w g xs e) (hb : Below w.heap.size w w') : OneR w0 w' g xs e := by
  obtain ⟨S, h1, h2, h4⟩ := h
  exact ⟨S, h1.below hb, h2, h4.trans (hb.mono h4.size)⟩
theorem OneR.step {S : Nat → Prop} {xs' : List Int} {e' : Int} (hg : S g) (h2 : ∀ k, S k → w0.heap.size ≤ k) (h4 : Below w0.heap.size w0 w) (h1 : Rd w' S g xs' e') (hf : Fr w w' (fun k => k = g)) : OneR w0 w' g xs' e' := ⟨S, h1, h2, h4.trans (hf.below h4.size (fun k hk => by subst hk; exact h2 _ hg))⟩
theorem Rd.own {S : Nat → Prop} (h : Rd w S g xs e) : S g := by
  obtain ⟨_, _, _, _, h, _⟩ := h
  exact h
theorem intR1 {v : Int} {xs' : List Int} (hx : rInt xs 0 = (v, xs', 0)) (h : OneR w0 w g xs 0) : Calls Try.prog 43 #[.pointer (some ⟨g, 0, none⟩)] w fun en w' => en = .returned (.int .i64 v) ∧ OneR w0 w' g xs' 0 := by
  obtain ⟨S, h1, h2, h4⟩ := h
  have := wire_Reader_Int.calls S g xs 0 w h1
  rw [hx] at this
  exact this.mono fun en w' ⟨he, hr, hf⟩ => ⟨he, OneR.step h1.own h2 h4 hr hf⟩
theorem textR1 {v : ByteArray} {xs' : List Int} (hx : rText xs 0 = (v, xs', 0)) (h : OneR w0 w g xs 0) : Calls Try.prog 68 #[.pointer (some ⟨g, 0, none⟩)] w fun en w' => en = .returned (.string v) ∧ OneR w0 w' g xs' 0 := by
  obtain ⟨S, h1, h2, h4⟩ := h
  have := wire_Reader_Text.calls S g xs 0 w h1
  rw [hx] at this
  exact this.mono fun en w' ⟨he, hr, hf⟩ => ⟨he, OneR.step h1.own h2 h4 hr hf⟩
theorem byteR1 {v : Int} {xs' : List Int} (hx : rByte xs 0 = (v, xs', 0)) (h : OneR w0 w g xs 0) : Calls Try.prog 42 #[.pointer (some ⟨g, 0, none⟩)] w fun en w' => en = .returned (.int .i64 v) ∧ OneR w0 w' g xs' 0 := by
  obtain ⟨S, h1, h2, h4⟩ := h
  have := wire_Reader_Byte.calls S g xs 0 w h1
  rw [hx] at this
  exact this.mono fun en w' ⟨he, hr, hf⟩ => ⟨he, OneR.step h1.own h2 h4 hr hf⟩
theorem doneR1 (h : OneR w0 w g xs e) : Calls Try.prog 45 #[.pointer (some ⟨g, 0, none⟩)] w fun en w' => en = .returned (.int .i64 (rDone xs e)) ∧ OneR w0 w' g xs e := by
  obtain ⟨S, h1, h2, h4⟩ := h
  exact (wire_Reader_Done.calls S g xs e w h1).mono fun en w' ⟨he, hb⟩ => ⟨he, hb ▸ ⟨S, h1, h2, h4⟩⟩
end
def isBb (x : Int) : Bool := decide (0 ≤ x) && decide (x ≤ 255)
theorem isBb_all {l : List Int} (h : l.all isBb = true) : ∀ x ∈ l, 0 ≤ x ∧ x ≤ 255 := fun x hx => by
  have := List.all_eq_true.1 h x hx
  simpa [isBb] using this


end Go.Proofs.Ytlmlkcobkmhmbaa.Q
end

section
-- written by hprint.py (a program of these sessions) out of the translation; Lean checks it
namespace Go.Proofs.Ytlmlkcobkmhmbaa.Q
open Go.RowKit Go.Proofs.YtlmlkcobkmhmbaaW.Hb Go.Proofs.YtlmlkcobkmhmbaaW.PrintWords Go.Proofs.YtlmlkcobkmhmbaaW.PrintLast Go.Proofs.YtlmlkcobkmhmbaaW.PrintMore
attribute [local go_sem] max2_int min2_int max_two min_two max_three min_three max_four min_four   -- for this text's walks alone
set_option linter.unusedVariables false
set_option linter.unusedSimpArgs false

/-! ### message_log: function 44, by hand -/
/-- The program's reader, told by what is left; its blocks lie from w0 on, below b. -/
def Or (w0 w : World) (b g : Nat) (xs : List Int) (e : Int) : Prop := ∃ S, Rd w S g xs e ∧ (∀ k, S k → w0.heap.size ≤ k ∧ k < b) ∧ b ≤ w.heap.size ∧ Below w0.heap.size w0 w
section
variable {w0 w w' : World} {b g : Nat} {xs xs' : List Int} {e e' : Int}
theorem Or.bel (h : Or w0 w b g xs e) : Below w0.heap.size w0 w := h.choose_spec.2.2.2
theorem Or.le (h : Or w0 w b g xs e) : b ≤ w.heap.size := h.choose_spec.2.2.1
theorem Or.g_in (h : Or w0 w b g xs e) : w0.heap.size ≤ g ∧ g < b := by
  obtain ⟨S, h1, h2, _⟩ := h
  exact h2 g h1.own
theorem Or.B (h : Or w0 w b g xs e) : ∀ x ∈ xs, 0 ≤ x ∧ x ≤ 255 := by
  obtain ⟨S, h1, _⟩ := h
  exact h1.B
theorem Or.kept {S2 : Nat → Prop} (h : Or w0 w b g xs e) (hk : Kept w w' S2) (hd : ∀ k, S2 k → b ≤ k) (hb : Below w0.heap.size w w') : Or w0 w' b g xs e := by
  obtain ⟨S, h1, h2, h3, h4⟩ := h
  exact ⟨S, h1.kept hk (fun k hS h => by have := (h2 k hS).2; have := hd k h; omega), h2, Nat.le_trans h3 hk.1, h4.trans hb⟩
theorem Or.below (h : Or w0 w b g xs e) (hb : Below b w w') : Or w0 w' b g xs e :=
  h.kept (S2 := fun k => b ≤ k) ⟨hb.size, fun i hi hn => hb.block i (by omega)⟩ (fun _ h => h) (hb.mono (by have := h.g_in; omega))
theorem Or.step {S : Nat → Prop} (h1 : Rd w S g xs e) (h2 : ∀ k, S k → w0.heap.size ≤ k ∧ k < b) (h3 : b ≤ w.heap.size) (h4 : Below w0.heap.size w0 w) (hr : Rd w' S g xs' e') (hf : Fr w w' (fun k => k = g)) : Or w0 w' b g xs' e' :=
  ⟨S, hr, h2, Nat.le_trans h3 hf.1.size, h4.trans (hf.below h4.size (fun k hk => by subst hk; exact (h2 _ h1.own).1))⟩
theorem byteQ {v : Int} (h : Or w0 w b g xs e) (hx : rByte xs e = (v, xs', e')) : Calls Try.prog 42 #[.pointer (some ⟨g, 0, none⟩)] w fun en w' => en = .returned (.int .i64 v) ∧ Or w0 w' b g xs' e' ∧ Fr w w' (fun k => k = g) := by
  obtain ⟨S, h1, h2, h3, h4⟩ := h
  have := wire_Reader_Byte.calls S g xs e w h1
  rw [hx] at this
  exact this.mono fun en w' ⟨he, hr, hf⟩ => ⟨he, Or.step h1 h2 h3 h4 hr hf, hf⟩
theorem intQ {v : Int} (h : Or w0 w b g xs e) (hx : rInt xs e = (v, xs', e')) : Calls Try.prog 43 #[.pointer (some ⟨g, 0, none⟩)] w fun en w' => en = .returned (.int .i64 v) ∧ Or w0 w' b g xs' e' ∧ Fr w w' (fun k => k = g) := by
  obtain ⟨S, h1, h2, h3, h4⟩ := h
  have := wire_Reader_Int.calls S g xs e w h1
  rw [hx] at this
  exact this.mono fun en w' ⟨he, hr, hf⟩ => ⟨he, Or.step h1 h2 h3 h4 hr hf, hf⟩
theorem textQ {v : ByteArray} (h : Or w0 w b g xs e) (hx : rText xs e = (v, xs', e')) : Calls Try.prog 68 #[.pointer (some ⟨g, 0, none⟩)] w fun en w' => en = .returned (.string v) ∧ Or w0 w' b g xs' e' ∧ Fr w w' (fun k => k = g) := by
  obtain ⟨S, h1, h2, h3, h4⟩ := h
  have := wire_Reader_Text.calls S g xs e w h1
  rw [hx] at this
  exact this.mono fun en w' ⟨he, hr, hf⟩ => ⟨he, Or.step h1 h2 h3 h4 hr hf, hf⟩
theorem errQ (h : Or w0 w b g xs e) : Calls Try.prog 67 #[.pointer (some ⟨g, 0, none⟩)] w fun en w' => en = .returned (.int .i64 e) ∧ w' = w := by
  obtain ⟨S, h1, h2, h3, h4⟩ := h
  exact wire_Reader_Err.calls S g xs e w h1
theorem doneQ (h : Or w0 w b g xs e) : Calls Try.prog 45 #[.pointer (some ⟨g, 0, none⟩)] w fun en w' => en = .returned (.int .i64 (rDone xs e)) ∧ w' = w := by
  obtain ⟨S, h1, h2, h3, h4⟩ := h
  exact wire_Reader_Done.calls S g xs e w h1
end
/-- The entries that a reader has. -/
def readL {α : Type} (mk : Int → ByteArray → α) : Nat → List Int → Int → List α → List α × List Int × Int
  | 0, xs, e, l => (l, xs, e)
  | n + 1, xs, e, l => if e ≠ 0 then (l, xs, e) else readL mk n (rText (rInt xs e).2.1 (rInt xs e).2.2).2.1 (rText (rInt xs e).2.1 (rInt xs e).2.2).2.2 (l ++ [mk (rInt xs e).1 (rText (rInt xs e).2.1 (rInt xs e).2.2).1])
def rdLog {α : Type} (mk : Int → ByteArray → α) (xs : List Int) (e : Int) : List α × List Int × Int := readL mk ((rByte xs e).1 * 256 + (rByte (rByte xs e).2.1 (rByte xs e).2.2).1).toNat (rByte (rByte xs e).2.1 (rByte xs e).2.2).2.1 (rByte (rByte xs e).2.1 (rByte xs e).2.2).2.2 []
theorem readL_0 {α : Type} (mk : Int → ByteArray → α) (xs : List Int) (e : Int) (l : List α) : readL mk 0 xs e l = (l, xs, e) := rfl
theorem readL_err {α : Type} (mk : Int → ByteArray → α) (n : Nat) (xs : List Int) {e : Int} (he : e ≠ 0) (l : List α) : readL mk n xs e l = (l, xs, e) := by
  cases n with
  | zero => rfl
  | succ n => rw [readL, if_pos he]
theorem readL_step {α : Type} (mk : Int → ByteArray → α) {n : Nat} {xs xs1 xs2 : List Int} {e1 e2 v : Int} {s : ByteArray} (h1 : rInt xs 0 = (v, xs1, e1)) (h2 : rText xs1 e1 = (s, xs2, e2)) (l : List α) : readL mk (n + 1) xs 0 l = readL mk n xs2 e2 (l ++ [mk v s]) := by
  rw [readL, if_neg (by decide), h1]
  simp only [h2]
theorem rdLog_is {α : Type} (mk : Int → ByteArray → α) {xs xs1 xs2 : List Int} {e e1 e2 v1 v2 : Int} {n : Nat} (h1 : rByte xs e = (v1, xs1, e1)) (h2 : rByte xs1 e1 = (v2, xs2, e2)) (hn : v1 * 256 + v2 = (n : Int)) : rdLog mk xs e = readL mk n xs2 e2 [] := by
  unfold rdLog
  simp only [h1, h2, hn, Int.toNat_natCast]
theorem rByte_in {xs xs1 : List Int} {e e1 v : Int} (hB : ∀ x ∈ xs, 0 ≤ x ∧ x ≤ 255) (h : rByte xs e = (v, xs1, e1)) : 0 ≤ v ∧ v ≤ 255 := by
  by_cases he : e ≠ 0
  · rw [rByte_err he] at h
    cases h
    omega
  · obtain rfl : e = 0 := by omega
    by_cases h1 : xs.length < 1
    · rw [rByte_end h1] at h
      cases h
      omega
    · rw [rByte_ok h1] at h
      cases h
      exact rd_in hB 0 (by omega)
def getM {α : Type} (mk : Int → ByteArray → α) (right : Int → Int → Int → Int → Int → Int → Int → List α → Bool) (l : List Int) : Int × Int × Int × Int × Int × Int × Int × List α × Int :=
  let k := rByte l 0; let fr := rByte k.2.1 k.2.2; let t := rByte fr.2.1 fr.2.2; let v := rInt t.2.1 t.2.2; let o := rInt v.2.1 v.2.2; let c := rInt o.2.1 o.2.2; let n := rInt c.2.1 c.2.2; let g := rdLog mk n.2.1 n.2.2
  if rDone g.2.1 g.2.2 = 0 ∧ right k.1 fr.1 t.1 v.1 o.1 c.1 n.1 g.1 = true ∧ l.length ≤ 1048576 then (k.1, fr.1, t.1, v.1, o.1, c.1, n.1, g.1, 0) else (0, 0, 0, 0, 0, 0, 0, [], 21)
theorem getM_is {α : Type} (mk : Int → ByteArray → α) (right : Int → Int → Int → Int → Int → Int → Int → List α → Bool) {l x1 x2 x3 x4 x5 x6 x7 x8 : List Int} {v1 v2 v3 v4 v5 v6 v7 e1 e2 e3 e4 e5 e6 e7 e8 : Int} {ls : List α} (h1 : rByte l 0 = (v1, x1, e1)) (h2 : rByte x1 e1 = (v2, x2, e2)) (h3 : rByte x2 e2 = (v3, x3, e3)) (h4 : rInt x3 e3 = (v4, x4, e4)) (h5 : rInt x4 e4 = (v5, x5, e5)) (h6 : rInt x5 e5 = (v6, x6, e6)) (h7 : rInt x6 e6 = (v7, x7, e7)) (h8 : rdLog mk x7 e7 = (ls, x8, e8)) :
    getM mk right l = if rDone x8 e8 = 0 ∧ right v1 v2 v3 v4 v5 v6 v7 ls = true ∧ l.length ≤ 1048576 then (v1, v2, v3, v4, v5, v6, v7, ls, 0) else (0, 0, 0, 0, 0, 0, 0, [], 21) := by
  simp only [getM, h1, h2, h3, h4, h5, h6, h7, h8]
def getR {α : Type} (mk : Int → ByteArray → α) (right : Int → Int → Int → Int → List α → Bool) (l : List Int) : Int × Int × Int × Int × List α × Int :=
  let k := rByte l 0; let v := rInt k.2.1 k.2.2; let o := rInt v.2.1 v.2.2; let c := rInt o.2.1 o.2.2; let g := rdLog mk c.2.1 c.2.2
  if rDone g.2.1 g.2.2 = 0 ∧ right k.1 v.1 o.1 c.1 g.1 = true ∧ l.length ≤ 1048576 then (k.1, v.1, o.1, c.1, g.1, 0) else (0, 0, 0, 0, [], 21)
theorem getR_is {α : Type} (mk : Int → ByteArray → α) (right : Int → Int → Int → Int → List α → Bool) {l x1 x2 x3 x4 x8 : List Int} {v1 v2 v3 v4 e1 e2 e3 e4 e8 : Int} {ls : List α} (h1 : rByte l 0 = (v1, x1, e1)) (h2 : rInt x1 e1 = (v2, x2, e2)) (h3 : rInt x2 e2 = (v3, x3, e3)) (h4 : rInt x3 e3 = (v4, x4, e4)) (h8 : rdLog mk x4 e4 = (ls, x8, e8)) :
    getR mk right l = if rDone x8 e8 = 0 ∧ right v1 v2 v3 v4 ls = true ∧ l.length ≤ 1048576 then (v1, v2, v3, v4, ls, 0) else (0, 0, 0, 0, [], 21) := by
  simp only [getR, h1, h2, h3, h4, h8]
def mkE (v : Int) (s : ByteArray) : S74 := ⟨v, s⟩
set_option maxRecDepth 100000 in
set_option maxHeartbeats 2000000 in
theorem message_log.calls (w0 w : World) (b g : Nat) (xs : List Int) (e : Int) (ls : List S74) (xs' : List Int) (e' : Int) (h : Or w0 w b g xs e) (hx : rdLog mkE xs e = (ls, xs', e')) :
    Calls Try.prog 44 #[.pointer (some ⟨g, 0, none⟩)] w fun en w' => ∃ v, en = .returned v ∧ Kd.R k74 74 w' w0.heap.size (fun k => w.heap.size ≤ k) v ls ∧ Or w0 w' b g xs' e' ∧ Kept w w' (fun k => k = g) := by
  obtain ⟨v1, xs1, e1, h1⟩ : ∃ v1 xs1 e1, rByte xs e = (v1, xs1, e1) := ⟨_, _, _, rfl⟩
  obtain ⟨v2, xs2, e2, h2⟩ : ∃ v2 xs2 e2, rByte xs1 e1 = (v2, xs2, e2) := ⟨_, _, _, rfl⟩
  have hv1 := rByte_in h.B h1
  have hv2 := rByte_in (fun x hx => by
    by_cases he : e ≠ 0
    · rw [rByte_err he] at h1; cases h1; exact h.B x hx
    · obtain rfl : e = 0 := by omega
      by_cases h3 : xs.length < 1
      · rw [rByte_end h3] at h1; cases h1; exact h.B x hx
      · rw [rByte_ok h3] at h1; cases h1; exact h.B x (List.mem_of_mem_drop hx)) h2
  obtain ⟨p1, p2⟩ := hv1
  obtain ⟨p3, p4⟩ := hv2
  obtain ⟨a1, rfl⟩ := Int.eq_ofNat_of_zero_le p1
  obtain ⟨a2, rfl⟩ := Int.eq_ofNat_of_zero_le p3
  have hor := or_i64 a1 a2 (by omega) (by omega)
  obtain ⟨n, hn⟩ : ∃ n : Nat, a1 * 256 + a2 = n := ⟨_, rfl⟩
  rw [hn] at hor
  have hn2 : n ≤ 65535 := by omega
  have HX := Aside0.mk (show readL mkE n xs2 e2 [] = (ls, xs', e') by rw [← rdLog_is mkE h1 h2 (by omega)]; exact hx)
  have hw2 : wrap64 ((a1 : Int) * 256) = (a1 : Int) * 256 := wrapI (by omega) (by omega)
  have HO := Aside0.mk h
  have H1 := Aside0.mk h1
  have H2 := Aside0.mk h2
  have hgi := h.g_in
  have hble := h.le
  clear h hx h1 h2 p1 p2 p3 p4 hn
  go_enter Try.func44, Try.ntmps44
  go_wp2_with (first | (go_at_call 42; (with_reducible refine (byteQ HO.out H1.out).mono ?_); rintro en w3 ⟨rfl, hO3, hF3⟩; have HO3 := Aside0.mk hO3; have HK3 := Aside0.mk hF3.2; clear hO3 hF3) | (go_at_call 42; (with_reducible refine (byteQ HO3.out H2.out).mono ?_); rintro en w4 ⟨rfl, hO4, hF4⟩; have HO4 := Aside0.mk hO4; have HK4 := Aside0.mk (HK3.out.then_ hF4.2 (fun _ h => .inl h)); clear hO4 hF4))
  clear hor hw2
  go_loopw [3, 4] (fun v i wr => ∃ (m : Nat) (ys : List Int) (ee : Int) (l : List S74), i = .int .i64 m ∧ l.length + m ≤ 65535 ∧ Aside0 (readL mkE m ys ee l = (ls, xs', e')) ∧ Aside0 (Or w0 wr b g ys ee) ∧ Aside0 (Kept w wr (fun k => k = g)) ∧ Aside0 (Kd.R k74 74 wr w0.heap.size (fun k => w.heap.size ≤ k) v l)) (fun _ i _ => (intOf i).toNat)
  case atStart => exact ⟨n, xs2, e2, [], rfl, by simpa using hn2, HX, HO4, HK4, ⟨Kd.R_nil _ _ _ _ _⟩⟩
  case round =>
    clear HX HO HO3 HO4 HK3 HK4 H1 H2 hn2
    obtain ⟨m, ys, ee, l, rfl, hlm, HX, HO, HK, HR⟩ := hrel
    rcases Nat.eq_zero_or_pos m with h0 | h0
    · subst h0
      have hX := HX.out
      rw [readL_0] at hX
      have HE := Aside0.mk hX
      clear hX
      have hz : ¬ (0 : Int) < ((0 : Nat) : Int) := by omega
      go_wp2
      go_ret
      obtain ⟨q1, hX⟩ := Prod.mk.inj HE.out
      obtain ⟨q2, q3⟩ := Prod.mk.inj hX
      exact ⟨_, rfl, by rw [← q1]; exact HR.out, by rw [← q2, ← q3]; exact HO.out, HK.out⟩
    · have hz : (0 : Int) < (m : Int) := by omega
      by_cases he : ee = 0
      · subst he
        obtain ⟨m, rfl⟩ : ∃ m', m = m' + 1 := ⟨m - 1, by omega⟩
        obtain ⟨v5, xs5, e5, h5⟩ : ∃ v1 xs1 e1, rInt ys 0 = (v1, xs1, e1) := ⟨_, _, _, rfl⟩
        obtain ⟨s6, xs6, e6, h6⟩ : ∃ v1 xs1 e1, rText xs5 e5 = (v1, xs1, e1) := ⟨_, _, _, rfl⟩
        have hX := HX.out
        rw [readL_step mkE h5 h6] at hX
        have HX2 := Aside0.mk hX
        have H5 := Aside0.mk h5
        have H6 := Aside0.mk h6
        have HLN := Aside0.mk (show (l.length + 1) * 24 ≤ 140737488355328 by omega)
        clear hX h5 h6 HX
        go_wp2_with (first | (go_at_call 67; (with_reducible refine (errQ HO.out).mono ?_); rintro en w4 ⟨rfl, hw4⟩; subst w4) | (go_at_call 43; (with_reducible refine (intQ HO.out H5.out).mono ?_); rintro en w5 ⟨rfl, hO5, hF5⟩; have HO5 := Aside0.mk hO5; have HK5 := Aside0.mk (HK.out.then_ hF5.2 (fun _ h => .inl h)); have HR5 := Aside0.mk (Kd.R_kept HR.out hF5.2 (fun k hk h => by omega)); clear hO5 hF5) | (go_at_call 68; (with_reducible refine (textQ HO5.out H6.out).mono ?_); rintro en w6 ⟨rfl, hO6, hF6⟩; have HO6 := Aside0.mk hO6; have HK6 := Aside0.mk (HK5.out.then_ hF6.2 (fun _ h => .inl h)); have HR6 := Aside0.mk (Kd.R_kept HR5.out hF6.2 (fun k hk h => by omega)); have HA6 := Aside0.mk ((Below.refl w6.heap.size w6).alloc (Nat.le_refl _) (.cells #[.int .i64 v5, .string s6] 74)); have HC6 := Aside0.mk (C_of_reps (d := k74) (Blk.new w6 74 #[.int .i64 v5, .string s6]) [mkE v5 s6] (Reps_one (c := [.int .i64 v5, .string s6]) (k74_mk _ (mkE v5 s6)) rfl) (by simp)); have HR7 := Aside0.mk (Kd.R_below HR6.out HA6.out); have HO7 := Aside0.mk (HO6.out.below (HA6.out.mono HO6.out.le)); have HK7 := Aside0.mk (HK6.out.below HA6.out); clear hO6 hF6) | ((with_reducible refine gate_builtin (b := .append) (xs := #[.tmp 20, .tmp 26]) rfl ?_); at_builtin; refine Kd.R_append_rows k74 (w0 := w0) (Rr := k74.K (w6.alloc (.cells #[.int .i64 v5, .string s6] 74))) w0.heap.size rfl (.tmp 20) (.tmp 26) 23 74 (.agg #[(.int .i64 0), (.string ⟨#[]⟩)]) 24 rfl Try.underlying23 info74 rfl (by decide) (by omega) u3 l [mkE v5 s6] (some ⟨w6.heap.size, 0, none⟩) 1 1 (fun k => w.heap.size ≤ k) (fun _ => False) rfl rfl HR7.out HC6.out (fun x cs hK => by have := k74_open hK; subst this; exact k74_mkM _ _ _ _) (fun _ hk => hk.elim) (fun k hk => Nat.le_trans HK7.out.1 hk) HO7.out.bel HO7.out.bel.size HLN.out ?_; intro v8 w8 hR8 hB8 hG8 hA8; have HR8 := Aside0.mk hR8; have HB8 := Aside0.mk hB8; have HG8 := Aside0.mk hG8; clear hR8 hB8 hG8 hA8))
        have HN := Aside0.mk (show ∀ k, u3.ownBlock = some k → w.heap.size ≤ k from fun k hk => HR.out.1 k hk)
        have HK8 := Aside0.mk (Kept.of_grown HG8.out HK7.out (fun k hk => .inr (HN.out k hk)))
        have HO8 := Aside0.mk (show Or w0 w8 b g xs6 e6 by
          obtain ⟨S, q1, q2, q3, q4⟩ := HO7.out
          exact ⟨S, q1.kept (S2 := fun k => u3.ownBlock = some k) ⟨HG8.out.size, fun i hi hn => HG8.out.block i hi (fun he => hn he.symm)⟩ (fun k hk h => by have := HN.out k h; have := (q2 k hk).2; omega), q2, Nat.le_trans q3 HG8.out.size, HB8.out⟩)
        go_roundw
        case rel => exact ⟨m, xs6, e6, l ++ [mkE v5 s6], by first | rfl | go_num, by rw [List.length_append, List.length_singleton]; omega, HX2, HO8, HK8, HR8⟩
        case measure => first | (simp [intOf]; done) | (simp [intOf]; omega)
      · have hd : (ee == 0) = false := by simp [he]
        have hX := HX.out
        rw [readL_err mkE m ys he] at hX
        have HE := Aside0.mk hX
        clear hX he
        go_wp2_with (go_at_call 67; (with_reducible refine (errQ HO.out).mono ?_); rintro en w4 ⟨rfl, hw4⟩; subst w4)
        go_ret
        obtain ⟨q1, hX⟩ := Prod.mk.inj HE.out
        obtain ⟨q2, q3⟩ := Prod.mk.inj hX
        exact ⟨_, rfl, by rw [← q1]; exact HR.out, by rw [← q2, ← q3]; exact HO.out, HK.out⟩


end Go.Proofs.Ytlmlkcobkmhmbaa.Q
end

section
-- written by hprint.py (a program of these sessions) out of the translation; Lean checks it
namespace Go.Proofs.Ytlmlkcobkmhmbaa.Q
open Go.RowKit Go.Proofs.YtlmlkcobkmhmbaaW.Hb Go.Proofs.YtlmlkcobkmhmbaaW.PrintWords Go.Proofs.YtlmlkcobkmhmbaaW.PrintLast Go.Proofs.YtlmlkcobkmhmbaaW.PrintMore
attribute [local go_sem] max2_int min2_int max_two min_two max_three min_three max_four min_four   -- for this text's walks alone
set_option linter.unusedVariables false
set_option linter.unusedSimpArgs false

/-! ### message_GetRecord: function 19, by hand -/
theorem message_GetRecord.ret_ {R : Ending → World → Prop} {a : Act} {W : World} {g : Nat} {c0 c1 c2 c3 c4 : Value} {e : Int} (hB : Blk W g 49 #[c0, c1, c2, c3, c4]) (h2 : a.tmps[2]? = some (.pointer (some ⟨g, 0, none⟩))) (h3 : a.tmps[3]? = some (.int .i64 e)) (hd : a.defers = []) (hR : R (.returned (.tuple #[.agg #[c0, c1, c2, c3, c4], .int .i64 e])) W) :
    bodyPost Try.prog Try.f19 R Exit.ret a W := by
  have q0 : W.cell? ⟨g, 0, none⟩ = some c0 := hB.cell 0
  have q1 : W.cell? ⟨g, 1, none⟩ = some c1 := hB.cell 1
  have q2 : W.cell? ⟨g, 2, none⟩ = some c2 := hB.cell 2
  have q3 : W.cell? ⟨g, 3, none⟩ = some c3 := hB.cell 3
  have q4 : W.cell? ⟨g, 4, none⟩ = some c4 := hB.cell 4
  exact bodyPost_ret (v := .tuple #[.agg #[c0, c1, c2, c3, c4], .int .i64 e]) (by simp [results, Try.results19, go_sem, q0, q1, q2, q3, q4, h2, h3]) hd hR
def message_GetRecord.f (l0 : List Int) : Option (Int × Int × Int × Int × List S74 × Int) := if (l0.all isBb && decide (l0.length ≤ 140737488351232)) = true then some (getR mkE (fun a b c d l => rightR ⟨a, b, c, d, l⟩) l0) else none
set_option maxRecDepth 100000 in
set_option maxHeartbeats 4000000 in
theorem message_GetRecord.calls (A0 : Option Addr) (c0 : Nat) (l0 : List Int) (r1 : Int) (r2 : Int) (r3 : Int) (r4 : Int) (r5 : List S74) (r6 : Int) (w : World) (hr0 : Kd.C (Kd.int .u8) w A0 l0.length l0) (hc0 : l0.length ≤ c0) (h : message_GetRecord.f l0 = some (r1, r2, r3, r4, r5, r6)) :
    Calls Try.prog 19 #[.slice A0 l0.length c0] w fun en w' => ∃ v4_ : Value, en = .returned (.tuple #[.agg #[.int .i64 r1, .int .i64 r2, .int .i64 r3, .int .i64 r4, v4_], .int .i64 r6]) ∧ Kd.R k74 74 w' w.heap.size (fun _ => True) v4_ r5 ∧ Below w.heap.size w w' := by
  unfold message_GetRecord.f at h
  split at h
  rotate_left
  · cases h
  rename_i hall
  have h := Option.some.inj h
  simp only [Bool.and_eq_true, decide_eq_true_eq] at hall
  have HBB := Aside0.mk (isBb_all hall.1)
  have hll := hall.2
  clear hall
  obtain ⟨v1, x1, e1, h1⟩ : ∃ v x e, rByte l0 0 = (v, x, e) := ⟨_, _, _, rfl⟩
  obtain ⟨v2, x2, e2, h2⟩ : ∃ v x e, rInt x1 e1 = (v, x, e) := ⟨_, _, _, rfl⟩
  obtain ⟨v3, x3, e3, h3⟩ : ∃ v x e, rInt x2 e2 = (v, x, e) := ⟨_, _, _, rfl⟩
  obtain ⟨v4, x4, e4, h4⟩ : ∃ v x e, rInt x3 e3 = (v, x, e) := ⟨_, _, _, rfl⟩
  obtain ⟨ls, x8, e8, h8⟩ : ∃ v x e, rdLog mkE x4 e4 = (v, x, e) := ⟨_, _, _, rfl⟩
  have HX := Aside0.mk ((getR_is mkE (fun a b c d l => rightR ⟨a, b, c, d, l⟩) h1 h2 h3 h4 h8).symm.trans h)
  have H1 := Aside0.mk h1
  have H2 := Aside0.mk h2
  have H3 := Aside0.mk h3
  have H4 := Aside0.mk h4
  have H8 := Aside0.mk h8
  have HC0 := Aside0.mk (Kd.C_alloc hr0 (.cells #[.int .i64 0, .int .i64 0, .int .i64 0, .int .i64 0, .slice none 0 0] 49))
  have hm0 : l0.length ≤ 9223372036854775807 := hr0.2.1
  clear h hr0 h1 h2 h3 h4 h8
  go_enter Try.func19, Try.ntmps19
  go_wp2_with (fail)
  with_reducible refine (wire_NewReader.calls A0 c0 l0 _ HC0.out hc0 (by omega) HBB.out).mono ?_
  rintro en w2 ⟨g, rfl, hd2, hg2, hB2⟩
  have hsz1 : (w.alloc (.cells #[.int .i64 0, .int .i64 0, .int .i64 0, .int .i64 0, .slice none 0 0] 49)).heap.size = w.heap.size + 1 := by simp
  have HO2 := Aside0.mk (show Or (w.alloc (.cells #[.int .i64 0, .int .i64 0, .int .i64 0, .int .i64 0, .slice none 0 0] 49)) w2 w2.heap.size g l0 0 from ⟨_, hd2, fun k hk => hk, Nat.le_refl _, hB2⟩)
  have HZ2 := Aside0.mk ((Blk.new w 49 #[.int .i64 0, .int .i64 0, .int .i64 0, .int .i64 0, .slice none 0 0]).after hB2)
  have HBw := Aside0.mk (((Below.refl w.heap.size w).alloc (Nat.le_refl _) (.cells #[.int .i64 0, .int .i64 0, .int .i64 0, .int .i64 0, .slice none 0 0] 49)))
  rw [hsz1] at hg2
  clear hd2 hB2
  go_wp2_with (fail)
  with_reducible refine (byteQ HO2.out H1.out).mono ?_
  rintro en w3 ⟨rfl, hO3, hF3⟩
  have HO3 := Aside0.mk hO3
  have hg3 : g < w2.heap.size := hO3.g_in.2
  have HZ3 := Aside0.mk (show Blk w3 w.heap.size 49 #[.int .i64 0, .int .i64 0, .int .i64 0, .int .i64 0, .slice none 0 0] from blk_kept HZ2.out hF3.2 (fun h => by omega))
  clear hO3 hF3
  go_wp2_with (fail)
  with_reducible refine (intQ HO3.out H2.out).mono ?_
  rintro en w4 ⟨rfl, hO4, hF4⟩
  have HO4 := Aside0.mk hO4
  skip
  have HZ4 := Aside0.mk (show Blk w4 w.heap.size 49 #[.int .i64 0, .int .i64 0, .int .i64 0, .int .i64 0, .slice none 0 0] from blk_kept HZ3.out hF4.2 (fun h => by omega))
  clear hO4 hF4
  go_wp2_with (fail)
  with_reducible refine (intQ HO4.out H3.out).mono ?_
  rintro en w5 ⟨rfl, hO5, hF5⟩
  have HO5 := Aside0.mk hO5
  skip
  have HZ5 := Aside0.mk (show Blk w5 w.heap.size 49 #[.int .i64 0, .int .i64 0, .int .i64 0, .int .i64 0, .slice none 0 0] from blk_kept HZ4.out hF5.2 (fun h => by omega))
  clear hO5 hF5
  go_wp2_with (fail)
  with_reducible refine (intQ HO5.out H4.out).mono ?_
  rintro en w6 ⟨rfl, hO6, hF6⟩
  have HO6 := Aside0.mk hO6
  skip
  have HZ6 := Aside0.mk (show Blk w6 w.heap.size 49 #[.int .i64 0, .int .i64 0, .int .i64 0, .int .i64 0, .slice none 0 0] from blk_kept HZ5.out hF6.2 (fun h => by omega))
  clear hO6 hF6
  have hle6 : w2.heap.size ≤ w6.heap.size := HO6.out.le
  have hmz : w.heap.size < w6.heap.size := by omega
  have HM := Aside0.mk (Blk.new w6 49 #[.int .i64 v1, .int .i64 v2, .int .i64 v3, .int .i64 v4, .slice none 0 0])
  have HO6a := Aside0.mk (HO6.out.below ((Below.refl _ _).alloc hle6 (.cells #[.int .i64 v1, .int .i64 v2, .int .i64 v3, .int .i64 v4, .slice none 0 0] 49)))
  have HZ6a := Aside0.mk (HZ6.out.alloc (.cells #[.int .i64 v1, .int .i64 v2, .int .i64 v3, .int .i64 v4, .slice none 0 0] 49))
  have hszm : (w6.alloc (.cells #[.int .i64 v1, .int .i64 v2, .int .i64 v3, .int .i64 v4, .slice none 0 0] 49)).heap.size = w6.heap.size + 1 := by simp
  go_wp2_with (fail)
  with_reducible refine (message_log.calls _ _ _ g _ _ ls x8 e8 HO6a.out H8.out).mono ?_
  rintro en wl ⟨vl, rfl, hRl, hOl, hKl⟩
  obtain ⟨A8, c8, rfl, hc8, _⟩ := Kd.R_reads hRl
  have hRl := Kd.R_mono (ok' := fun k => w6.heap.size < k) hRl (fun k hk => by omega)
  have hMl : Blk wl w6.heap.size 49 #[.int .i64 v1, .int .i64 v2, .int .i64 v3, .int .i64 v4, .slice none 0 0] := blk_kept HM.out hKl (fun h => by omega)
  have HZl := Aside0.mk ((show Blk wl w.heap.size 49 #[.int .i64 0, .int .i64 0, .int .i64 0, .int .i64 0, .slice none 0 0] from blk_kept HZ6a.out hKl (fun h => by omega)).far (p := ⟨w6.heap.size, 4, none⟩) (show w.heap.size ≠ w6.heap.size by omega) (.slice A8 ls.length c8))
  have ql : wl.cell? ⟨w6.heap.size, 4, none⟩ = some (.slice none 0 0) := hMl.cell 4
  have fl : wl.frozen? ⟨w6.heap.size, 4, none⟩ = false := hMl.frozen 4
  have HM9 := Aside0.mk (show Blk (wl.setCell ⟨w6.heap.size, 4, none⟩ (.slice A8 ls.length c8)) w6.heap.size 49 #[.int .i64 v1, .int .i64 v2, .int .i64 v3, .int .i64 v4, .slice A8 ls.length c8] from by simpa using hMl.set_ 4 (.slice A8 ls.length c8))
  have HO9 := Aside0.mk (hOl.kept (S2 := fun k => k = w6.heap.size) (Kept.setCell (S := fun k => k = w6.heap.size) (p := ⟨w6.heap.size, 4, none⟩) (Kept.refl wl _) (.inl rfl) (.slice A8 ls.length c8)) (fun k hk => by omega) ((Below.refl _ _).setCell (show (w.alloc (.cells #[.int .i64 0, .int .i64 0, .int .i64 0, .int .i64 0, .slice none 0 0] 49)).heap.size ≤ w6.heap.size by omega) _))
  have HR9 := Aside0.mk (Kd.R_far hRl (p := ⟨w6.heap.size, 4, none⟩) (fun k hk => show k ≠ w6.heap.size by omega) (.slice A8 ls.length c8))
  have m0 : (wl.setCell ⟨w6.heap.size, 4, none⟩ (.slice A8 ls.length c8)).cell? ⟨w6.heap.size, 0, none⟩ = some (.int .i64 v1) := HM9.out.cell 0
  have m1 : (wl.setCell ⟨w6.heap.size, 4, none⟩ (.slice A8 ls.length c8)).cell? ⟨w6.heap.size, 1, none⟩ = some (.int .i64 v2) := HM9.out.cell 1
  have m2 : (wl.setCell ⟨w6.heap.size, 4, none⟩ (.slice A8 ls.length c8)).cell? ⟨w6.heap.size, 2, none⟩ = some (.int .i64 v3) := HM9.out.cell 2
  have m3 : (wl.setCell ⟨w6.heap.size, 4, none⟩ (.slice A8 ls.length c8)).cell? ⟨w6.heap.size, 3, none⟩ = some (.int .i64 v4) := HM9.out.cell 3
  have m4 : (wl.setCell ⟨w6.heap.size, 4, none⟩ (.slice A8 ls.length c8)).cell? ⟨w6.heap.size, 4, none⟩ = some (.slice A8 ls.length c8) := HM9.out.cell 4
  clear hRl hOl hKl hMl
  by_cases hdn : rDone x8 e8 = 0
  rotate_left
  · have hX := HX.out
    rw [if_neg (fun h => hdn h.1)] at hX
    obtain ⟨rfl, rfl, rfl, rfl, rfl, rfl⟩ : 0 = r1 ∧ 0 = r2 ∧ 0 = r3 ∧ 0 = r4 ∧ [] = r5 ∧ 21 = r6 := by simpa using hX
    have hdb : (rDone x8 e8 != 0) = true := by simp [hdn]
    have hdc : (rDone x8 e8 == 0) = false := by simp [hdn]
    clear hX HX hdn
    go_wp2_with (fail)
    with_reducible refine (doneQ HO9.out).mono ?_
    rintro en wd ⟨rfl, hwd⟩
    subst hwd
    have z0 : (wl.setCell ⟨w6.heap.size, 4, none⟩ (.slice A8 ls.length c8)).cell? ⟨w.heap.size, 0, none⟩ = some (.int .i64 0) := HZl.out.cell 0
    have z1 : (wl.setCell ⟨w6.heap.size, 4, none⟩ (.slice A8 ls.length c8)).cell? ⟨w.heap.size, 1, none⟩ = some (.int .i64 0) := HZl.out.cell 1
    have z2 : (wl.setCell ⟨w6.heap.size, 4, none⟩ (.slice A8 ls.length c8)).cell? ⟨w.heap.size, 2, none⟩ = some (.int .i64 0) := HZl.out.cell 2
    have z3 : (wl.setCell ⟨w6.heap.size, 4, none⟩ (.slice A8 ls.length c8)).cell? ⟨w.heap.size, 3, none⟩ = some (.int .i64 0) := HZl.out.cell 3
    have z4 : (wl.setCell ⟨w6.heap.size, 4, none⟩ (.slice A8 ls.length c8)).cell? ⟨w.heap.size, 4, none⟩ = some (.slice none 0 0) := HZl.out.cell 4
    have g0 : (wl.setCell ⟨w6.heap.size, 4, none⟩ (.slice A8 ls.length c8)).frozen? ⟨w.heap.size, 0, none⟩ = false := HZl.out.frozen 0
    have g1 : (wl.setCell ⟨w6.heap.size, 4, none⟩ (.slice A8 ls.length c8)).frozen? ⟨w.heap.size, 1, none⟩ = false := HZl.out.frozen 1
    have g2 : (wl.setCell ⟨w6.heap.size, 4, none⟩ (.slice A8 ls.length c8)).frozen? ⟨w.heap.size, 2, none⟩ = false := HZl.out.frozen 2
    have g3 : (wl.setCell ⟨w6.heap.size, 4, none⟩ (.slice A8 ls.length c8)).frozen? ⟨w.heap.size, 3, none⟩ = false := HZl.out.frozen 3
    have g4 : (wl.setCell ⟨w6.heap.size, 4, none⟩ (.slice A8 ls.length c8)).frozen? ⟨w.heap.size, 4, none⟩ = false := HZl.out.frozen 4
    clear m0 m1 m2 m3 m4
    go_wp2
    with_reducible refine message_GetRecord.ret_ (g := w.heap.size) (e := 21) (((((HZl.out.set_ 0 _).set_ 1 _).set_ 2 _).set_ 3 _).set_ 4 _) ?_ ?_ ?_ ?_
    · rfl
    · rfl
    · rfl
    · exact ⟨_, rfl, Kd.R_nil _ _ _ _ _, ((((((HBw.out.trans (HO9.out.bel.mono HBw.out.size)).setCell (Nat.le_refl _) _).setCell (Nat.le_refl _) _).setCell (Nat.le_refl _) _).setCell (Nat.le_refl _) _).setCell (Nat.le_refl _) _)⟩
  have hdb : (rDone x8 e8 != 0) = false := by simp [hdn]
  have hdc : (rDone x8 e8 == 0) = true := by simp [hdn]
  cases hrt : rightR ⟨v1, v2, v3, v4, ls⟩ with
  | false =>
    have HF := Aside0.mk (show message_RightRecord.f v1 v2 v3 v4 ls = some false by rw [← hrt]; exact rightR_f ⟨v1, v2, v3, v4, ls⟩)
    have hX := HX.out
    rw [if_neg (fun h => by have := h.2.1; rw [hrt] at this; cases this)] at hX
    obtain ⟨rfl, rfl, rfl, rfl, rfl, rfl⟩ : 0 = r1 ∧ 0 = r2 ∧ 0 = r3 ∧ 0 = r4 ∧ [] = r5 ∧ 21 = r6 := by simpa using hX
    clear hX HX hdn hrt
    go_wp2_with (fail)
    with_reducible refine (doneQ HO9.out).mono ?_
    rintro en wd ⟨rfl, hwd⟩
    subst hwd
    go_wp2_with (fail)
    with_reducible refine (message_RightRecord.calls v1 v2 v3 v4 A8 c8 ls false _ (Kd.R_reads' HR9.out).2.2 hc8 HF.out).mono ?_
    rintro en wr ⟨rfl, hbr⟩
    have HBr := Aside0.mk ((HBw.out.trans (HO9.out.bel.mono HBw.out.size)).trans (hbr.mono (HBw.out.trans (HO9.out.bel.mono HBw.out.size)).size))
    have HZr := Aside0.mk (HZl.out.after hbr)
    clear hbr m0 m1 m2 m3 m4
    have z0 : wr.cell? ⟨w.heap.size, 0, none⟩ = some (.int .i64 0) := HZr.out.cell 0
    have z1 : wr.cell? ⟨w.heap.size, 1, none⟩ = some (.int .i64 0) := HZr.out.cell 1
    have z2 : wr.cell? ⟨w.heap.size, 2, none⟩ = some (.int .i64 0) := HZr.out.cell 2
    have z3 : wr.cell? ⟨w.heap.size, 3, none⟩ = some (.int .i64 0) := HZr.out.cell 3
    have z4 : wr.cell? ⟨w.heap.size, 4, none⟩ = some (.slice none 0 0) := HZr.out.cell 4
    have g0 : wr.frozen? ⟨w.heap.size, 0, none⟩ = false := HZr.out.frozen 0
    have g1 : wr.frozen? ⟨w.heap.size, 1, none⟩ = false := HZr.out.frozen 1
    have g2 : wr.frozen? ⟨w.heap.size, 2, none⟩ = false := HZr.out.frozen 2
    have g3 : wr.frozen? ⟨w.heap.size, 3, none⟩ = false := HZr.out.frozen 3
    have g4 : wr.frozen? ⟨w.heap.size, 4, none⟩ = false := HZr.out.frozen 4
    go_wp2
    with_reducible refine message_GetRecord.ret_ (g := w.heap.size) (e := 21) (((((HZr.out.set_ 0 _).set_ 1 _).set_ 2 _).set_ 3 _).set_ 4 _) ?_ ?_ ?_ ?_
    · rfl
    · rfl
    · rfl
    · exact ⟨_, rfl, Kd.R_nil _ _ _ _ _, (((((HBr.out.setCell (Nat.le_refl _) _).setCell (Nat.le_refl _) _).setCell (Nat.le_refl _) _).setCell (Nat.le_refl _) _).setCell (Nat.le_refl _) _)⟩
  | true =>
    have HF := Aside0.mk (show message_RightRecord.f v1 v2 v3 v4 ls = some true by rw [← hrt]; exact rightR_f ⟨v1, v2, v3, v4, ls⟩)
    by_cases hlen : l0.length ≤ 1048576
    rotate_left
    · have hX := HX.out
      rw [if_neg (fun h => hlen h.2.2)] at hX
      obtain ⟨rfl, rfl, rfl, rfl, rfl, rfl⟩ : 0 = r1 ∧ 0 = r2 ∧ 0 = r3 ∧ 0 = r4 ∧ [] = r5 ∧ 21 = r6 := by simpa using hX
      have hl2 : (1048576 : Int) < (l0.length : Int) := by omega
      clear hX HX hdn hrt hlen
      go_wp2_with (fail)
      with_reducible refine (doneQ HO9.out).mono ?_
      rintro en wd ⟨rfl, hwd⟩
      subst hwd
      go_wp2_with (fail)
      with_reducible refine (message_RightRecord.calls v1 v2 v3 v4 A8 c8 ls true _ (Kd.R_reads' HR9.out).2.2 hc8 HF.out).mono ?_
      rintro en wr ⟨rfl, hbr⟩
      have HBr := Aside0.mk ((HBw.out.trans (HO9.out.bel.mono HBw.out.size)).trans (hbr.mono (HBw.out.trans (HO9.out.bel.mono HBw.out.size)).size))
      have HZr := Aside0.mk (HZl.out.after hbr)
      clear hbr m0 m1 m2 m3 m4
      have z0 : wr.cell? ⟨w.heap.size, 0, none⟩ = some (.int .i64 0) := HZr.out.cell 0
      have z1 : wr.cell? ⟨w.heap.size, 1, none⟩ = some (.int .i64 0) := HZr.out.cell 1
      have z2 : wr.cell? ⟨w.heap.size, 2, none⟩ = some (.int .i64 0) := HZr.out.cell 2
      have z3 : wr.cell? ⟨w.heap.size, 3, none⟩ = some (.int .i64 0) := HZr.out.cell 3
      have z4 : wr.cell? ⟨w.heap.size, 4, none⟩ = some (.slice none 0 0) := HZr.out.cell 4
      have g0 : wr.frozen? ⟨w.heap.size, 0, none⟩ = false := HZr.out.frozen 0
      have g1 : wr.frozen? ⟨w.heap.size, 1, none⟩ = false := HZr.out.frozen 1
      have g2 : wr.frozen? ⟨w.heap.size, 2, none⟩ = false := HZr.out.frozen 2
      have g3 : wr.frozen? ⟨w.heap.size, 3, none⟩ = false := HZr.out.frozen 3
      have g4 : wr.frozen? ⟨w.heap.size, 4, none⟩ = false := HZr.out.frozen 4
      go_wp2
      with_reducible refine message_GetRecord.ret_ (g := w.heap.size) (e := 21) (((((HZr.out.set_ 0 _).set_ 1 _).set_ 2 _).set_ 3 _).set_ 4 _) ?_ ?_ ?_ ?_
      · rfl
      · rfl
      · rfl
      · exact ⟨_, rfl, Kd.R_nil _ _ _ _ _, (((((HBr.out.setCell (Nat.le_refl _) _).setCell (Nat.le_refl _) _).setCell (Nat.le_refl _) _).setCell (Nat.le_refl _) _).setCell (Nat.le_refl _) _)⟩
    · have hX := HX.out
      rw [if_pos ⟨hdn, hrt, hlen⟩] at hX
      have HE := Aside0.mk (show v1 = r1 ∧ v2 = r2 ∧ v3 = r3 ∧ v4 = r4 ∧ ls = r5 ∧ (0 : Int) = r6 from by simpa using hX)
      have hl2 : ¬ (1048576 : Int) < (l0.length : Int) := by omega
      clear hX HX hdn hrt hlen
      go_wp2_with (fail)
      with_reducible refine (doneQ HO9.out).mono ?_
      rintro en wd ⟨rfl, hwd⟩
      subst hwd
      go_wp2_with (fail)
      with_reducible refine (message_RightRecord.calls v1 v2 v3 v4 A8 c8 ls true _ (Kd.R_reads' HR9.out).2.2 hc8 HF.out).mono ?_
      rintro en wr ⟨rfl, hbr⟩
      have HBr := Aside0.mk ((HBw.out.trans (HO9.out.bel.mono HBw.out.size)).trans (hbr.mono (HBw.out.trans (HO9.out.bel.mono HBw.out.size)).size))
      have HZr := Aside0.mk (HZl.out.after hbr)
      have HMr := Aside0.mk (HM9.out.after hbr)
      have HRr := Aside0.mk (Kd.R_below HR9.out hbr)
      clear hbr m0 m1 m2 m3 m4
      have z0 : wr.cell? ⟨w.heap.size, 0, none⟩ = some (.int .i64 0) := HZr.out.cell 0
      have z1 : wr.cell? ⟨w.heap.size, 1, none⟩ = some (.int .i64 0) := HZr.out.cell 1
      have z2 : wr.cell? ⟨w.heap.size, 2, none⟩ = some (.int .i64 0) := HZr.out.cell 2
      have z3 : wr.cell? ⟨w.heap.size, 3, none⟩ = some (.int .i64 0) := HZr.out.cell 3
      have z4 : wr.cell? ⟨w.heap.size, 4, none⟩ = some (.slice none 0 0) := HZr.out.cell 4
      have g0 : wr.frozen? ⟨w.heap.size, 0, none⟩ = false := HZr.out.frozen 0
      have g1 : wr.frozen? ⟨w.heap.size, 1, none⟩ = false := HZr.out.frozen 1
      have g2 : wr.frozen? ⟨w.heap.size, 2, none⟩ = false := HZr.out.frozen 2
      have g3 : wr.frozen? ⟨w.heap.size, 3, none⟩ = false := HZr.out.frozen 3
      have g4 : wr.frozen? ⟨w.heap.size, 4, none⟩ = false := HZr.out.frozen 4
      have m0 : wr.cell? ⟨w6.heap.size, 0, none⟩ = some (.int .i64 v1) := HMr.out.cell 0
      have m1 : wr.cell? ⟨w6.heap.size, 1, none⟩ = some (.int .i64 v2) := HMr.out.cell 1
      have m2 : wr.cell? ⟨w6.heap.size, 2, none⟩ = some (.int .i64 v3) := HMr.out.cell 2
      have m3 : wr.cell? ⟨w6.heap.size, 3, none⟩ = some (.int .i64 v4) := HMr.out.cell 3
      have m4 : wr.cell? ⟨w6.heap.size, 4, none⟩ = some (.slice A8 ls.length c8) := HMr.out.cell 4
      go_wp2
      with_reducible refine message_GetRecord.ret_ (g := w.heap.size) (e := 0) (((((HZr.out.set_ 0 _).set_ 1 _).set_ 2 _).set_ 3 _).set_ 4 _) ?_ ?_ ?_ ?_
      · rfl
      · rfl
      · rfl
      · obtain ⟨rfl, rfl, rfl, rfl, rfl, rfl⟩ := HE.out
        exact ⟨_, rfl, Kd.R_lower (Kd.R_mono (Kd.R_far (Kd.R_far (Kd.R_far (Kd.R_far (Kd.R_far HRr.out (p := ⟨w.heap.size, 0, none⟩) (fun k hk => show k ≠ w.heap.size by omega) _) (p := ⟨w.heap.size, 1, none⟩) (fun k hk => show k ≠ w.heap.size by omega) _) (p := ⟨w.heap.size, 2, none⟩) (fun k hk => show k ≠ w.heap.size by omega) _) (p := ⟨w.heap.size, 3, none⟩) (fun k hk => show k ≠ w.heap.size by omega) _) (p := ⟨w.heap.size, 4, none⟩) (fun k hk => show k ≠ w.heap.size by omega) _) (fun _ _ => trivial)) (by omega), (((((HBr.out.setCell (Nat.le_refl _) _).setCell (Nat.le_refl _) _).setCell (Nat.le_refl _) _).setCell (Nat.le_refl _) _).setCell (Nat.le_refl _) _)⟩


end Go.Proofs.Ytlmlkcobkmhmbaa.Q
end

section
-- written by hprint.py (a program of these sessions) out of the translation; Lean checks it
namespace Go.Proofs.Ytlmlkcobkmhmbaa.Q
open Go.RowKit Go.Proofs.YtlmlkcobkmhmbaaW.Hb Go.Proofs.YtlmlkcobkmhmbaaW.PrintWords Go.Proofs.YtlmlkcobkmhmbaaW.PrintLast Go.Proofs.YtlmlkcobkmhmbaaW.PrintMore
attribute [local go_sem] max2_int min2_int max_two min_two max_three min_three max_four min_four   -- for this text's walks alone
set_option linter.unusedVariables false
set_option linter.unusedSimpArgs false

/-! ### weighhouseref01_Reader_Left: function 72, by hand -/
/-- The document's reader: its block g, all bytes, its place, its error; S: its blocks. -/
def Rq (w : World) (S : Nat → Prop) (g : Nat) (B : List Int) (a : Nat) (e : Int) : Prop := ∃ A c, Blk w g 121 #[.slice A B.length c, .int .i64 a, .int .i64 e] ∧ B.length ≤ c ∧ S g ∧ (∀ ad, A = some ad → S ad.block ∧ ad.block ≠ g ∧ ad.block < w.heap.size) ∧ (Kd.int .u8).C w A B.length B ∧ (∀ x ∈ B, 0 ≤ x ∧ x ≤ 255) ∧ a ≤ B.length ∧ B.length ≤ 140737488355328
theorem Rq.lt {w : World} {S : Nat → Prop} {g : Nat} {B : List Int} {a : Nat} {e : Int} (h : Rq w S g B a e) : g < w.heap.size := by
  obtain ⟨A, c, hb, _⟩ := h
  exact hb.lt
theorem Rq.info {w : World} {S : Nat → Prop} {g : Nat} {B : List Int} {a : Nat} {e : Int} (h : Rq w S g B a e) : (∀ x ∈ B, 0 ≤ x ∧ x ≤ 255) ∧ a ≤ B.length ∧ B.length ≤ 140737488355328 := by
  obtain ⟨_, _, _, _, _, _, _, h⟩ := h
  exact h
theorem Rq.kept {w w' : World} {S S2 : Nat → Prop} {g : Nat} {B : List Int} {a : Nat} {e : Int} (h : Rq w S g B a e) (hk : Kept w w' S2) (hd : ∀ k, S k → ¬ S2 k) : Rq w' S g B a e := by
  obtain ⟨A, c, hb, hc, hS, hA, hC, hx⟩ := h
  exact ⟨A, c, blk_kept hb hk (hd g hS), hc, hS, fun ad e => ⟨(hA ad e).1, (hA ad e).2.1, Nat.lt_of_lt_of_le (hA ad e).2.2 hk.1⟩, C_keptb hC hk (fun ad e => ⟨hd _ (hA ad e).1, (hA ad e).2.2⟩), hx⟩
theorem Rq.below {w w' : World} {S : Nat → Prop} {g : Nat} {B : List Int} {a : Nat} {e : Int} (h : Rq w S g B a e) (hb : Below w.heap.size w w') : Rq w' S g B a e := h.kept (Kept.of_below hb (fun _ => False)) (fun _ _ hk => hk)
theorem Rq.set_at {w : World} {S : Nat → Prop} {g : Nat} {B : List Int} {a a' : Nat} {e : Int} (h : Rq w S g B a e) (ha : a' ≤ B.length) : Rq (w.setCell ⟨g, 1, none⟩ (.int .i64 a')) S g B a' e := by
  obtain ⟨A, c, hb, hc, hS, hA, hC, hx, _, hl⟩ := h
  exact ⟨A, c, by simpa using hb.set_ 1 (.int .i64 a'), hc, hS, fun ad e => ⟨(hA ad e).1, (hA ad e).2.1, by simpa [World.setCell] using (hA ad e).2.2⟩, Rd.far hC (fun ad e => (hA ad e).2) 1 _, hx, ha, hl⟩
theorem Rq.set_e {w : World} {S : Nat → Prop} {g : Nat} {B : List Int} {a : Nat} {e e' : Int} (h : Rq w S g B a e) : Rq (w.setCell ⟨g, 2, none⟩ (.int .i64 e')) S g B a e' := by
  obtain ⟨A, c, hb, hc, hS, hA, hC, hx, ha, hl⟩ := h
  exact ⟨A, c, by simpa using hb.set_ 2 (.int .i64 e'), hc, hS, fun ad e => ⟨(hA ad e).1, (hA ad e).2.1, by simpa [World.setCell] using (hA ad e).2.2⟩, Rd.far hC (fun ad e => (hA ad e).2) 2 _, hx, ha, hl⟩
set_option maxRecDepth 100000 in
theorem weighhouseref01_Reader_Left.calls (S : Nat → Prop) (g : Nat) (B : List Int) (a : Nat) (ev : Int) (w : World) (hR : Rq w S g B a ev) :
    Calls Try.prog 72 #[.pointer (some ⟨g, 0, none⟩)] w fun e w' => e = .returned (.int .i64 ((B.drop a).length : Int)) ∧ Below w.heap.size w w' := by
  obtain ⟨A, c, hb, hc, hS, hA, hC, hx, ha, hl⟩ := hR
  have k0 : w.drew.cell? ⟨g, 0, none⟩ = some (.slice A B.length c) := hb.cell 0
  have k1 : w.drew.cell? ⟨g, 1, none⟩ = some (.int .i64 a) := hb.cell 1
  have hd : wrap64 ((B.length : Int) - (a : Int)) = ((B.drop a).length : Int) := by
    rw [wrapI (by omega) (by omega), List.length_drop]
    omega
  obtain ⟨n, hn⟩ : ∃ n : Int, ((B.drop a).length : Int) = n := ⟨_, rfl⟩
  rw [hn] at hd ⊢
  clear hb hC hx hA hn
  go_enter Try.func72, Try.ntmps72
  go_wp2
  have HBd := Aside0.mk ((Below.refl w.heap.size w).drew)
  refine start_ (n := 11) (S := fun w' => w'.cell? ⟨g, 0, none⟩ = some (.slice A B.length c) ∧ w'.cell? ⟨g, 1, none⟩ = some (.int .i64 a)) (ds := []) #[false, false, false, false, false, false, false, false, false, false, false] (by kernel_rfl) rfl rfl ⟨k0, k1⟩ (fun hHeld => ?_)
  generalize w.drew = wd at k0 k1 HBd hHeld ⊢
  refine pure_ (i := 0) (N := some 3) (v := ?_) (a' := ?_) #[true, false, false, false, false, false, false, false, false, false, false] rfl rfl (by kernel_rfl) (fun _ _ _ h => h) (Or.inl ⟨by rfl, ?_⟩) ?_ ?_
  rotate_left
  · intro w'
    go_simp
    with_reducible rfl
  rotate_left
  · simp only [Act.put, List.setIfInBounds_toArray, List.set_cons_zero, List.set_cons_succ, i64_w, i32_w]
    rfl
  refine pure_ (i := 1) (N := some 4) (v := ?_) (a' := ?_) #[true, true, false, false, false, false, false, false, false, false, false] rfl rfl (by kernel_rfl) (fun _ _ _ h => h) (Or.inl ⟨by rfl, ?_⟩) ?_ ?_
  rotate_left
  · intro w'
    go_simp
    with_reducible rfl
  rotate_left
  · simp only [Act.put, List.setIfInBounds_toArray, List.set_cons_zero, List.set_cons_succ, i64_w, i32_w]
    rfl
  refine pure_ (i := 2) (N := some 5) (v := ?_) (a' := ?_) #[true, true, true, false, false, false, false, false, false, false, false] rfl rfl (by kernel_rfl) (fun _ _ _ h => h) (Or.inl ⟨by rfl, ?_⟩) ?_ ?_
  rotate_left
  · intro w'
    go_simp
    with_reducible rfl
  rotate_left
  · simp only [Act.put, List.setIfInBounds_toArray, List.set_cons_zero, List.set_cons_succ, i64_w, i32_w]
    rfl
  refine pure_ (i := 5) (N := some 8) (v := ?_) (a' := ?_) #[true, true, true, false, false, true, false, false, false, false, false] rfl rfl (by kernel_rfl) (fun _ _ _ h => h) (Or.inl ⟨by rfl, ?_⟩) ?_ ?_
  rotate_left
  · intro w'
    go_simp
    with_reducible rfl
  rotate_left
  · simp only [Act.put, List.setIfInBounds_toArray, List.set_cons_zero, List.set_cons_succ, i64_w, i32_w]
    rfl
  refine pure_ (i := 6) (N := some 9) (v := ?_) (a' := ?_) #[true, true, true, false, false, true, true, false, false, false, false] rfl rfl (by kernel_rfl) (fun _ _ _ h => h) (Or.inl ⟨by rfl, ?_⟩) ?_ ?_
  rotate_left
  · intro w'
    go_simp
    with_reducible rfl
  rotate_left
  · simp only [Act.put, List.setIfInBounds_toArray, List.set_cons_zero, List.set_cons_succ, i64_w, i32_w]
    rfl
  refine pure_ (i := 7) (N := some 10) (v := ?_) (a' := ?_) #[true, true, true, false, false, true, true, true, false, false, false] rfl rfl (by kernel_rfl) (fun _ _ _ h => h) (Or.inl ⟨by rfl, ?_⟩) ?_ ?_
  rotate_left
  · intro w'
    go_simp
    with_reducible rfl
  rotate_left
  · simp only [Act.put, List.setIfInBounds_toArray, List.set_cons_zero, List.set_cons_succ, i64_w, i32_w]
    rfl
  refine take_ (i := 3) (N := some 6) (v := ?_) (a' := ?_) #[true, true, true, true, false, true, true, true, false, false, false] rfl rfl (by kernel_rfl) (fun _ _ _ h => h) (Or.inl ⟨by rfl, ?_⟩) hHeld ?_ ?_
  rotate_left
  · rintro w' ⟨s0, s1⟩
    go_simp
    with_reducible rfl
  rotate_left
  · simp only [Act.put, List.setIfInBounds_toArray, List.set_cons_zero, List.set_cons_succ, i64_w, i32_w]
    rfl
  refine pure_ (i := 4) (N := some 7) (v := ?_) (a' := ?_) #[true, true, true, true, true, true, true, true, false, false, false] rfl rfl (by kernel_rfl) (fun _ _ _ h => h) (Or.inl ⟨by rfl, ?_⟩) ?_ ?_
  rotate_left
  · intro w'
    go_simp
    with_reducible rfl
  rotate_left
  · simp only [Act.put, List.setIfInBounds_toArray, List.set_cons_zero, List.set_cons_succ, i64_w, i32_w]
    rfl
  refine take_ (i := 8) (N := some 11) (v := ?_) (a' := ?_) #[true, true, true, true, true, true, true, true, true, false, false] rfl rfl (by kernel_rfl) (fun _ _ _ h => h) (Or.inl ⟨by rfl, ?_⟩) hHeld ?_ ?_
  rotate_left
  · rintro w' ⟨s0, s1⟩
    go_simp
    with_reducible rfl
  rotate_left
  · simp only [Act.put, List.setIfInBounds_toArray, List.set_cons_zero, List.set_cons_succ, i64_w, i32_w]
    rfl
  refine pure_ (i := 9) (N := some 12) (v := ?_) (a' := ?_) #[true, true, true, true, true, true, true, true, true, true, false] rfl rfl (by kernel_rfl) (fun _ _ _ h => h) (Or.inl ⟨by rfl, ?_⟩) ?_ ?_
  rotate_left
  · intro w'
    go_simp
    with_reducible rfl
  rotate_left
  · simp only [Act.put, List.setIfInBounds_toArray, List.set_cons_zero, List.set_cons_succ, i64_w, i32_w]
    rfl
  refine pure_ (i := 10) (N := some 2) (v := ?_) (a' := ?_) #[true, true, true, true, true, true, true, true, true, true, true] rfl rfl (by kernel_rfl) (fun _ _ _ h => h) (Or.inl ⟨by rfl, ?_⟩) ?_ ?_
  rotate_left
  · intro w'
    go_simp
    with_reducible rfl
  rotate_left
  · simp only [Act.put, List.setIfInBounds_toArray, List.set_cons_zero, List.set_cons_succ, i64_w, i32_w]
    rfl
  refine done_ (by kernel_rfl) ?_
  clear hHeld k0 k1 hd
  go_wp2
  go_ret
  exact ⟨rfl, HBd.out⟩


end Go.Proofs.Ytlmlkcobkmhmbaa.Q
end

section
-- written by hprint.py (a program of these sessions) out of the translation; Lean checks it
namespace Go.Proofs.Ytlmlkcobkmhmbaa.Q
open Go.RowKit Go.Proofs.YtlmlkcobkmhmbaaW.Hb Go.Proofs.YtlmlkcobkmhmbaaW.PrintWords Go.Proofs.YtlmlkcobkmhmbaaW.PrintLast Go.Proofs.YtlmlkcobkmhmbaaW.PrintMore
attribute [local go_sem] max2_int min2_int max_two min_two max_three min_three max_four min_four   -- for this text's walks alone
set_option linter.unusedVariables false
set_option linter.unusedSimpArgs false

/-! ### weighhouseref01_NewReader: function 46, by hand -/
set_option maxRecDepth 100000 in
theorem weighhouseref01_NewReader.calls (A : Option Addr) (c : Nat) (l : List Int) (w : World) (hr : (Kd.int .u8).C w A l.length l) (hc : l.length ≤ c) (hl : l.length * 1 ≤ 140737488355328) (hx : ∀ x ∈ l, 0 ≤ x ∧ x ≤ 255) :
    Calls Try.prog 46 #[.slice A l.length c] w fun e w' => ∃ g, e = .returned (.pointer (some ⟨g, 0, none⟩)) ∧ Rq w' (fun k => w.heap.size ≤ k ∧ k < w'.heap.size) g l 0 0 ∧ w.heap.size ≤ g ∧ Below w.heap.size w w' := by
  have HC := Aside0.mk (Kd.C_alloc hr (.cells #[] 5))
  have HX := Aside0.mk hx
  have HO := Aside0.mk (show (Kd.int .u8).R 5 (w.alloc (.cells #[] 5)) w.heap.size (fun _ => True) (.slice (some ⟨w.heap.size, 0, none⟩) 0 0) [] from Kd.R_of_own (own_lit w w.heap.size 5 .u8 [] (Nat.le_refl _) (by simp)) (fun _ _ => trivial))
  have HB := Aside0.mk ((Below.refl w.heap.size w).alloc (Nat.le_refl _) (.cells #[] 5))
  clear hr hx
  go_enter Try.func46, Try.ntmps46
  go_wp2_with ((with_reducible refine gate_builtin (b := .append) (xs := #[.tmp 3, .tmp 4]) rfl ?_); at_builtin; refine Kd.R_append_rows (Kd.int .u8) (w0 := w) (Rr := (Kd.int .u8).K (w.alloc (.cells #[] 5))) w.heap.size rfl (.tmp 3) (.tmp 4) 35 5 (.int .u8 0) 1 rfl Try.underlying35 info5 rfl (by decide) (by omega) (.slice (some ⟨w.heap.size, 0, none⟩) 0 0) [] l A l.length c (fun _ => True) (fun _ => False) rfl rfl HO.out HC.out (fun x cs hK => hK) (fun _ hk => hk.elim) (fun _ _ => trivial) HB.out HB.out.size (by simpa using hl) ?_; intro v2 w2 hR2 hB2 _ _; rw [List.nil_append] at hR2; obtain ⟨A2, c2, rfl, hc2, hC2⟩ := Kd.R_reads hR2; have HR2 := Aside0.mk (Kd.R_bound hR2); have HB2 := Aside0.mk hB2; have HC2 := Aside0.mk hC2; clear hR2 hB2 hC2)
  go_ret
  have hs := HB2.out.size
  refine ⟨w2.heap.size, rfl, ⟨A2, c2, Blk.new w2 _ _, hc2, ⟨hs, by simp⟩, fun ad e => ?_, Kd.C_alloc HC2.out _, HX.out, Nat.zero_le _, by omega⟩, hs, HB2.out.alloc hs _⟩
  subst e
  have hb := HR2.out.1 ad.block rfl
  have h1 := hb.2.1
  have h2 := hb.2.2.1
  refine ⟨⟨h1, ?_⟩, by omega, ?_⟩ <;> (simp; omega)


end Go.Proofs.Ytlmlkcobkmhmbaa.Q
end

section
-- written by hprint.py (a program of these sessions) out of the translation; Lean checks it
namespace Go.Proofs.Ytlmlkcobkmhmbaa.Q
open Go.RowKit Go.Proofs.YtlmlkcobkmhmbaaW.Hb Go.Proofs.YtlmlkcobkmhmbaaW.PrintWords Go.Proofs.YtlmlkcobkmhmbaaW.PrintLast Go.Proofs.YtlmlkcobkmhmbaaW.PrintMore
attribute [local go_sem] max2_int min2_int max_two min_two max_three min_three max_four min_four   -- for this text's walks alone
set_option linter.unusedVariables false
set_option linter.unusedSimpArgs false

/-! ### weighhouseref01_Reader_has: function 70, by hand -/
def hasS (l : Nat) (e n : Int) : Bool × Int := if e = 0 then (if (l : Int) < n then (false, 20) else (true, 0)) else (false, e)
set_option maxRecDepth 100000 in
theorem weighhouseref01_Reader_has.calls (S : Nat → Prop) (g : Nat) (B : List Int) (a : Nat) (ev n : Int) (b : Bool) (e1 : Int) (w : World) (hR : Rq w S g B a ev) (hh : hasS (B.drop a).length ev n = (b, e1)) :
    Calls Try.prog 70 #[.pointer (some ⟨g, 0, none⟩), .int .i64 n] w fun e w' => e = .returned (.bool b) ∧ Rq w' S g B a e1 ∧ Fr w w' (fun k => k = g) := by
  have HR := Aside0.mk hR
  obtain ⟨A, c, hb, hc, hS, hA, hC, hx, ha, hl⟩ := hR
  have k2 : w.cell? ⟨g, 2, none⟩ = some (.int .i64 ev) := hb.cell 2
  have HB := Aside0.mk hb
  clear hb hC hx hA
  unfold hasS at hh
  by_cases he : ev = 0
  · subst he
    rw [if_pos rfl] at hh
    obtain ⟨ln, hln⟩ : ∃ ln : Int, ((B.drop a).length : Int) = ln := ⟨_, rfl⟩
    have HLN := Aside0.mk hln
    rw [hln] at hh
    clear hln
    by_cases h1 : ln < n
    · rw [if_pos h1] at hh
      cases hh
      have d1 : decide (ln < n) = true := decide_eq_true h1
      have f2 : w.frozen? ⟨g, 2, none⟩ = false := HB.out.frozen 2
      clear h1
      go_enter Try.func70, Try.ntmps70
      go_wp2_with (go_at_call 72; (with_reducible refine (weighhouseref01_Reader_Left.calls S g B a 0 _ HR.out).mono ?_); rintro e2 w2 ⟨rfl, hB2⟩; rw [HLN.out]; have hbk := HB.out.after hB2; have k3 : w2.cell? ⟨g, 2, none⟩ = some (.int .i64 0) := hbk.cell 2; have f3 : w2.frozen? ⟨g, 2, none⟩ = false := hbk.frozen 2; have HB2 := Aside0.mk hB2; clear hB2 hbk)
      go_ret
      exact ⟨rfl, (HR.out.below HB2.out).set_e, (Fr.of_below HB2.out _).then_ (Fr.set_ w2 g 2 _) (fun _ h => .inl h)⟩
    · rw [if_neg h1] at hh
      cases hh
      have d1 : decide (ln < n) = false := decide_eq_false h1
      clear h1
      go_enter Try.func70, Try.ntmps70
      go_wp2_with (go_at_call 72; (with_reducible refine (weighhouseref01_Reader_Left.calls S g B a 0 _ HR.out).mono ?_); rintro e2 w2 ⟨rfl, hB2⟩; rw [HLN.out]; have HB2 := Aside0.mk hB2; clear hB2)
      go_ret
      exact ⟨rfl, HR.out.below HB2.out, Fr.of_below HB2.out _⟩
  · rw [if_neg he] at hh
    cases hh
    have d1 : (ev == 0) = false := by simp [he]
    have d2 : (ev != 0) = true := by simp [he]
    clear he
    go_enter Try.func70, Try.ntmps70
    go_wp2
    go_ret
    exact ⟨rfl, HR.out, Fr.of_below (Below.refl _ _) _⟩


end Go.Proofs.Ytlmlkcobkmhmbaa.Q
end

section
-- written by hprint.py (a program of these sessions) out of the translation; Lean checks it
namespace Go.Proofs.Ytlmlkcobkmhmbaa.Q
open Go.RowKit Go.Proofs.YtlmlkcobkmhmbaaW.Hb Go.Proofs.YtlmlkcobkmhmbaaW.PrintWords Go.Proofs.YtlmlkcobkmhmbaaW.PrintLast Go.Proofs.YtlmlkcobkmhmbaaW.PrintMore
attribute [local go_sem] max2_int min2_int max_two min_two max_three min_three max_four min_four   -- for this text's walks alone
set_option linter.unusedVariables false
set_option linter.unusedSimpArgs false

/-! ### weighhouseref01_Reader_Byte: function 47, by hand -/
theorem drop_rd (B : List Int) (a i : Nat) : rd (B.drop a) (i : Int) = rd B ((a + i : Nat) : Int) := by
  simp only [rd, Int.toNat_natCast, List.getD_eq_getElem?_getD, List.getElem?_drop]
theorem hasS_err {l : Nat} {e n : Int} (h : e ≠ 0) : hasS l e n = (false, e) := if_neg h
theorem hasS_end {l : Nat} {n : Int} (h : (l : Int) < n) : hasS l 0 n = (false, 20) := by unfold hasS; rw [if_pos rfl, if_pos h]
theorem hasS_ok {l : Nat} {n : Int} (h : ¬ (l : Int) < n) : hasS l 0 n = (true, 0) := by unfold hasS; rw [if_pos rfl, if_neg h]
set_option maxRecDepth 100000 in
set_option maxHeartbeats 1000000 in
theorem weighhouseref01_Reader_Byte.calls (S : Nat → Prop) (g : Nat) (B : List Int) (a : Nat) (ev : Int) (w : World) (hR : Rq w S g B a ev) :
    Calls Try.prog 47 #[.pointer (some ⟨g, 0, none⟩)] w fun e w' => e = .returned (.int .i64 (rByte (B.drop a) ev).1) ∧ (∃ a', Rq w' S g B a' (rByte (B.drop a) ev).2.2 ∧ B.drop a' = (rByte (B.drop a) ev).2.1) ∧ Fr w w' (fun k => k = g) := by
  have HR := Aside0.mk hR
  by_cases he : ev = 0
  rotate_left
  · have HH := Aside0.mk (hasS_err (l := (B.drop a).length) (n := 1) he)
    rw [rByte_err he]
    clear hR he
    go_enter Try.func47, Try.ntmps47
    go_wp2_with (go_at_call 70; (with_reducible refine (weighhouseref01_Reader_has.calls S g B a ev 1 _ _ _ HR.out HH.out).mono ?_); rintro e2 w2 ⟨rfl, hR2, hF2⟩; have HR2 := Aside0.mk hR2; have HF2 := Aside0.mk hF2; clear hR2 hF2)
    go_ret
    exact ⟨rfl, ⟨a, HR2.out, rfl⟩, HF2.out⟩
  subst he
  by_cases h1 : (B.drop a).length < 1
  · have HH := Aside0.mk (hasS_end (l := (B.drop a).length) (n := 1) (by omega))
    rw [rByte_end h1]
    clear hR h1
    go_enter Try.func47, Try.ntmps47
    go_wp2_with (go_at_call 70; (with_reducible refine (weighhouseref01_Reader_has.calls S g B a 0 1 _ _ _ HR.out HH.out).mono ?_); rintro e2 w2 ⟨rfl, hR2, hF2⟩; have HR2 := Aside0.mk hR2; have HF2 := Aside0.mk hF2; clear hR2 hF2)
    go_ret
    exact ⟨rfl, ⟨a, HR2.out, rfl⟩, HF2.out⟩
  · have HH := Aside0.mk (hasS_ok (l := (B.drop a).length) (n := 1) (by omega))
    rw [rByte_ok h1]
    obtain ⟨hx, ha, hl⟩ := Rq.info hR
    clear hR
    have hln : (B.drop a).length = B.length - a := List.length_drop
    have hal0 : a < B.length := by omega
    have hrd : rd (B.drop a) 0 = B[a]'hal0 := (drop_rd B a 0).trans (rdN B a hal0)
    have hp := hx _ (List.getElem_mem hal0)
    obtain ⟨p, hpp⟩ : ∃ p, B[a]'hal0 = p := ⟨_, rfl⟩
    have HP := Aside0.mk hpp
    rw [hrd, hpp]
    rw [hpp] at hp
    obtain ⟨p0, p1⟩ := hp
    clear hx hrd hpp hln h1
    go_enter Try.func47, Try.ntmps47
    go_upto_region 3 with (go_at_call 70; (with_reducible refine (weighhouseref01_Reader_has.calls S g B a 0 1 _ _ _ HR.out HH.out).mono ?_); rintro e2 w2 ⟨rfl, hR2, hF2⟩; have HR2 := Aside0.mk hR2; have HF2 := Aside0.mk hF2; clear hR2 hF2)
    obtain ⟨A, c, hb, _⟩ := HR2.out
    have k1 : w2.cell? ⟨g, 1, none⟩ = some (.int .i64 a) := hb.cell 1
    have f1 : w2.frozen? ⟨g, 1, none⟩ = false := hb.frozen 1
    clear hb
    go_wp2
    have HR3 := Aside0.mk (Rq.set_at (a' := a + 1) HR2.out (by omega))
    have HF3 := Aside0.mk (HF2.out.then_ (Fr.set_ w2 g 1 (.int .i64 ((a + 1 : Nat) : Int))) (fun _ h => .inl h))
    rw [show ((a + 1 : Nat) : Int) = (a : Int) + 1 from by omega] at HR3 HF3
    obtain ⟨w3, hw3⟩ : ∃ w3, w2.setCell ⟨g, 1, none⟩ (.int .i64 ((a : Int) + 1)) = w3 := ⟨_, rfl⟩
    rw [hw3] at HR3 HF3 ⊢
    clear hw3 k1 f1 HR2 HF2
    obtain ⟨A, c, hb, hc, _, _, hC, _⟩ := HR3.out
    obtain ⟨ad, e, hc0⟩ := at_intN hC a hal0
    subst e
    rw [HP.out] at hc0
    have k0 : w3.drew.cell? ⟨g, 0, none⟩ = some (.slice (some ad) B.length c) := hb.cell 0
    have k1 : w3.drew.cell? ⟨g, 1, none⟩ = some (.int .i64 ((a : Int) + 1)) := hb.cell 1
    have k2 : w3.drew.cell? (ad.add a) = some (.int .u8 p) := hc0
    have HR4 := Aside0.mk (HR3.out.below ((Below.refl _ _).drew))
    have HF4 := Aside0.mk (HF3.out.then_ (Fr.of_below ((Below.refl _ _).drew) (fun k => k = g)) (fun _ h => .inl h))
    have hw1 : wrap64 (a : Int) = (a : Int) := wrapI (by omega) (by omega)
    have hw2 : wrap64 p = p := by clear hw1; exact wrapI (by omega) (by omega)
    clear hb hC hc0 HR3 HF3
    refine start_ (n := 13) (S := fun w' => w'.cell? ⟨g, 0, none⟩ = some (.slice (some ad) B.length c) ∧ w'.cell? ⟨g, 1, none⟩ = some (.int .i64 ((a : Int) + 1)) ∧ w'.cell? (ad.add a) = some (.int .u8 p)) (ds := []) #[false, false, false, false, false, false, false, false, false, false, false, false, false] (by kernel_rfl) rfl rfl ⟨k0, k1, k2⟩ (fun hHeld => ?_)
    generalize w3.drew = wd at HR4 HF4 k0 k1 k2 hHeld ⊢
    refine pure_ (i := 0) (N := some 13) (v := ?_) (a' := ?_) #[true, false, false, false, false, false, false, false, false, false, false, false, false] rfl rfl (by kernel_rfl) (fun _ _ _ h => h) (Or.inl ⟨by rfl, ?_⟩) ?_ ?_
    rotate_left
    · intro w'
      go_simp
      with_reducible rfl
    rotate_left
    · simp only [Act.put, List.setIfInBounds_toArray, List.set_cons_zero, List.set_cons_succ, i64_w, i32_w]
      rfl
    refine pure_ (i := 1) (N := some 14) (v := ?_) (a' := ?_) #[true, true, false, false, false, false, false, false, false, false, false, false, false] rfl rfl (by kernel_rfl) (fun _ _ _ h => h) (Or.inl ⟨by rfl, ?_⟩) ?_ ?_
    rotate_left
    · intro w'
      go_simp
      with_reducible rfl
    rotate_left
    · simp only [Act.put, List.setIfInBounds_toArray, List.set_cons_zero, List.set_cons_succ, i64_w, i32_w]
      rfl
    refine pure_ (i := 2) (N := some 15) (v := ?_) (a' := ?_) #[true, true, true, false, false, false, false, false, false, false, false, false, false] rfl rfl (by kernel_rfl) (fun _ _ _ h => h) (Or.inl ⟨by rfl, ?_⟩) ?_ ?_
    rotate_left
    · intro w'
      go_simp
      with_reducible rfl
    rotate_left
    · simp only [Act.put, List.setIfInBounds_toArray, List.set_cons_zero, List.set_cons_succ, i64_w, i32_w]
      rfl
    refine pure_ (i := 4) (N := some 17) (v := ?_) (a' := ?_) #[true, true, true, false, true, false, false, false, false, false, false, false, false] rfl rfl (by kernel_rfl) (fun _ _ _ h => h) (Or.inl ⟨by rfl, ?_⟩) ?_ ?_
    rotate_left
    · intro w'
      go_simp
      with_reducible rfl
    rotate_left
    · simp only [Act.put, List.setIfInBounds_toArray, List.set_cons_zero, List.set_cons_succ, i64_w, i32_w]
      rfl
    refine pure_ (i := 5) (N := some 18) (v := ?_) (a' := ?_) #[true, true, true, false, true, true, false, false, false, false, false, false, false] rfl rfl (by kernel_rfl) (fun _ _ _ h => h) (Or.inl ⟨by rfl, ?_⟩) ?_ ?_
    rotate_left
    · intro w'
      go_simp
      with_reducible rfl
    rotate_left
    · simp only [Act.put, List.setIfInBounds_toArray, List.set_cons_zero, List.set_cons_succ, i64_w, i32_w]
      rfl
    refine pure_ (i := 6) (N := some 19) (v := ?_) (a' := ?_) #[true, true, true, false, true, true, true, false, false, false, false, false, false] rfl rfl (by kernel_rfl) (fun _ _ _ h => h) (Or.inl ⟨by rfl, ?_⟩) ?_ ?_
    rotate_left
    · intro w'
      go_simp
      with_reducible rfl
    rotate_left
    · simp only [Act.put, List.setIfInBounds_toArray, List.set_cons_zero, List.set_cons_succ, i64_w, i32_w]
      rfl
    refine take_ (i := 3) (N := some 16) (v := ?_) (a' := ?_) #[true, true, true, true, true, true, true, false, false, false, false, false, false] rfl rfl (by kernel_rfl) (fun _ _ _ h => h) (Or.inl ⟨by rfl, ?_⟩) hHeld ?_ ?_
    rotate_left
    · rintro w' ⟨s0, s1, s2⟩
      go_simp
      with_reducible rfl
    rotate_left
    · simp only [Act.put, List.setIfInBounds_toArray, List.set_cons_zero, List.set_cons_succ, i64_w, i32_w]
      rfl
    refine take_ (i := 7) (N := some 20) (v := ?_) (a' := ?_) #[true, true, true, true, true, true, true, true, false, false, false, false, false] rfl rfl (by kernel_rfl) (fun _ _ _ h => h) (Or.inl ⟨by rfl, ?_⟩) hHeld ?_ ?_
    rotate_left
    · rintro w' ⟨s0, s1, s2⟩
      go_simp
      with_reducible rfl
    rotate_left
    · simp only [Act.put, List.setIfInBounds_toArray, List.set_cons_zero, List.set_cons_succ, i64_w, i32_w]
      rfl
    refine pure_ (i := 8) (N := some 21) (v := ?_) (a' := ?_) #[true, true, true, true, true, true, true, true, true, false, false, false, false] rfl rfl (by kernel_rfl) (fun _ _ _ h => h) (Or.inl ⟨by rfl, ?_⟩) ?_ ?_
    rotate_left
    · intro w'
      go_simp
      with_reducible rfl
    rotate_left
    · simp only [Act.put, List.setIfInBounds_toArray, List.set_cons_zero, List.set_cons_succ, i64_w, i32_w]
      rfl
    refine pure_ (i := 9) (N := some 22) (v := ?_) (a' := ?_) #[true, true, true, true, true, true, true, true, true, true, false, false, false] rfl rfl (by kernel_rfl) (fun _ _ _ h => h) (Or.inl ⟨by rfl, ?_⟩) ?_ ?_
    rotate_left
    · intro w'
      go_simp
      with_reducible rfl
    rotate_left
    · simp only [Act.put, List.setIfInBounds_toArray, List.set_cons_zero, List.set_cons_succ, i64_w, i32_w]
      rfl
    refine take_ (i := 10) (N := some 23) (v := ?_) (a' := ?_) #[true, true, true, true, true, true, true, true, true, true, true, false, false] rfl rfl (by kernel_rfl) (fun _ _ _ h => h) (Or.inl ⟨by rfl, ?_⟩) hHeld ?_ ?_
    rotate_left
    · rintro w' ⟨s0, s1, s2⟩
      go_simp
      with_reducible rfl
    rotate_left
    · simp only [Act.put, List.setIfInBounds_toArray, List.set_cons_zero, List.set_cons_succ, i64_w, i32_w]
      rfl
    refine pure_ (i := 11) (N := some 24) (v := ?_) (a' := ?_) #[true, true, true, true, true, true, true, true, true, true, true, true, false] rfl rfl (by kernel_rfl) (fun _ _ _ h => h) (Or.inl ⟨by rfl, ?_⟩) ?_ ?_
    rotate_left
    · intro w'
      go_simp
      with_reducible rfl
    rotate_left
    · simp only [Act.put, List.setIfInBounds_toArray, List.set_cons_zero, List.set_cons_succ, i64_w, i32_w]
      rfl
    refine pure_ (i := 12) (N := some 2) (v := ?_) (a' := ?_) #[true, true, true, true, true, true, true, true, true, true, true, true, true] rfl rfl (by kernel_rfl) (fun _ _ _ h => h) (Or.inl ⟨by rfl, ?_⟩) ?_ ?_
    rotate_left
    · intro w'
      go_simp
      with_reducible rfl
    rotate_left
    · simp only [Act.put, List.setIfInBounds_toArray, List.set_cons_zero, List.set_cons_succ, i64_w, i32_w]
      rfl
    refine done_ (by kernel_rfl) ?_
    clear hHeld k0 k1 k2 hw1 hw2
    go_wp2
    go_ret
    exact ⟨rfl, ⟨a + 1, HR4.out, by rw [List.drop_drop]⟩, HF4.out⟩


end Go.Proofs.Ytlmlkcobkmhmbaa.Q
end

section
-- written by hprint.py (a program of these sessions) out of the translation; Lean checks it
namespace Go.Proofs.Ytlmlkcobkmhmbaa.Q
open Go.RowKit Go.Proofs.YtlmlkcobkmhmbaaW.Hb Go.Proofs.YtlmlkcobkmhmbaaW.PrintWords Go.Proofs.YtlmlkcobkmhmbaaW.PrintLast Go.Proofs.YtlmlkcobkmhmbaaW.PrintMore
attribute [local go_sem] max2_int min2_int max_two min_two max_three min_three max_four min_four   -- for this text's walks alone
set_option linter.unusedVariables false
set_option linter.unusedSimpArgs false

/-! ### weighhouseref01_Reader_Int: function 48, by hand -/
theorem numB_snoc (n : Nat) (l : List Int) (x : Int) : numB n (l ++ [x]) = numB n l * 256 + x.toNat := by
  unfold numB
  rw [List.foldl_append]
  rfl
theorem numB_lt (l : List Int) (hl : ∀ x ∈ l, 0 ≤ x ∧ x ≤ 255) : ∀ n, numB n l < (n + 1) * 256 ^ l.length := by
  induction l with
  | nil => intro n; simp [numB]
  | cons x l ih =>
    intro n
    have hx := hl x (by simp)
    have := ih (fun y hy => hl y (by simp [hy])) (n * 256 + x.toNat)
    show numB (n * 256 + x.toNat) l < _
    refine Nat.lt_of_lt_of_le this ?_
    rw [List.length_cons, Nat.pow_succ, Nat.mul_comm (256 ^ l.length) 256, ← Nat.mul_assoc]
    exact Nat.mul_le_mul_right _ (by omega)
/-- One byte more of a number. -/
theorem numB_next (xs : List Int) (hx : ∀ x ∈ xs, 0 ≤ x ∧ x ≤ 255) (i : Nat) (hi : i < 8) (hl : i < xs.length) : (numB 0 (xs.take (i + 1)) : Int) = 256 * (numB 0 (xs.take i) : Int) + xs[i] ∧ 256 * (numB 0 (xs.take i) : Int) + xs[i] < 18446744073709551616 ∧ 0 ≤ xs[i] ∧ xs[i] ≤ 255 := by
  have h1 := hx _ (List.getElem_mem hl)
  have hlt := numB_lt (xs.take i) (fun x hm => hx x (List.mem_of_mem_take hm)) 0
  have hpow : 256 ^ (xs.take i).length ≤ 256 ^ 7 := Nat.pow_le_pow_right (by omega) (by rw [List.length_take]; omega)
  rw [List.take_succ_eq_append_getElem hl, numB_snoc]
  refine ⟨by omega, by omega, h1⟩
theorem u64words (N x N2 : Int) (h0 : 0 ≤ N) (h1 : N2 = 256 * N + x) (h2 : 256 * N + x < 18446744073709551616) (h3 : 0 ≤ x) (h4 : x ≤ 255) : IntKind.u64.wrap (256 * N) = 256 * N ∧ IntKind.u64.wrap x = x ∧ IntKind.u64.wrap (256 * N + x) = N2 ∧ (256 * N) % 18446744073709551616 = 256 * N ∧ x % 18446744073709551616 = x ∧ (256 * N + x) % 18446744073709551616 = N2 := by
  rw [wrapU64, wrapU64, wrapU64]
  omega
set_option maxRecDepth 100000 in
set_option maxHeartbeats 2000000 in
theorem weighhouseref01_Reader_Int.calls (S : Nat → Prop) (g : Nat) (B : List Int) (a : Nat) (ev : Int) (w : World) (hR : Rq w S g B a ev) :
    Calls Try.prog 48 #[.pointer (some ⟨g, 0, none⟩)] w fun e w' => e = .returned (.int .i64 (rInt (B.drop a) ev).1) ∧ (∃ a', Rq w' S g B a' (rInt (B.drop a) ev).2.2 ∧ B.drop a' = (rInt (B.drop a) ev).2.1) ∧ Fr w w' (fun k => k = g) := by
  have HR := Aside0.mk hR
  by_cases he : ev = 0
  rotate_left
  · have HH := Aside0.mk (hasS_err (l := (B.drop a).length) (n := 8) he)
    rw [rInt_err he]
    clear hR he
    go_enter Try.func48, Try.ntmps48
    go_wp2_with (go_at_call 70; (with_reducible refine (weighhouseref01_Reader_has.calls S g B a ev 8 _ _ _ HR.out HH.out).mono ?_); rintro e2 w2 ⟨rfl, hR2, hF2⟩; have HR2 := Aside0.mk hR2; have HF2 := Aside0.mk hF2; clear hR2 hF2)
    go_ret
    exact ⟨rfl, ⟨a, HR2.out, rfl⟩, HF2.out⟩
  subst he
  by_cases h1 : (B.drop a).length < 8
  · have HH := Aside0.mk (hasS_end (l := (B.drop a).length) (n := 8) (by omega))
    rw [rInt_end h1]
    clear hR h1
    go_enter Try.func48, Try.ntmps48
    go_wp2_with (go_at_call 70; (with_reducible refine (weighhouseref01_Reader_has.calls S g B a 0 8 _ _ _ HR.out HH.out).mono ?_); rintro e2 w2 ⟨rfl, hR2, hF2⟩; have HR2 := Aside0.mk hR2; have HF2 := Aside0.mk hF2; clear hR2 hF2)
    go_ret
    exact ⟨rfl, ⟨a, HR2.out, rfl⟩, HF2.out⟩
  · have HH := Aside0.mk (hasS_ok (l := (B.drop a).length) (n := 8) (by omega))
    rw [rInt_ok h1]
    obtain ⟨hx, ha, hl⟩ := Rq.info hR
    have hln : (B.drop a).length = B.length - a := List.length_drop
    have hal : a + 8 ≤ B.length := by omega
    have HX := Aside0.mk hx
    have HXD := Aside0.mk (show ∀ x ∈ B.drop a, 0 ≤ x ∧ x ≤ 255 from fun x h => hx x (List.mem_of_mem_drop h))
    clear hR hx hln h1
    go_enter Try.func48, Try.ntmps48
    go_wp2_with (go_at_call 70; (with_reducible refine (weighhouseref01_Reader_has.calls S g B a 0 8 _ _ _ HR.out HH.out).mono ?_); rintro e2 w2 ⟨rfl, hR2, hF2⟩; have HR2 := Aside0.mk hR2; have HF2 := Aside0.mk hF2; clear hR2 hF2)
    go_loopw [3, 4] (fun n i wr => ∃ j : Nat, j ≤ 8 ∧ i = .int .i64 j ∧ n = .int .u64 (numB 0 ((B.drop a).take j) : Int) ∧ Aside0 (Rq wr S g B a 0) ∧ Aside0 (Fr w wr (fun k => k = g))) (fun _ i _ => 8 - (intOf i).toNat)
    case atStart => exact ⟨0, Nat.zero_le _, rfl, rfl, HR2, HF2⟩
    case round =>
      clear HR2 HF2
      obtain ⟨j, hj, rfl, rfl, HRj, HFj⟩ := hrel
      by_cases hlt : j < 8
      · have hjl : a + j < B.length := by omega
        have hjd : j < (B.drop a).length := by rw [List.length_drop]; omega
        obtain ⟨n1, n2, n3, n4⟩ := numB_next (B.drop a) HXD.out j hlt hjd
        have hge : (B.drop a)[j]'hjd = B[a + j]'hjl := List.getElem_drop
        rw [hge] at n1 n2 n3 n4
        obtain ⟨x, hxx⟩ : ∃ x, B[a + j]'hjl = x := ⟨_, rfl⟩
        have HXX := Aside0.mk hxx
        rw [hxx] at n1 n2 n3 n4
        have N0 : (0 : Int) ≤ (numB 0 ((B.drop a).take j) : Int) := by omega
        obtain ⟨N, hN⟩ : ∃ N : Int, (numB 0 ((B.drop a).take j) : Int) = N := ⟨_, rfl⟩
        obtain ⟨N2, hN2⟩ : ∃ N2 : Int, (numB 0 ((B.drop a).take (j + 1)) : Int) = N2 := ⟨_, rfl⟩
        have HN2 := Aside0.mk hN2
        rw [hN] at n1 n2 N0 ⊢
        rw [hN2] at n1
        have HUW := Aside0.mk (u64words N x N2 N0 n1 n2 n3 n4)
        clear hge hxx hN hN2 n1 n2 hjd
        obtain ⟨A, c, hb, hc, _, _, hC, _⟩ := HRj.out
        obtain ⟨ad, e, hc0⟩ := at_intN hC (a + j) hjl
        subst e
        rw [HXX.out] at hc0
        have k0 : wr.drew.cell? ⟨g, 0, none⟩ = some (.slice (some ad) B.length c) := hb.cell 0
        have k1 : wr.drew.cell? ⟨g, 1, none⟩ = some (.int .i64 a) := hb.cell 1
        have k2 : wr.drew.cell? (ad.add (a + j)) = some (.int .u8 x) := hc0
        have HR4 := Aside0.mk (HRj.out.below ((Below.refl _ _).drew))
        have HF4 := Aside0.mk (HFj.out.then_ (Fr.of_below ((Below.refl _ _).drew) (fun k => k = g)) (fun _ h => .inl h))
        have r0 : (0 : Int) ≤ (a : Int) + (j : Int) := by omega
        have r1 : (a : Int) + (j : Int) < (B.length : Int) := by omega
        have r2 : ((a : Int) + (j : Int)).toNat = a + j := by omega
        have hw1 : wrap64 ((a : Int) + (j : Int)) = (a : Int) + (j : Int) := wrapI (by omega) (by omega)
        obtain ⟨u1, u2, u3, u4, u5, u6⟩ := HUW.out
        clear hb hC hc0
        go_wp2
        refine start_ (n := 17) (S := fun w' => w'.cell? ⟨g, 0, none⟩ = some (.slice (some ad) B.length c) ∧ w'.cell? ⟨g, 1, none⟩ = some (.int .i64 a) ∧ w'.cell? (ad.add (a + j)) = some (.int .u8 x)) (ds := []) #[false, false, false, false, false, false, false, false, false, false, false, false, false, false, false, false, false] (by kernel_rfl) rfl rfl ⟨k0, k1, k2⟩ (fun hHeld => ?_)
        generalize wr.drew = wd at HR4 HF4 k0 k1 k2 hHeld ⊢
        refine pure_ (i := 0) (N := some 12) (v := ?_) (a' := ?_) #[true, false, false, false, false, false, false, false, false, false, false, false, false, false, false, false, false] rfl rfl (by kernel_rfl) (fun _ _ _ h => h) (Or.inl ⟨by rfl, ?_⟩) ?_ ?_
        rotate_left
        · intro w'
          go_simp
          with_reducible rfl
        rotate_left
        · simp only [Act.put, List.setIfInBounds_toArray, List.set_cons_zero, List.set_cons_succ, i64_w, i32_w]
          rfl
        refine pure_ (i := 1) (N := some 13) (v := ?_) (a' := ?_) #[true, true, false, false, false, false, false, false, false, false, false, false, false, false, false, false, false] rfl rfl (by kernel_rfl) (fun _ _ _ h => h) (Or.inl ⟨by rfl, ?_⟩) ?_ ?_
        rotate_left
        · intro w'
          go_simp
          with_reducible rfl
        rotate_left
        · simp only [Act.put, List.setIfInBounds_toArray, List.set_cons_zero, List.set_cons_succ, i64_w, i32_w]
          rfl
        refine pure_ (i := 2) (N := some 14) (v := ?_) (a' := ?_) #[true, true, true, false, false, false, false, false, false, false, false, false, false, false, false, false, false] rfl rfl (by kernel_rfl) (fun _ _ _ h => h) (Or.inl ⟨by rfl, ?_⟩) ?_ ?_
        rotate_left
        · intro w'
          go_simp
          with_reducible rfl
        rotate_left
        · simp only [Act.put, List.setIfInBounds_toArray, List.set_cons_zero, List.set_cons_succ, i64_w, i32_w]
          rfl
        refine pure_ (i := 3) (N := some 15) (v := ?_) (a' := ?_) #[true, true, true, true, false, false, false, false, false, false, false, false, false, false, false, false, false] rfl rfl (by kernel_rfl) (fun _ _ _ h => h) (Or.inl ⟨by rfl, ?_⟩) ?_ ?_
        rotate_left
        · intro w'
          go_simp
          with_reducible rfl
        rotate_left
        · simp only [Act.put, List.setIfInBounds_toArray, List.set_cons_zero, List.set_cons_succ, i64_w, i32_w]
          rfl
        refine pure_ (i := 4) (N := some 16) (v := ?_) (a' := ?_) #[true, true, true, true, true, false, false, false, false, false, false, false, false, false, false, false, false] rfl rfl (by kernel_rfl) (fun _ _ _ h => h) (Or.inl ⟨by rfl, ?_⟩) ?_ ?_
        rotate_left
        · intro w'
          go_simp
          with_reducible rfl
        rotate_left
        · simp only [Act.put, List.setIfInBounds_toArray, List.set_cons_zero, List.set_cons_succ, i64_w, i32_w]
          rfl
        refine pure_ (i := 6) (N := some 18) (v := ?_) (a' := ?_) #[true, true, true, true, true, false, true, false, false, false, false, false, false, false, false, false, false] rfl rfl (by kernel_rfl) (fun _ _ _ h => h) (Or.inl ⟨by rfl, ?_⟩) ?_ ?_
        rotate_left
        · intro w'
          go_simp
          with_reducible rfl
        rotate_left
        · simp only [Act.put, List.setIfInBounds_toArray, List.set_cons_zero, List.set_cons_succ, i64_w, i32_w]
          rfl
        refine pure_ (i := 7) (N := some 19) (v := ?_) (a' := ?_) #[true, true, true, true, true, false, true, true, false, false, false, false, false, false, false, false, false] rfl rfl (by kernel_rfl) (fun _ _ _ h => h) (Or.inl ⟨by rfl, ?_⟩) ?_ ?_
        rotate_left
        · intro w'
          go_simp
          with_reducible rfl
        rotate_left
        · simp only [Act.put, List.setIfInBounds_toArray, List.set_cons_zero, List.set_cons_succ, i64_w, i32_w]
          rfl
        refine pure_ (i := 8) (N := some 20) (v := ?_) (a' := ?_) #[true, true, true, true, true, false, true, true, true, false, false, false, false, false, false, false, false] rfl rfl (by kernel_rfl) (fun _ _ _ h => h) (Or.inl ⟨by rfl, ?_⟩) ?_ ?_
        rotate_left
        · intro w'
          go_simp
          with_reducible rfl
        rotate_left
        · simp only [Act.put, List.setIfInBounds_toArray, List.set_cons_zero, List.set_cons_succ, i64_w, i32_w]
          rfl
        refine pure_ (i := 10) (N := some 22) (v := ?_) (a' := ?_) #[true, true, true, true, true, false, true, true, true, false, true, false, false, false, false, false, false] rfl rfl (by kernel_rfl) (fun _ _ _ h => h) (Or.inl ⟨by rfl, ?_⟩) ?_ ?_
        rotate_left
        · intro w'
          go_simp
          with_reducible rfl
        rotate_left
        · simp only [Act.put, List.setIfInBounds_toArray, List.set_cons_zero, List.set_cons_succ, i64_w, i32_w]
          rfl
        refine take_ (i := 5) (N := some 17) (v := ?_) (a' := ?_) #[true, true, true, true, true, true, true, true, true, false, true, false, false, false, false, false, false] rfl rfl (by kernel_rfl) (fun _ _ _ h => h) (Or.inl ⟨by rfl, ?_⟩) hHeld ?_ ?_
        rotate_left
        · rintro w' ⟨s0, s1, s2⟩
          go_simp
          with_reducible rfl
        rotate_left
        · simp only [Act.put, List.setIfInBounds_toArray, List.set_cons_zero, List.set_cons_succ, i64_w, i32_w]
          rfl
        refine take_ (i := 9) (N := some 21) (v := ?_) (a' := ?_) #[true, true, true, true, true, true, true, true, true, true, true, false, false, false, false, false, false] rfl rfl (by kernel_rfl) (fun _ _ _ h => h) (Or.inl ⟨by rfl, ?_⟩) hHeld ?_ ?_
        rotate_left
        · rintro w' ⟨s0, s1, s2⟩
          go_simp
          with_reducible rfl
        rotate_left
        · simp only [Act.put, List.setIfInBounds_toArray, List.set_cons_zero, List.set_cons_succ, i64_w, i32_w]
          rfl
        refine pure_ (i := 11) (N := some 23) (v := ?_) (a' := ?_) #[true, true, true, true, true, true, true, true, true, true, true, true, false, false, false, false, false] rfl rfl (by kernel_rfl) (fun _ _ _ h => h) (Or.inl ⟨by rfl, ?_⟩) ?_ ?_
        rotate_left
        · intro w'
          go_simp
          with_reducible rfl
        rotate_left
        · simp only [Act.put, List.setIfInBounds_toArray, List.set_cons_zero, List.set_cons_succ, i64_w, i32_w]
          rfl
        refine pure_ (i := 12) (N := some 24) (v := ?_) (a' := ?_) #[true, true, true, true, true, true, true, true, true, true, true, true, true, false, false, false, false] rfl rfl (by kernel_rfl) (fun _ _ _ h => h) (Or.inl ⟨by rfl, ?_⟩) ?_ ?_
        rotate_left
        · intro w'
          go_simp
          with_reducible rfl
        rotate_left
        · simp only [Act.put, List.setIfInBounds_toArray, List.set_cons_zero, List.set_cons_succ, i64_w, i32_w]
          rfl
        refine take_ (i := 13) (N := some 25) (v := ?_) (a' := ?_) #[true, true, true, true, true, true, true, true, true, true, true, true, true, true, false, false, false] rfl rfl (by kernel_rfl) (fun _ _ _ h => h) (Or.inl ⟨by rfl, ?_⟩) hHeld ?_ ?_
        rotate_left
        · rintro w' ⟨s0, s1, s2⟩
          go_simp
          with_reducible rfl
        rotate_left
        · simp only [Act.put, List.setIfInBounds_toArray, List.set_cons_zero, List.set_cons_succ, i64_w, i32_w]
          rfl
        refine pure_ (i := 14) (N := some 26) (v := ?_) (a' := ?_) #[true, true, true, true, true, true, true, true, true, true, true, true, true, true, true, false, false] rfl rfl (by kernel_rfl) (fun _ _ _ h => h) (Or.inl ⟨by rfl, ?_⟩) ?_ ?_
        rotate_left
        · intro w'
          go_simp
          with_reducible rfl
        rotate_left
        · simp only [Act.put, List.setIfInBounds_toArray, List.set_cons_zero, List.set_cons_succ, i64_w, i32_w]
          rfl
        refine pure_ (i := 15) (N := some 27) (v := ?_) (a' := ?_) #[true, true, true, true, true, true, true, true, true, true, true, true, true, true, true, true, false] rfl rfl (by kernel_rfl) (fun _ _ _ h => h) (Or.inl ⟨by rfl, ?_⟩) ?_ ?_
        rotate_left
        · intro w'
          go_simp
          with_reducible rfl
        rotate_left
        · simp only [Act.put, List.setIfInBounds_toArray, List.set_cons_zero, List.set_cons_succ, i64_w, i32_w]
          rfl
        refine pure_ (i := 16) (N := some 3) (v := ?_) (a' := ?_) #[true, true, true, true, true, true, true, true, true, true, true, true, true, true, true, true, true] rfl rfl (by kernel_rfl) (fun _ _ _ h => h) (Or.inl ⟨by rfl, ?_⟩) ?_ ?_
        rotate_left
        · intro w'
          go_simp
          with_reducible rfl
        rotate_left
        · simp only [Act.put, List.setIfInBounds_toArray, List.set_cons_zero, List.set_cons_succ, i64_w, i32_w]
          rfl
        refine done_ (by kernel_rfl) ?_
        clear hHeld k0 k1 k2 hw1 u1 u2 u3 u4 u5 u6 r2
        go_wp2
        go_roundw
        case rel => exact ⟨j + 1, by omega, by go_num, by rw [HN2.out], HR4, HF4⟩
        case measure => simp [intOf]; omega
      · obtain rfl : j = 8 := by omega
        obtain ⟨N, hN⟩ : ∃ N : Int, (numB 0 ((B.drop a).take 8) : Int) = N := ⟨_, rfl⟩
        have HN := Aside0.mk hN
        rw [hN]
        clear hN
        obtain ⟨A, c, hb, _⟩ := HRj.out
        have k1 : wr.cell? ⟨g, 1, none⟩ = some (.int .i64 a) := hb.cell 1
        have f1 : wr.frozen? ⟨g, 1, none⟩ = false := hb.frozen 1
        clear hb
        go_wp2
        go_ret
        have h8 : (a : Int) + 8 = ((a + 8 : Nat) : Int) := by omega
        rw [h8, HN.out]
        exact ⟨rfl, ⟨a + 8, HRj.out.set_at hal, by rw [List.drop_drop]⟩, HFj.out.then_ (Fr.set_ wr g 1 _) (fun _ h => .inl h)⟩


end Go.Proofs.Ytlmlkcobkmhmbaa.Q
end

section
-- written by hprint.py (a program of these sessions) out of the translation; Lean checks it
namespace Go.Proofs.Ytlmlkcobkmhmbaa.Q
open Go.RowKit Go.Proofs.YtlmlkcobkmhmbaaW.Hb Go.Proofs.YtlmlkcobkmhmbaaW.PrintWords Go.Proofs.YtlmlkcobkmhmbaaW.PrintLast Go.Proofs.YtlmlkcobkmhmbaaW.PrintMore
attribute [local go_sem] max2_int min2_int max_two min_two max_three min_three max_four min_four   -- for this text's walks alone
set_option linter.unusedVariables false
set_option linter.unusedSimpArgs false

/-! ### weighhouseref01_Reader_Done: function 50, by hand -/
set_option maxRecDepth 100000 in
theorem weighhouseref01_Reader_Done.calls (S : Nat → Prop) (g : Nat) (B : List Int) (a : Nat) (ev : Int) (w : World) (hR : Rq w S g B a ev) :
    Calls Try.prog 50 #[.pointer (some ⟨g, 0, none⟩)] w fun e w' => e = .returned (.int .i64 (rDone (B.drop a) ev)) ∧ Below w.heap.size w w' := by
  have HR := Aside0.mk hR
  obtain ⟨A, c, hb, _⟩ := hR
  have HB := Aside0.mk hb
  have k2 : w.cell? ⟨g, 2, none⟩ = some (.int .i64 ev) := hb.cell 2
  clear hb
  by_cases he : ev ≠ 0
  · have HS := Aside0.mk (show rDone (B.drop a) ev = ev from if_pos he)
    have d1 : (ev == 0) = false := by simp [he]
    clear he
    go_enter Try.func50, Try.ntmps50
    go_wp2
    go_ret
    rw [HS.out]
    exact ⟨rfl, Below.refl _ _⟩
  · obtain rfl : ev = 0 := by omega
    obtain ⟨ln, hln⟩ : ∃ ln : Int, ((B.drop a).length : Int) = ln := ⟨_, rfl⟩
    have HLN := Aside0.mk hln
    by_cases h1 : 0 < (B.drop a).length
    · have HS := Aside0.mk (show rDone (B.drop a) 0 = 21 by unfold rDone; rw [if_neg (by decide), if_pos h1])
      have d1 : decide (0 < ln) = true := decide_eq_true (by omega)
      clear he h1 hln
      go_enter Try.func50, Try.ntmps50
      go_wp2_with (go_at_call 72; (with_reducible refine (weighhouseref01_Reader_Left.calls S g B a 0 _ HR.out).mono ?_); rintro e2 w2 ⟨rfl, hB2⟩; rw [HLN.out]; have k3 : w2.cell? ⟨g, 2, none⟩ = some (.int .i64 0) := (HB.out.after hB2).cell 2; have HB2 := Aside0.mk hB2; clear hB2)
      go_ret
      rw [HS.out]
      exact ⟨rfl, HB2.out⟩
    · have HS := Aside0.mk (show rDone (B.drop a) 0 = 0 by unfold rDone; rw [if_neg (by decide), if_neg h1])
      have d1 : decide (0 < ln) = false := decide_eq_false (by omega)
      clear he h1 hln
      go_enter Try.func50, Try.ntmps50
      go_wp2_with (go_at_call 72; (with_reducible refine (weighhouseref01_Reader_Left.calls S g B a 0 _ HR.out).mono ?_); rintro e2 w2 ⟨rfl, hB2⟩; rw [HLN.out]; have k3 : w2.cell? ⟨g, 2, none⟩ = some (.int .i64 0) := (HB.out.after hB2).cell 2; have HB2 := Aside0.mk hB2; clear hB2)
      go_ret
      rw [HS.out]
      exact ⟨rfl, HB2.out⟩


end Go.Proofs.Ytlmlkcobkmhmbaa.Q
end

section
-- written by hprint.py (a program of these sessions) out of the translation; Lean checks it
namespace Go.Proofs.Ytlmlkcobkmhmbaa.Q
open Go.RowKit Go.Proofs.YtlmlkcobkmhmbaaW.Hb Go.Proofs.YtlmlkcobkmhmbaaW.PrintWords Go.Proofs.YtlmlkcobkmhmbaaW.PrintLast Go.Proofs.YtlmlkcobkmhmbaaW.PrintMore
attribute [local go_sem] max2_int min2_int max_two min_two max_three min_three max_four min_four   -- for this text's walks alone
set_option linter.unusedVariables false
set_option linter.unusedSimpArgs false

/-! ### weighhouseref01_Reader_Text: function 71, by hand -/
def weighhouseref01_Reader_Text.T3 : Bool × List (List Nat × List Nat) := (true, [([], []), ([0], [0]), ([1], [1]), ([2], [2]), ([], []), ([4], [4]), ([5], [5]), ([6], [6]), ([3, 7], [3, 7]), ([8], [8]), ([9], [9]), ([10], [10]), ([], []), ([12], [12]), ([13], [13]), ([14], [14]), ([], []), ([16], [16]), ([17], [17]), ([18], [18]), ([19], [19]), ([15, 20], [15, 20]), ([21], [21]), ([22], [22]), ([11, 23], [11, 23]), ([24, 0, 1, 2, 3, 4, 5, 6, 7, 8, 9, 10, 11, 12, 13, 14, 15, 16, 17, 18, 19, 20, 21, 22, 23, 24], [24])])
def weighhouseref01_Reader_Text.B3 : List Nat := [0, 1, 3, 7, 0, 16, 48, 112, 255, 511, 1023, 2047, 0, 4096, 12288, 28672, 0, 65536, 196608, 458752, 983040, 2093056, 4190208, 8384512, 16777215, 33554431]
theorem weighhouseref01_Reader_Text.tab3 : rtab .any (opsOf Try.f71 3) = weighhouseref01_Reader_Text.T3 := by kernel_rfl
theorem weighhouseref01_Reader_Text.bits3 : waitsOk weighhouseref01_Reader_Text.T3.2 weighhouseref01_Reader_Text.B3 = true := by kernel_rfl
theorem refWords (a p q n : Nat) (ha : a ≤ 140737488355328) (hp : (p : Int) ≤ 255) (hq : (q : Int) ≤ 255) (hn : n = ((p : Int) * 256 + (q : Int)).toNat) : wrap64 (p : Int) = (p : Int) ∧ wrap64 (256 * (p : Int)) = 256 * (p : Int) ∧ wrap64 (q : Int) = (q : Int) ∧ wrap64 (256 * (p : Int) + (q : Int)) = (n : Int) ∧ wrap64 ((a : Int) + 1) = (a : Int) + 1 := by
  refine ⟨wrapI (by omega) (by omega), wrapI (by omega) (by omega), wrapI (by omega) (by omega), ?_, wrapI (by omega) (by omega)⟩
  rw [wrapI (by omega) (by omega)]
  omega
theorem cutb_ex {P : Program} (t e : TypeId) {i : TypeInfo} (ht : P.underlying t = some (.slice e)) (hi : P.info? e = some i) (hsz : i.size = 1) (A : Option Addr) (c : Nat) (xs : List Int) (lo hi' : Int) (h0 : 0 ≤ lo) (h1 : lo ≤ hi') (h2 : hi' ≤ xs.length) (hc : xs.length ≤ c) (ys : List Int) (hys : ys = (xs.take hi'.toNat).drop lo.toNat) :
    ∃ A' c', (∀ W : World, (Instr.slice t (.slice A xs.length c) (some (.int .i64 lo)) (some (.int .i64 hi')) none).run P W = .ok (.slice A' ys.length c') W) ∧ ys.length ≤ c' ∧ ∀ (w : World) (k : IntKind), (Kd.int k).C w A xs.length xs → (Kd.int k).C w A' ys.length ys := by
  subst hys
  have hl : ((xs.take hi'.toNat).drop lo.toNat).length = hi'.toNat - lo.toNat := by simp; omega
  refine ⟨(if c = lo.toNat then A else A.map (·.add (lo.toNat * 1))), c - lo.toNat, fun W => ?_, by rw [hl]; omega, fun w k h => ?_⟩
  · rw [hl]
    exact cut_mid t e .i64 .i64 ht hi 1 hsz A xs.length c lo hi' h0 h1 h2 hc W
  · exact Kd.C_mid h (by omega) (by omega) hc
set_option maxRecDepth 100000 in
set_option maxHeartbeats 2000000 in
theorem weighhouseref01_Reader_Text.calls (S : Nat → Prop) (g : Nat) (B : List Int) (a : Nat) (ev : Int) (w : World) (hR : Rq w S g B a ev) :
    Calls Try.prog 71 #[.pointer (some ⟨g, 0, none⟩)] w fun e w' => e = .returned (.string (rText (B.drop a) ev).1) ∧ (∃ a', Rq w' S g B a' (rText (B.drop a) ev).2.2 ∧ B.drop a' = (rText (B.drop a) ev).2.1) ∧ Fr w w' (fun k => k = g) := by
  have HR := Aside0.mk hR
  by_cases he : ev = 0
  rotate_left
  · have HH := Aside0.mk (hasS_err (l := (B.drop a).length) (n := 2) he)
    rw [rText_err he]
    clear hR he
    go_enter Try.func71, Try.ntmps71
    go_wp2_with (go_at_call 70; (with_reducible refine (weighhouseref01_Reader_has.calls S g B a ev 2 _ _ _ HR.out HH.out).mono ?_); rintro e2 w2 ⟨rfl, hR2, hF2⟩; have HR2 := Aside0.mk hR2; have HF2 := Aside0.mk hF2; clear hR2 hF2)
    go_ret
    exact ⟨rfl, ⟨a, HR2.out, rfl⟩, HF2.out⟩
  subst he
  by_cases h1 : (B.drop a).length < 2
  · have HH := Aside0.mk (hasS_end (l := (B.drop a).length) (n := 2) (by omega))
    rw [rText_end h1]
    clear hR h1
    go_enter Try.func71, Try.ntmps71
    go_wp2_with (go_at_call 70; (with_reducible refine (weighhouseref01_Reader_has.calls S g B a 0 2 _ _ _ HR.out HH.out).mono ?_); rintro e2 w2 ⟨rfl, hR2, hF2⟩; have HR2 := Aside0.mk hR2; have HF2 := Aside0.mk hF2; clear hR2 hF2)
    go_ret
    exact ⟨rfl, ⟨a, HR2.out, rfl⟩, HF2.out⟩
  have HH := Aside0.mk (hasS_ok (l := (B.drop a).length) (n := 2) (by omega))
  obtain ⟨hx, ha, hl⟩ := Rq.info hR
  have hln : (B.drop a).length = B.length - a := List.length_drop
  obtain ⟨n, hn⟩ : ∃ n, tlen (B.drop a) = n := ⟨_, rfl⟩
  have hal0 : a < B.length := by omega
  have hal : a + 1 < B.length := by omega
  have hp0 := hx _ (List.getElem_mem hal0)
  have hp1 := hx _ (List.getElem_mem hal)
  have hn' : n = (rd B ((a : Nat) : Int) * 256 + rd B ((a + 1 : Nat) : Int)).toNat := by rw [← hn]; unfold tlen; rw [drop_rd, drop_rd]; rfl
  rw [rdN B a hal0, rdN B (a + 1) hal] at hn'
  have HE2 := Aside0.mk (show (B.drop a).length < 2 + n → rText (B.drop a) 0 = (ByteArray.empty, B.drop a, 20) from fun h => rText_end2 h1 (by rw [hn]; exact h))
  have HE3 := Aside0.mk (show ¬ (B.drop a).length < 2 + n → rText (B.drop a) 0 = (strOfNums (((B.drop a).drop 2).take n), (B.drop a).drop (2 + n), 0) from fun h => by have := rText_ok h1 (by rw [hn]; exact h); rwa [hn] at this)
  obtain ⟨p, hp⟩ : ∃ p, B[a]'hal0 = p := ⟨_, rfl⟩
  obtain ⟨q, hq⟩ : ∃ q, B[a + 1]'hal = q := ⟨_, rfl⟩
  rw [hp] at hp0 hn'
  rw [hq] at hp1 hn'
  have HP := Aside0.mk hp
  have HQ := Aside0.mk hq
  obtain ⟨p0, p1⟩ := hp0
  obtain ⟨q0, q1⟩ := hp1
  obtain ⟨p, hpp⟩ := Int.eq_ofNat_of_zero_le p0
  obtain ⟨q, hqq⟩ := Int.eq_ofNat_of_zero_le q0
  subst hpp
  subst hqq
  have HL := Aside0.mk hln
  have HN := Aside0.mk hn'
  have hnb : n ≤ 65535 := by omega
  clear hR hx hln hn hp hq hn' h1
  go_enter Try.func71, Try.ntmps71
  go_upto_region 3 with (go_at_call 70; (with_reducible refine (weighhouseref01_Reader_has.calls S g B a 0 2 _ _ _ HR.out HH.out).mono ?_); rintro e2 w1 ⟨rfl, hR2, hF2⟩; have HR2 := Aside0.mk hR2; have HF2 := Aside0.mk hF2; clear hR2 hF2)
  obtain ⟨A1, c1, hb1, hcc1, _, _, hC1, _⟩ := HR2.out
  obtain ⟨ad, e, hc0⟩ := at_intN hC1 a hal0
  subst e
  obtain ⟨ad', e, hc1⟩ := at_intN hC1 (a + 1) hal
  cases e
  rw [HP.out] at hc0
  rw [HQ.out] at hc1
  have k0 : w1.drew.cell? ⟨g, 0, none⟩ = some (.slice (some ad) B.length c1) := hb1.cell 0
  have k1 : w1.drew.cell? ⟨g, 1, none⟩ = some (.int .i64 a) := hb1.cell 1
  have k2 : w1.drew.cell? (ad.add a) = some (.int .u8 p) := hc0
  have k3 : w1.drew.cell? (ad.add (a + 1)) = some (.int .u8 q) := hc1
  have HRd := Aside0.mk (HR2.out.below ((Below.refl _ _).drew))
  have HFd := Aside0.mk (HF2.out.then_ (Fr.of_below ((Below.refl _ _).drew) (fun k => k = g)) (fun _ h => .inl h))
  have r0 : (0 : Int) ≤ (a : Int) + 1 := by omega
  have r1 : (a : Int) + 1 < (B.length : Int) := by omega
  have e1 : ad.add (a + 1) = ⟨ad.block, ad.off + (a + 1), none⟩ := by simp [Addr.add]
  rw [e1] at k3
  clear e1
  obtain ⟨hw1, hw2, hw3, hw4, hw5⟩ := refWords a p q n (by omega) p1 q1 HN.out
  clear hb1 hC1 hc0 hc1 HR2 HF2
  refine start_ (n := 26) (S := fun w' => w'.cell? ⟨g, 0, none⟩ = some (.slice (some ad) B.length c1) ∧ w'.cell? ⟨g, 1, none⟩ = some (.int .i64 a) ∧ w'.cell? (ad.add a) = some (.int .u8 p) ∧ w'.cell? ⟨ad.block, ad.off + (a + 1), none⟩ = some (.int .u8 q)) (ds := []) #[false, false, false, false, false, false, false, false, false, false, false, false, false, false, false, false, false, false, false, false, false, false, false, false, false, false] (by kernel_rfl) rfl rfl ⟨k0, k1, k2, k3⟩ (fun hHeld => ?_); refine with_tabW weighhouseref01_Reader_Text.tab3 weighhouseref01_Reader_Text.bits3 (fun HT_ HW_ => ?_)
  generalize w1.drew = wd at HRd HFd k0 k1 k2 k3 hHeld ⊢
  refine pure_ (i := 0) (N := some 7) (v := ?_) (a' := ?_) #[true, false, false, false, false, false, false, false, false, false, false, false, false, false, false, false, false, false, false, false, false, false, false, false, false, false] rfl rfl (any_of HT_.out (by kernel_rfl)) (fun _ _ _ h => h) (Or.inl ⟨by rfl, ?_⟩) ?_ ?_
  rotate_left
  · intro w'
    go_simp
    with_reducible rfl
  rotate_left
  · simp only [Act.put, List.setIfInBounds_toArray, List.set_cons_zero, List.set_cons_succ, i64_w, i32_w]
    rfl
  refine pure_ (i := 1) (N := some 8) (v := ?_) (a' := ?_) #[true, true, false, false, false, false, false, false, false, false, false, false, false, false, false, false, false, false, false, false, false, false, false, false, false, false] rfl rfl (any_of HT_.out (by kernel_rfl)) (fun _ _ _ h => h) (Or.inl ⟨by rfl, ?_⟩) ?_ ?_
  rotate_left
  · intro w'
    go_simp
    with_reducible rfl
  rotate_left
  · simp only [Act.put, List.setIfInBounds_toArray, List.set_cons_zero, List.set_cons_succ, i64_w, i32_w]
    rfl
  refine pure_ (i := 2) (N := some 9) (v := ?_) (a' := ?_) #[true, true, true, false, false, false, false, false, false, false, false, false, false, false, false, false, false, false, false, false, false, false, false, false, false, false] rfl rfl (any_of HT_.out (by kernel_rfl)) (fun _ _ _ h => h) (Or.inl ⟨by rfl, ?_⟩) ?_ ?_
  rotate_left
  · intro w'
    go_simp
    with_reducible rfl
  rotate_left
  · simp only [Act.put, List.setIfInBounds_toArray, List.set_cons_zero, List.set_cons_succ, i64_w, i32_w]
    rfl
  refine pure_ (i := 4) (N := some 11) (v := ?_) (a' := ?_) #[true, true, true, false, true, false, false, false, false, false, false, false, false, false, false, false, false, false, false, false, false, false, false, false, false, false] rfl rfl (any_of HT_.out (by kernel_rfl)) (fun _ _ _ h => h) (Or.inl ⟨by rfl, ?_⟩) ?_ ?_
  rotate_left
  · intro w'
    go_simp
    with_reducible rfl
  rotate_left
  · simp only [Act.put, List.setIfInBounds_toArray, List.set_cons_zero, List.set_cons_succ, i64_w, i32_w]
    rfl
  refine pure_ (i := 5) (N := some 12) (v := ?_) (a' := ?_) #[true, true, true, false, true, true, false, false, false, false, false, false, false, false, false, false, false, false, false, false, false, false, false, false, false, false] rfl rfl (any_of HT_.out (by kernel_rfl)) (fun _ _ _ h => h) (Or.inl ⟨by rfl, ?_⟩) ?_ ?_
  rotate_left
  · intro w'
    go_simp
    with_reducible rfl
  rotate_left
  · simp only [Act.put, List.setIfInBounds_toArray, List.set_cons_zero, List.set_cons_succ, i64_w, i32_w]
    rfl
  refine pure_ (i := 6) (N := some 13) (v := ?_) (a' := ?_) #[true, true, true, false, true, true, true, false, false, false, false, false, false, false, false, false, false, false, false, false, false, false, false, false, false, false] rfl rfl (any_of HT_.out (by kernel_rfl)) (fun _ _ _ h => h) (Or.inl ⟨by rfl, ?_⟩) ?_ ?_
  rotate_left
  · intro w'
    go_simp
    with_reducible rfl
  rotate_left
  · simp only [Act.put, List.setIfInBounds_toArray, List.set_cons_zero, List.set_cons_succ, i64_w, i32_w]
    rfl
  refine pure_ (i := 12) (N := some 19) (v := ?_) (a' := ?_) #[true, true, true, false, true, true, true, false, false, false, false, false, true, false, false, false, false, false, false, false, false, false, false, false, false, false] rfl rfl (any_of HT_.out (by kernel_rfl)) (fun _ _ _ h => h) (Or.inl ⟨by rfl, ?_⟩) ?_ ?_
  rotate_left
  · intro w'
    go_simp
    with_reducible rfl
  rotate_left
  · simp only [Act.put, List.setIfInBounds_toArray, List.set_cons_zero, List.set_cons_succ, i64_w, i32_w]
    rfl
  refine pure_ (i := 13) (N := some 20) (v := ?_) (a' := ?_) #[true, true, true, false, true, true, true, false, false, false, false, false, true, true, false, false, false, false, false, false, false, false, false, false, false, false] rfl rfl (any_of HT_.out (by kernel_rfl)) (fun _ _ _ h => h) (Or.inl ⟨by rfl, ?_⟩) ?_ ?_
  rotate_left
  · intro w'
    go_simp
    with_reducible rfl
  rotate_left
  · simp only [Act.put, List.setIfInBounds_toArray, List.set_cons_zero, List.set_cons_succ, i64_w, i32_w]
    rfl
  refine pure_ (i := 14) (N := some 21) (v := ?_) (a' := ?_) #[true, true, true, false, true, true, true, false, false, false, false, false, true, true, true, false, false, false, false, false, false, false, false, false, false, false] rfl rfl (any_of HT_.out (by kernel_rfl)) (fun _ _ _ h => h) (Or.inl ⟨by rfl, ?_⟩) ?_ ?_
  rotate_left
  · intro w'
    go_simp
    with_reducible rfl
  rotate_left
  · simp only [Act.put, List.setIfInBounds_toArray, List.set_cons_zero, List.set_cons_succ, i64_w, i32_w]
    rfl
  refine pure_ (i := 16) (N := some 23) (v := ?_) (a' := ?_) #[true, true, true, false, true, true, true, false, false, false, false, false, true, true, true, false, true, false, false, false, false, false, false, false, false, false] rfl rfl (any_of HT_.out (by kernel_rfl)) (fun _ _ _ h => h) (Or.inl ⟨by rfl, ?_⟩) ?_ ?_
  rotate_left
  · intro w'
    go_simp
    with_reducible rfl
  rotate_left
  · simp only [Act.put, List.setIfInBounds_toArray, List.set_cons_zero, List.set_cons_succ, i64_w, i32_w]
    rfl
  refine pure_ (i := 17) (N := some 24) (v := ?_) (a' := ?_) #[true, true, true, false, true, true, true, false, false, false, false, false, true, true, true, false, true, true, false, false, false, false, false, false, false, false] rfl rfl (any_of HT_.out (by kernel_rfl)) (fun _ _ _ h => h) (Or.inl ⟨by rfl, ?_⟩) ?_ ?_
  rotate_left
  · intro w'
    go_simp
    with_reducible rfl
  rotate_left
  · simp only [Act.put, List.setIfInBounds_toArray, List.set_cons_zero, List.set_cons_succ, i64_w, i32_w]
    rfl
  refine pure_ (i := 18) (N := some 25) (v := ?_) (a' := ?_) #[true, true, true, false, true, true, true, false, false, false, false, false, true, true, true, false, true, true, true, false, false, false, false, false, false, false] rfl rfl (any_of HT_.out (by kernel_rfl)) (fun _ _ _ h => h) (Or.inl ⟨by rfl, ?_⟩) ?_ ?_
  rotate_left
  · intro w'
    go_simp
    with_reducible rfl
  rotate_left
  · simp only [Act.put, List.setIfInBounds_toArray, List.set_cons_zero, List.set_cons_succ, i64_w, i32_w]
    rfl
  refine take_ (i := 3) (N := some 10) (v := ?_) (a' := ?_) #[true, true, true, true, true, true, true, false, false, false, false, false, true, true, true, false, true, true, true, false, false, false, false, false, false, false] rfl rfl (take_ofW HT_.out HW_.out (by kernel_rfl)) (fun _ _ _ h => h) (Or.inl ⟨by rfl, ?_⟩) hHeld ?_ ?_
  rotate_left
  · rintro w' ⟨s0, s1, s2, s3⟩
    go_simp
    with_reducible rfl
  rotate_left
  · simp only [Act.put, List.setIfInBounds_toArray, List.set_cons_zero, List.set_cons_succ, i64_w, i32_w]
    rfl
  refine take_ (i := 7) (N := some 14) (v := ?_) (a' := ?_) #[true, true, true, true, true, true, true, true, false, false, false, false, true, true, true, false, true, true, true, false, false, false, false, false, false, false] rfl rfl (take_ofW HT_.out HW_.out (by kernel_rfl)) (fun _ _ _ h => h) (Or.inl ⟨by rfl, ?_⟩) hHeld ?_ ?_
  rotate_left
  · rintro w' ⟨s0, s1, s2, s3⟩
    go_simp
    with_reducible rfl
  rotate_left
  · simp only [Act.put, List.setIfInBounds_toArray, List.set_cons_zero, List.set_cons_succ, i64_w, i32_w]
    rfl
  refine pure_ (i := 8) (N := some 15) (v := ?_) (a' := ?_) #[true, true, true, true, true, true, true, true, true, false, false, false, true, true, true, false, true, true, true, false, false, false, false, false, false, false] rfl rfl (any_of HT_.out (by kernel_rfl)) (fun _ _ _ h => h) (Or.inl ⟨by rfl, ?_⟩) ?_ ?_
  rotate_left
  · intro w'
    go_simp
    with_reducible rfl
  rotate_left
  · simp only [Act.put, List.setIfInBounds_toArray, List.set_cons_zero, List.set_cons_succ, i64_w, i32_w]
    rfl
  refine take_ (i := 9) (N := some 16) (v := ?_) (a' := ?_) #[true, true, true, true, true, true, true, true, true, true, false, false, true, true, true, false, true, true, true, false, false, false, false, false, false, false] rfl rfl (take_ofW HT_.out HW_.out (by kernel_rfl)) (fun _ _ _ h => h) (Or.inl ⟨by rfl, ?_⟩) hHeld ?_ ?_
  rotate_left
  · rintro w' ⟨s0, s1, s2, s3⟩
    go_simp
    with_reducible rfl
  rotate_left
  · simp only [Act.put, List.setIfInBounds_toArray, List.set_cons_zero, List.set_cons_succ, i64_w, i32_w]
    rfl
  refine pure_ (i := 10) (N := some 17) (v := ?_) (a' := ?_) #[true, true, true, true, true, true, true, true, true, true, true, false, true, true, true, false, true, true, true, false, false, false, false, false, false, false] rfl rfl (any_of HT_.out (by kernel_rfl)) (fun _ _ _ h => h) (Or.inl ⟨by rfl, ?_⟩) ?_ ?_
  rotate_left
  · intro w'
    go_simp
    with_reducible rfl
  rotate_left
  · simp only [Act.put, List.setIfInBounds_toArray, List.set_cons_zero, List.set_cons_succ, i64_w, i32_w]
    rfl
  refine pure_ (i := 11) (N := some 18) (v := ?_) (a' := ?_) #[true, true, true, true, true, true, true, true, true, true, true, true, true, true, true, false, true, true, true, false, false, false, false, false, false, false] rfl rfl (any_of HT_.out (by kernel_rfl)) (fun _ _ _ h => h) (Or.inl ⟨by rfl, ?_⟩) ?_ ?_
  rotate_left
  · intro w'
    go_simp
    with_reducible rfl
  rotate_left
  · simp only [Act.put, List.setIfInBounds_toArray, List.set_cons_zero, List.set_cons_succ, i64_w, i32_w]
    rfl
  refine take_ (i := 15) (N := some 22) (v := ?_) (a' := ?_) #[true, true, true, true, true, true, true, true, true, true, true, true, true, true, true, true, true, true, true, false, false, false, false, false, false, false] rfl rfl (take_ofW HT_.out HW_.out (by kernel_rfl)) (fun _ _ _ h => h) (Or.inl ⟨by rfl, ?_⟩) hHeld ?_ ?_
  rotate_left
  · rintro w' ⟨s0, s1, s2, s3⟩
    go_simp
    with_reducible rfl
  rotate_left
  · simp only [Act.put, List.setIfInBounds_toArray, List.set_cons_zero, List.set_cons_succ, i64_w, i32_w]
    rfl
  refine take_ (i := 19) (N := some 26) (v := ?_) (a' := ?_) #[true, true, true, true, true, true, true, true, true, true, true, true, true, true, true, true, true, true, true, true, false, false, false, false, false, false] rfl rfl (take_ofW HT_.out HW_.out (by kernel_rfl)) (fun _ _ _ h => h) (Or.inl ⟨by rfl, ?_⟩) hHeld ?_ ?_
  rotate_left
  · rintro w' ⟨s0, s1, s2, s3⟩
    go_simp
    with_reducible rfl
  rotate_left
  · simp only [Act.put, List.setIfInBounds_toArray, List.set_cons_zero, List.set_cons_succ, i64_w, i32_w]
    rfl
  refine pure_ (i := 20) (N := some 27) (v := ?_) (a' := ?_) #[true, true, true, true, true, true, true, true, true, true, true, true, true, true, true, true, true, true, true, true, true, false, false, false, false, false] rfl rfl (any_of HT_.out (by kernel_rfl)) (fun _ _ _ h => h) (Or.inl ⟨by rfl, ?_⟩) ?_ ?_
  rotate_left
  · intro w'
    go_simp
    with_reducible rfl
  rotate_left
  · simp only [Act.put, List.setIfInBounds_toArray, List.set_cons_zero, List.set_cons_succ, i64_w, i32_w]
    rfl
  refine pure_ (i := 21) (N := some 28) (v := ?_) (a' := ?_) #[true, true, true, true, true, true, true, true, true, true, true, true, true, true, true, true, true, true, true, true, true, true, false, false, false, false] rfl rfl (any_of HT_.out (by kernel_rfl)) (fun _ _ _ h => h) (Or.inl ⟨by rfl, ?_⟩) ?_ ?_
  rotate_left
  · intro w'
    go_simp
    with_reducible rfl
  rotate_left
  · simp only [Act.put, List.setIfInBounds_toArray, List.set_cons_zero, List.set_cons_succ, i64_w, i32_w]
    rfl
  refine take_ (i := 22) (N := some 29) (v := ?_) (a' := ?_) #[true, true, true, true, true, true, true, true, true, true, true, true, true, true, true, true, true, true, true, true, true, true, true, false, false, false] rfl rfl (take_ofW HT_.out HW_.out (by kernel_rfl)) (fun _ _ _ h => h) (Or.inl ⟨by rfl, ?_⟩) hHeld ?_ ?_
  rotate_left
  · rintro w' ⟨s0, s1, s2, s3⟩
    go_simp
    with_reducible rfl
  rotate_left
  · simp only [Act.put, List.setIfInBounds_toArray, List.set_cons_zero, List.set_cons_succ, i64_w, i32_w]
    rfl
  refine pure_ (i := 23) (N := some 30) (v := ?_) (a' := ?_) #[true, true, true, true, true, true, true, true, true, true, true, true, true, true, true, true, true, true, true, true, true, true, true, true, false, false] rfl rfl (any_of HT_.out (by kernel_rfl)) (fun _ _ _ h => h) (Or.inl ⟨by rfl, ?_⟩) ?_ ?_
  rotate_left
  · intro w'
    go_simp
    with_reducible rfl
  rotate_left
  · simp only [Act.put, List.setIfInBounds_toArray, List.set_cons_zero, List.set_cons_succ, i64_w, i32_w]
    rfl
  refine pure_ (i := 24) (N := some 31) (v := ?_) (a' := ?_) #[true, true, true, true, true, true, true, true, true, true, true, true, true, true, true, true, true, true, true, true, true, true, true, true, true, false] rfl rfl (any_of HT_.out (by kernel_rfl)) (fun _ _ _ h => h) (Or.inl ⟨by rfl, ?_⟩) ?_ ?_
  rotate_left
  · intro w'
    go_simp
    with_reducible rfl
  rotate_left
  · simp only [Act.put, List.setIfInBounds_toArray, List.set_cons_zero, List.set_cons_succ, i64_w, i32_w]
    rfl
  refine pure_ (i := 25) (N := some 3) (v := ?_) (a' := ?_) #[true, true, true, true, true, true, true, true, true, true, true, true, true, true, true, true, true, true, true, true, true, true, true, true, true, true] rfl rfl (any_of HT_.out (by kernel_rfl)) (fun _ _ _ h => h) (Or.inl ⟨by rfl, ?_⟩) ?_ ?_
  rotate_left
  · intro w'
    go_simp
    with_reducible rfl
  rotate_left
  · simp only [Act.put, List.setIfInBounds_toArray, List.set_cons_zero, List.set_cons_succ, i64_w, i32_w]
    rfl
  refine done_ (done_of HT_.out (by kernel_rfl)) ?_
  clear hHeld k0 k1 k2 k3 hw1 hw2 hw3 hw4 hw5
  by_cases h3 : (B.drop a).length < 2 + n
  · have HS := Aside0.mk (HE2.out h3)
    have HH3 := Aside0.mk (hasS_end (l := (B.drop a).length) (n := 2 + (n : Int)) (by omega))
    clear h3
    go_wp2_with (go_at_call 70; (with_reducible refine (weighhouseref01_Reader_has.calls S g B a 0 (2 + (n : Int)) _ _ _ HRd.out HH3.out).mono ?_); rintro e2 w4 ⟨rfl, hR4, hF4⟩; have HR4 := Aside0.mk hR4; have HF4 := Aside0.mk (HFd.out.then_ hF4 (fun _ h => .inl h)); clear hR4 hF4)
    go_ret
    rw [HS.out]
    exact ⟨rfl, ⟨a, HR4.out, rfl⟩, HF4.out⟩
  · have hS := HE3.out h3
    have HH3 := Aside0.mk (hasS_ok (l := (B.drop a).length) (n := 2 + (n : Int)) (by omega))
    have hX : a + 2 + n ≤ B.length := by have := HL.out; omega
    have hys : (B.take (a + 2 + n)).drop (a + 2) = ((B.drop a).drop 2).take n := by
      rw [List.drop_take, List.drop_drop]
      congr 1
      omega
    have hzs : (B.drop a).drop (2 + n) = B.drop (a + 2 + n) := by rw [List.drop_drop, ← Nat.add_assoc]
    rw [← hys, hzs] at hS
    obtain ⟨y5, hy5⟩ : ∃ y5, (B.take (a + 2 + n)).drop (a + 2) = y5 := ⟨_, rfl⟩
    rw [hy5] at hS
    have HY5 := Aside0.mk hy5
    have HS := Aside0.mk hS
    clear h3 hS hys hzs hy5
    go_upto_region 6 with (go_at_call 70; (with_reducible refine (weighhouseref01_Reader_has.calls S g B a 0 (2 + (n : Int)) _ _ _ HRd.out HH3.out).mono ?_); rintro e2 w4 ⟨rfl, hR4, hF4⟩; have HR4 := Aside0.mk hR4; have HF4 := Aside0.mk (HFd.out.then_ hF4 (fun _ h => .inl h)); clear hR4 hF4)
    obtain ⟨A4, c4, hb4, _⟩ := HR4.out
    have k1 : w4.cell? ⟨g, 1, none⟩ = some (.int .i64 a) := hb4.cell 1
    have f1 : w4.frozen? ⟨g, 1, none⟩ = false := hb4.frozen 1
    clear hb4
    go_wp2
    have hXI : (a : Int) + 2 + (n : Int) = ((a + 2 + n : Nat) : Int) := by omega
    rw [hXI]
    have HR5 := Aside0.mk (Rq.set_at (a' := a + 2 + n) HR4.out hX)
    have HF5 := Aside0.mk (HF4.out.then_ (Fr.set_ w4 g 1 (.int .i64 ((a + 2 + n : Nat) : Int))) (fun _ h => .inl h))
    obtain ⟨X, hXX⟩ : ∃ X, a + 2 + n = X := ⟨_, rfl⟩
    obtain ⟨lo, hlo⟩ : ∃ lo, a + 2 = lo := ⟨_, rfl⟩
    have hlX : lo ≤ X := by omega
    have hsub : wrap64 ((X : Int) - (n : Int)) = (lo : Int) := by rw [wrapI (by omega) (by omega)]; omega
    have HSUB := Aside0.mk hsub
    clear hsub hXI
    rw [hXX] at HR5 HF5 HY5 HS hX ⊢
    rw [hlo] at HY5
    obtain ⟨w5, hw5⟩ : ∃ w5, w4.setCell ⟨g, 1, none⟩ (.int .i64 (X : Int)) = w5 := ⟨_, rfl⟩
    rw [hw5] at HR5 HF5 ⊢
    clear hw5 hXX hlo k1 f1 HR4 HF4
    obtain ⟨ii, hii, his⟩ : ∃ ii, Try.prog.info? 5 = some ii ∧ ii.size = 1 := by
      obtain ⟨ii, h1, h2⟩ := Option.map_eq_some_iff.1 info5
      exact ⟨ii, h1, congrArg (fun p => p.2.1) h2⟩
    obtain ⟨A5, c5, hb5, hcc5, _, _, hC5, _⟩ := HR5.out
    obtain ⟨A6, c6, hq6, hc6, hC6⟩ := cutb_ex (P := Try.prog) 35 5 Try.underlying35 hii his A5 c5 B (lo : Int) (X : Int) (by omega) (by omega) (by omega) hcc5 y5 (by rw [Int.toNat_natCast, Int.toNat_natCast]; exact HY5.out.symm)
    have hcv := Kd.C_string (P := Try.prog) (w := w5.drew) (src := 35) (dst := 9) (e := 5) (c := c6) Try.underlying35 Try.underlying5 Try.underlying9 (hC6 w5.drew .u8 (Kd.C_below hC5 ((Below.refl _ _).drew)))
    have k0 : w5.drew.cell? ⟨g, 0, none⟩ = some (.slice A5 B.length c5) := hb5.cell 0
    have k1 : w5.drew.cell? ⟨g, 1, none⟩ = some (.int .i64 X) := hb5.cell 1
    have HR6 := Aside0.mk (HR5.out.below ((Below.refl _ _).drew))
    have HF6 := Aside0.mk (HF5.out.then_ (Fr.of_below ((Below.refl _ _).drew) (fun k => k = g)) (fun _ h => .inl h))
    have hsub := HSUB.out
    clear hb5 hC5 hC6 HR5 HF5
    refine start_ (n := 17) (S := fun w' => w' = w5.drew ∧ w'.cell? ⟨g, 0, none⟩ = some (.slice A5 B.length c5) ∧ w'.cell? ⟨g, 1, none⟩ = some (.int .i64 X)) (ds := []) #[false, false, false, false, false, false, false, false, false, false, false, false, false, false, false, false, false] (by kernel_rfl) rfl rfl ⟨rfl, k0, k1⟩ (fun hHeld => ?_)
    generalize w5.drew = wd7 at HR6 HF6 k0 k1 hcv hHeld ⊢
    refine pure_ (i := 0) (N := some 47) (v := ?_) (a' := ?_) #[true, false, false, false, false, false, false, false, false, false, false, false, false, false, false, false, false] rfl rfl (by kernel_rfl) (fun _ _ _ h => h) (Or.inl ⟨by rfl, ?_⟩) ?_ ?_
    rotate_left
    · intro w'
      go_simp
      with_reducible rfl
    rotate_left
    · simp only [Act.put, List.setIfInBounds_toArray, List.set_cons_zero, List.set_cons_succ, i64_w, i32_w]
      rfl
    refine pure_ (i := 1) (N := some 48) (v := ?_) (a' := ?_) #[true, true, false, false, false, false, false, false, false, false, false, false, false, false, false, false, false] rfl rfl (by kernel_rfl) (fun _ _ _ h => h) (Or.inl ⟨by rfl, ?_⟩) ?_ ?_
    rotate_left
    · intro w'
      go_simp
      with_reducible rfl
    rotate_left
    · simp only [Act.put, List.setIfInBounds_toArray, List.set_cons_zero, List.set_cons_succ, i64_w, i32_w]
      rfl
    refine pure_ (i := 2) (N := some 49) (v := ?_) (a' := ?_) #[true, true, true, false, false, false, false, false, false, false, false, false, false, false, false, false, false] rfl rfl (by kernel_rfl) (fun _ _ _ h => h) (Or.inl ⟨by rfl, ?_⟩) ?_ ?_
    rotate_left
    · intro w'
      go_simp
      with_reducible rfl
    rotate_left
    · simp only [Act.put, List.setIfInBounds_toArray, List.set_cons_zero, List.set_cons_succ, i64_w, i32_w]
      rfl
    refine pure_ (i := 4) (N := some 51) (v := ?_) (a' := ?_) #[true, true, true, false, true, false, false, false, false, false, false, false, false, false, false, false, false] rfl rfl (by kernel_rfl) (fun _ _ _ h => h) (Or.inl ⟨by rfl, ?_⟩) ?_ ?_
    rotate_left
    · intro w'
      go_simp
      with_reducible rfl
    rotate_left
    · simp only [Act.put, List.setIfInBounds_toArray, List.set_cons_zero, List.set_cons_succ, i64_w, i32_w]
      rfl
    refine pure_ (i := 5) (N := some 52) (v := ?_) (a' := ?_) #[true, true, true, false, true, true, false, false, false, false, false, false, false, false, false, false, false] rfl rfl (by kernel_rfl) (fun _ _ _ h => h) (Or.inl ⟨by rfl, ?_⟩) ?_ ?_
    rotate_left
    · intro w'
      go_simp
      with_reducible rfl
    rotate_left
    · simp only [Act.put, List.setIfInBounds_toArray, List.set_cons_zero, List.set_cons_succ, i64_w, i32_w]
      rfl
    refine pure_ (i := 6) (N := some 53) (v := ?_) (a' := ?_) #[true, true, true, false, true, true, true, false, false, false, false, false, false, false, false, false, false] rfl rfl (by kernel_rfl) (fun _ _ _ h => h) (Or.inl ⟨by rfl, ?_⟩) ?_ ?_
    rotate_left
    · intro w'
      go_simp
      with_reducible rfl
    rotate_left
    · simp only [Act.put, List.setIfInBounds_toArray, List.set_cons_zero, List.set_cons_succ, i64_w, i32_w]
      rfl
    refine pure_ (i := 8) (N := some 55) (v := ?_) (a' := ?_) #[true, true, true, false, true, true, true, false, true, false, false, false, false, false, false, false, false] rfl rfl (by kernel_rfl) (fun _ _ _ h => h) (Or.inl ⟨by rfl, ?_⟩) ?_ ?_
    rotate_left
    · intro w'
      go_simp
      with_reducible rfl
    rotate_left
    · simp only [Act.put, List.setIfInBounds_toArray, List.set_cons_zero, List.set_cons_succ, i64_w, i32_w]
      rfl
    refine pure_ (i := 10) (N := some 57) (v := ?_) (a' := ?_) #[true, true, true, false, true, true, true, false, true, false, true, false, false, false, false, false, false] rfl rfl (by kernel_rfl) (fun _ _ _ h => h) (Or.inl ⟨by rfl, ?_⟩) ?_ ?_
    rotate_left
    · intro w'
      go_simp
      with_reducible rfl
    rotate_left
    · simp only [Act.put, List.setIfInBounds_toArray, List.set_cons_zero, List.set_cons_succ, i64_w, i32_w]
      rfl
    refine pure_ (i := 11) (N := some 58) (v := ?_) (a' := ?_) #[true, true, true, false, true, true, true, false, true, false, true, true, false, false, false, false, false] rfl rfl (by kernel_rfl) (fun _ _ _ h => h) (Or.inl ⟨by rfl, ?_⟩) ?_ ?_
    rotate_left
    · intro w'
      go_simp
      with_reducible rfl
    rotate_left
    · simp only [Act.put, List.setIfInBounds_toArray, List.set_cons_zero, List.set_cons_succ, i64_w, i32_w]
      rfl
    refine pure_ (i := 12) (N := some 59) (v := ?_) (a' := ?_) #[true, true, true, false, true, true, true, false, true, false, true, true, true, false, false, false, false] rfl rfl (by kernel_rfl) (fun _ _ _ h => h) (Or.inl ⟨by rfl, ?_⟩) ?_ ?_
    rotate_left
    · intro w'
      go_simp
      with_reducible rfl
    rotate_left
    · simp only [Act.put, List.setIfInBounds_toArray, List.set_cons_zero, List.set_cons_succ, i64_w, i32_w]
      rfl
    refine take_ (i := 3) (N := some 50) (v := ?_) (a' := ?_) #[true, true, true, true, true, true, true, false, true, false, true, true, true, false, false, false, false] rfl rfl (by kernel_rfl) (fun _ _ _ h => h) (Or.inl ⟨by rfl, ?_⟩) hHeld ?_ ?_
    rotate_left
    · rintro w' ⟨s0, s1, s2⟩
      go_simp
      with_reducible rfl
    rotate_left
    · simp only [Act.put, List.setIfInBounds_toArray, List.set_cons_zero, List.set_cons_succ, i64_w, i32_w]
      rfl
    refine take_ (i := 7) (N := some 54) (v := ?_) (a' := ?_) #[true, true, true, true, true, true, true, true, true, false, true, true, true, false, false, false, false] rfl rfl (by kernel_rfl) (fun _ _ _ h => h) (Or.inl ⟨by rfl, ?_⟩) hHeld ?_ ?_
    rotate_left
    · rintro w' ⟨s0, s1, s2⟩
      go_simp
      with_reducible rfl
    rotate_left
    · simp only [Act.put, List.setIfInBounds_toArray, List.set_cons_zero, List.set_cons_succ, i64_w, i32_w]
      rfl
    refine pure_ (i := 9) (N := some 56) (v := ?_) (a' := ?_) #[true, true, true, true, true, true, true, true, true, true, true, true, true, false, false, false, false] rfl rfl (by kernel_rfl) (fun _ _ _ h => h) (Or.inl ⟨by rfl, ?_⟩) ?_ ?_
    rotate_left
    · intro w'
      go_simp
      with_reducible rfl
    rotate_left
    · simp only [Act.put, List.setIfInBounds_toArray, List.set_cons_zero, List.set_cons_succ, i64_w, i32_w]
      rfl
    refine take_ (i := 13) (N := some 60) (v := ?_) (a' := ?_) #[true, true, true, true, true, true, true, true, true, true, true, true, true, true, false, false, false] rfl rfl (by kernel_rfl) (fun _ _ _ h => h) (Or.inl ⟨by rfl, ?_⟩) hHeld ?_ ?_
    rotate_left
    · rintro w' ⟨s0, s1, s2⟩
      go_simp
      with_reducible rfl
    rotate_left
    · simp only [Act.put, List.setIfInBounds_toArray, List.set_cons_zero, List.set_cons_succ, i64_w, i32_w]
      rfl
    refine pure_ (i := 14) (N := some 61) (v := ?_) (a' := ?_) #[true, true, true, true, true, true, true, true, true, true, true, true, true, true, true, false, false] rfl rfl (by kernel_rfl) (fun _ _ _ h => h) (Or.inl ⟨by rfl, ?_⟩) ?_ ?_
    rotate_left
    · intro w'
      go_simp
      with_reducible rfl
    rotate_left
    · simp only [Act.put, List.setIfInBounds_toArray, List.set_cons_zero, List.set_cons_succ, i64_w, i32_w]
      rfl
    refine take_ (i := 15) (N := some 62) (v := ?_) (a' := ?_) #[true, true, true, true, true, true, true, true, true, true, true, true, true, true, true, true, false] rfl rfl (by kernel_rfl) (fun _ _ _ h => h) (Or.inl ⟨by rfl, ?_⟩) hHeld ?_ ?_
    rotate_left
    · rintro w' ⟨s0, s1, s2⟩
      go_simp
      with_reducible rfl
    rotate_left
    · simp only [Act.put, List.setIfInBounds_toArray, List.set_cons_zero, List.set_cons_succ, i64_w, i32_w]
      rfl
    refine pure_ (i := 16) (N := some 2) (v := ?_) (a' := ?_) #[true, true, true, true, true, true, true, true, true, true, true, true, true, true, true, true, true] rfl rfl (by kernel_rfl) (fun _ _ _ h => h) (Or.inl ⟨by rfl, ?_⟩) ?_ ?_
    rotate_left
    · intro w'
      go_simp
      with_reducible rfl
    rotate_left
    · simp only [Act.put, List.setIfInBounds_toArray, List.set_cons_zero, List.set_cons_succ, i64_w, i32_w]
      rfl
    refine done_ (by kernel_rfl) ?_
    clear hHeld k0 k1 hcv hsub hq6
    go_wp2
    go_ret
    rw [HS.out]
    exact ⟨rfl, ⟨X, HR6.out, rfl⟩, HF6.out⟩


end Go.Proofs.Ytlmlkcobkmhmbaa.Q
end
