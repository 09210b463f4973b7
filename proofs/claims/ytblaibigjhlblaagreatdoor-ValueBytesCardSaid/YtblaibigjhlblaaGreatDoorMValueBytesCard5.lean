/- texts of one claim, merged: each in a section of its own -/
import Derived.Test.YtblaibigjhlblaaGreatDoorMValueBytesCard3
import Derived.Test.YtblaibigjhlblaaGreatDoorMValueBytesCard4
section
-- written by hprint.py (a program of these sessions) out of the translation; Lean checks it
namespace Go.Proofs.YtblaibigjhlblaaGreatDoor.Q
open Go.RowKit Go.Proofs.YtblaibigjhlblaaGreatDoorW.Hb Go.Proofs.YtblaibigjhlblaaGreatDoorW.PrintWords Go.Proofs.YtblaibigjhlblaaGreatDoorW.PrintLast Go.Proofs.YtblaibigjhlblaaGreatDoorW.PrintMore
attribute [local go_sem] max2_int min2_int max_two min_two max_three min_three max_four min_four   -- for this text's walks alone
set_option linter.unusedVariables false
set_option linter.unusedSimpArgs false

/-! ### value_Zero: function 27 -/
def value_Zero.f (a0 : Int) : Option (Int × Int × ByteArray) := if a0 = 1 then (some (a0, 0, (⟨#[]⟩ : ByteArray))) else (if a0 = 2 then (some (a0, 0, (⟨#[]⟩ : ByteArray))) else (if a0 = 3 then (some (a0, 0, (⟨#[]⟩ : ByteArray))) else (some (0, 0, (⟨#[]⟩ : ByteArray)))))
set_option maxHeartbeats 8000000 in
set_option maxRecDepth 100000 in
theorem value_Zero.calls (a0 : Int) (r1 : Int) (r2 : Int) (r3 : ByteArray) (w : World) (h : value_Zero.f a0 = some (r1, r2, r3)) :
    Calls Tryz.prog 27 #[.int .i64 a0] w fun e w' => e = .returned (.agg #[.int .i64 r1, .int .i64 r2, .string r3]) ∧ Below w.heap.size w w' := by
  have hu47 := Tryz.underlying47
  have HB := Aside0.mk (Below.refl w.heap.size w)
  have H : (if a0 = 1 then (some (a0, 0, (⟨#[]⟩ : ByteArray))) else (if a0 = 2 then (some (a0, 0, (⟨#[]⟩ : ByteArray))) else (if a0 = 3 then (some (a0, 0, (⟨#[]⟩ : ByteArray))) else (some (0, 0, (⟨#[]⟩ : ByteArray)))))) = some (r1, r2, r3) := h
  clear h
  by_cases c2 : a0 = 1
  · rw [if_pos c2] at H
    have c2b0 : (a0 == 1) = true := beq_iff_eq.mpr c2
    have c2b1 : (a0 != 1) = false := bne_eq_false_iff_eq.mpr c2
    clear c2
    simp only [Option.some.injEq, Prod.mk.injEq] at H
    obtain ⟨rfl, rfl, rfl⟩ := H
    go_enter Tryz.func27, Tryz.ntmps27
    go_wp2_with (first | ((with_reducible refine gate_dst (N := 2) rfl ?_); refine box_event ?hg (N := 2) ?hd (cs := #[.int .i64 0, .int .i64 0, .string (⟨#[]⟩ : ByteArray)]) (t := 47) ?hr ?_; (case hd => rfl); (case hg => rfl); (case hr => first | (go_simp; done) | (go_simp; rfl)); intro gb182 hg w3 hbox hb; have n0_ := Aside0.mk (below_step (by repeat (first | (with_reducible first | exact HB.out | apply below_alloc | apply pw_below_drewN | apply below_drew1) | exact HB.out)) hb); have n1_ := Aside0.mk (hbox); have n2_ := Aside0.mk ((by rw [hg]; exact (below_size (by repeat (first | (with_reducible first | exact HB.out | apply below_alloc | apply pw_below_drewN | apply below_drew1) | exact HB.out))) : w.heap.size ≤ gb182)); have n3_ := Aside0.mk ((by rw [hg]; exact (below_size (by repeat (first | (with_reducible first | exact HB.out | apply below_alloc | apply pw_below_drewN | apply below_drew1) | exact HB.out))) : w.heap.size ≤ gb182)); clear HB; have HB := n0_; have BK182 := n1_; have GW182 := n2_; have GE182 := n3_; clear n0_ n1_ n2_ n3_; clear hb hbox hg; have hcz4_0 : w3.cell? ⟨gb182, 0, none⟩ = some (.int .i64 0) := (blk_cell BK182.out 0).trans rfl; have hcz4_1 : w3.cell? ⟨gb182, 1, none⟩ = some (.int .i64 0) := (blk_cell BK182.out 1).trans rfl; have hcz4_2 : w3.cell? ⟨gb182, 2, none⟩ = some (.string (⟨#[]⟩ : ByteArray)) := (blk_cell BK182.out 2).trans rfl; have hfz4_0 := blk_frozen BK182.out 0; have hfz4_1 := blk_frozen BK182.out 1; have hfz4_2 := blk_frozen BK182.out 2))
    refine bodyPost_ret (results_cell_row rfl _ _ gb182 47 #[.int .i64 a0, .int .i64 0, .string (⟨#[]⟩ : ByteArray)] (0, 0) _ rfl (by (with_reducible repeat (first | refine blk_drewN ?_ _ | refine blk_drew ?_ | refine blk_alloc ?_ _)); refine blk_put (cs := #[.int .i64 a0, .int .i64 0, .string (⟨#[]⟩ : ByteArray)]) ?_ 2 _ rfl; (with_reducible repeat (first | refine blk_drewN ?_ _ | refine blk_drew ?_ | refine blk_alloc ?_ _)); refine blk_put (cs := #[.int .i64 a0, .int .i64 0, .string (⟨#[]⟩ : ByteArray)]) ?_ 1 _ rfl; (with_reducible repeat (first | refine blk_drewN ?_ _ | refine blk_drew ?_ | refine blk_alloc ?_ _)); refine blk_put (cs := #[.int .i64 0, .int .i64 0, .string (⟨#[]⟩ : ByteArray)]) ?_ 0 _ rfl; (with_reducible repeat (first | refine blk_drewN ?_ _ | refine blk_drew ?_ | refine blk_alloc ?_ _)); exact BK182.out) Tryz.underlying47 rfl (by kernel_rfl)) rfl ?_
    exact ⟨by first | rfl | (simp [errW_none, errW_some] <;> rfl) | (simp [*, errW_none, errW_some] <;> rfl), by repeat (first | (with_reducible first | exact HB.out | apply below_alloc | apply pw_below_drewN | apply below_drew1 | refine below_set ?_ GE182.out) | exact HB.out)⟩
  · rw [if_neg c2] at H
    have c2b0 : (a0 == 1) = false := beq_eq_false_iff_ne.mpr c2
    have c2b1 : (a0 != 1) = true := bne_iff_ne.mpr c2
    by_cases c5 : a0 = 2
    · rw [if_pos c5] at H
      have c5b0 : (a0 == 2) = true := beq_iff_eq.mpr c5
      have c5b1 : (a0 != 2) = false := bne_eq_false_iff_eq.mpr c5
      clear c5
      simp only [Option.some.injEq, Prod.mk.injEq] at H
      obtain ⟨rfl, rfl, rfl⟩ := H
      go_enter Tryz.func27, Tryz.ntmps27
      go_wp2_with (first | ((with_reducible refine gate_dst (N := 2) rfl ?_); refine box_event ?hg (N := 2) ?hd (cs := #[.int .i64 0, .int .i64 0, .string (⟨#[]⟩ : ByteArray)]) (t := 47) ?hr ?_; (case hd => rfl); (case hg => rfl); (case hr => first | (go_simp; done) | (go_simp; rfl)); intro gb182 hg w6 hbox hb; have n0_ := Aside0.mk (below_step (by repeat (first | (with_reducible first | exact HB.out | apply below_alloc | apply pw_below_drewN | apply below_drew1) | exact HB.out)) hb); have n1_ := Aside0.mk (hbox); have n2_ := Aside0.mk ((by rw [hg]; exact (below_size (by repeat (first | (with_reducible first | exact HB.out | apply below_alloc | apply pw_below_drewN | apply below_drew1) | exact HB.out))) : w.heap.size ≤ gb182)); have n3_ := Aside0.mk ((by rw [hg]; exact (below_size (by repeat (first | (with_reducible first | exact HB.out | apply below_alloc | apply pw_below_drewN | apply below_drew1) | exact HB.out))) : w.heap.size ≤ gb182)); clear HB; have HB := n0_; have BK182 := n1_; have GW182 := n2_; have GE182 := n3_; clear n0_ n1_ n2_ n3_; clear hb hbox hg; have hcz7_0 : w6.cell? ⟨gb182, 0, none⟩ = some (.int .i64 0) := (blk_cell BK182.out 0).trans rfl; have hcz7_1 : w6.cell? ⟨gb182, 1, none⟩ = some (.int .i64 0) := (blk_cell BK182.out 1).trans rfl; have hcz7_2 : w6.cell? ⟨gb182, 2, none⟩ = some (.string (⟨#[]⟩ : ByteArray)) := (blk_cell BK182.out 2).trans rfl; have hfz7_0 := blk_frozen BK182.out 0; have hfz7_1 := blk_frozen BK182.out 1; have hfz7_2 := blk_frozen BK182.out 2))
      refine bodyPost_ret (results_cell_row rfl _ _ gb182 47 #[.int .i64 a0, .int .i64 0, .string (⟨#[]⟩ : ByteArray)] (0, 0) _ rfl (by (with_reducible repeat (first | refine blk_drewN ?_ _ | refine blk_drew ?_ | refine blk_alloc ?_ _)); refine blk_put (cs := #[.int .i64 a0, .int .i64 0, .string (⟨#[]⟩ : ByteArray)]) ?_ 2 _ rfl; (with_reducible repeat (first | refine blk_drewN ?_ _ | refine blk_drew ?_ | refine blk_alloc ?_ _)); refine blk_put (cs := #[.int .i64 a0, .int .i64 0, .string (⟨#[]⟩ : ByteArray)]) ?_ 1 _ rfl; (with_reducible repeat (first | refine blk_drewN ?_ _ | refine blk_drew ?_ | refine blk_alloc ?_ _)); refine blk_put (cs := #[.int .i64 0, .int .i64 0, .string (⟨#[]⟩ : ByteArray)]) ?_ 0 _ rfl; (with_reducible repeat (first | refine blk_drewN ?_ _ | refine blk_drew ?_ | refine blk_alloc ?_ _)); exact BK182.out) Tryz.underlying47 rfl (by kernel_rfl)) rfl ?_
      exact ⟨by first | rfl | (simp [errW_none, errW_some] <;> rfl) | (simp [*, errW_none, errW_some] <;> rfl), by repeat (first | (with_reducible first | exact HB.out | apply below_alloc | apply pw_below_drewN | apply below_drew1 | refine below_set ?_ GE182.out) | exact HB.out)⟩
    · rw [if_neg c5] at H
      have c5b0 : (a0 == 2) = false := beq_eq_false_iff_ne.mpr c5
      have c5b1 : (a0 != 2) = true := bne_iff_ne.mpr c5
      by_cases c8 : a0 = 3
      · rw [if_pos c8] at H
        have c8b0 : (a0 == 3) = true := beq_iff_eq.mpr c8
        have c8b1 : (a0 != 3) = false := bne_eq_false_iff_eq.mpr c8
        clear c8
        simp only [Option.some.injEq, Prod.mk.injEq] at H
        obtain ⟨rfl, rfl, rfl⟩ := H
        go_enter Tryz.func27, Tryz.ntmps27
        go_wp2_with (first | ((with_reducible refine gate_dst (N := 2) rfl ?_); refine box_event ?hg (N := 2) ?hd (cs := #[.int .i64 0, .int .i64 0, .string (⟨#[]⟩ : ByteArray)]) (t := 47) ?hr ?_; (case hd => rfl); (case hg => rfl); (case hr => first | (go_simp; done) | (go_simp; rfl)); intro gb182 hg w9 hbox hb; have n0_ := Aside0.mk (below_step (by repeat (first | (with_reducible first | exact HB.out | apply below_alloc | apply pw_below_drewN | apply below_drew1) | exact HB.out)) hb); have n1_ := Aside0.mk (hbox); have n2_ := Aside0.mk ((by rw [hg]; exact (below_size (by repeat (first | (with_reducible first | exact HB.out | apply below_alloc | apply pw_below_drewN | apply below_drew1) | exact HB.out))) : w.heap.size ≤ gb182)); have n3_ := Aside0.mk ((by rw [hg]; exact (below_size (by repeat (first | (with_reducible first | exact HB.out | apply below_alloc | apply pw_below_drewN | apply below_drew1) | exact HB.out))) : w.heap.size ≤ gb182)); clear HB; have HB := n0_; have BK182 := n1_; have GW182 := n2_; have GE182 := n3_; clear n0_ n1_ n2_ n3_; clear hb hbox hg; have hcz10_0 : w9.cell? ⟨gb182, 0, none⟩ = some (.int .i64 0) := (blk_cell BK182.out 0).trans rfl; have hcz10_1 : w9.cell? ⟨gb182, 1, none⟩ = some (.int .i64 0) := (blk_cell BK182.out 1).trans rfl; have hcz10_2 : w9.cell? ⟨gb182, 2, none⟩ = some (.string (⟨#[]⟩ : ByteArray)) := (blk_cell BK182.out 2).trans rfl; have hfz10_0 := blk_frozen BK182.out 0; have hfz10_1 := blk_frozen BK182.out 1; have hfz10_2 := blk_frozen BK182.out 2))
        refine bodyPost_ret (results_cell_row rfl _ _ gb182 47 #[.int .i64 a0, .int .i64 0, .string (⟨#[]⟩ : ByteArray)] (0, 0) _ rfl (by (with_reducible repeat (first | refine blk_drewN ?_ _ | refine blk_drew ?_ | refine blk_alloc ?_ _)); refine blk_put (cs := #[.int .i64 a0, .int .i64 0, .string (⟨#[]⟩ : ByteArray)]) ?_ 2 _ rfl; (with_reducible repeat (first | refine blk_drewN ?_ _ | refine blk_drew ?_ | refine blk_alloc ?_ _)); refine blk_put (cs := #[.int .i64 a0, .int .i64 0, .string (⟨#[]⟩ : ByteArray)]) ?_ 1 _ rfl; (with_reducible repeat (first | refine blk_drewN ?_ _ | refine blk_drew ?_ | refine blk_alloc ?_ _)); refine blk_put (cs := #[.int .i64 0, .int .i64 0, .string (⟨#[]⟩ : ByteArray)]) ?_ 0 _ rfl; (with_reducible repeat (first | refine blk_drewN ?_ _ | refine blk_drew ?_ | refine blk_alloc ?_ _)); exact BK182.out) Tryz.underlying47 rfl (by kernel_rfl)) rfl ?_
        exact ⟨by first | rfl | (simp [errW_none, errW_some] <;> rfl) | (simp [*, errW_none, errW_some] <;> rfl), by repeat (first | (with_reducible first | exact HB.out | apply below_alloc | apply pw_below_drewN | apply below_drew1 | refine below_set ?_ GE182.out) | exact HB.out)⟩
      · rw [if_neg c8] at H
        have c8b0 : (a0 == 3) = false := beq_eq_false_iff_ne.mpr c8
        have c8b1 : (a0 != 3) = true := bne_iff_ne.mpr c8
        simp only [Option.some.injEq, Prod.mk.injEq] at H
        obtain ⟨rfl, rfl, rfl⟩ := H
        go_enter Tryz.func27, Tryz.ntmps27
        go_wp2_with (first | ((with_reducible refine gate_dst (N := 2) rfl ?_); refine box_event ?hg (N := 2) ?hd (cs := #[.int .i64 0, .int .i64 0, .string (⟨#[]⟩ : ByteArray)]) (t := 47) ?hr ?_; (case hd => rfl); (case hg => rfl); (case hr => first | (go_simp; done) | (go_simp; rfl)); intro gb182 hg w11 hbox hb; have n0_ := Aside0.mk (below_step (by repeat (first | (with_reducible first | exact HB.out | apply below_alloc | apply pw_below_drewN | apply below_drew1) | exact HB.out)) hb); have n1_ := Aside0.mk (hbox); have n2_ := Aside0.mk ((by rw [hg]; exact (below_size (by repeat (first | (with_reducible first | exact HB.out | apply below_alloc | apply pw_below_drewN | apply below_drew1) | exact HB.out))) : w.heap.size ≤ gb182)); have n3_ := Aside0.mk ((by rw [hg]; exact (below_size (by repeat (first | (with_reducible first | exact HB.out | apply below_alloc | apply pw_below_drewN | apply below_drew1) | exact HB.out))) : w.heap.size ≤ gb182)); clear HB; have HB := n0_; have BK182 := n1_; have GW182 := n2_; have GE182 := n3_; clear n0_ n1_ n2_ n3_; clear hb hbox hg; have hcz12_0 : w11.cell? ⟨gb182, 0, none⟩ = some (.int .i64 0) := (blk_cell BK182.out 0).trans rfl; have hcz12_1 : w11.cell? ⟨gb182, 1, none⟩ = some (.int .i64 0) := (blk_cell BK182.out 1).trans rfl; have hcz12_2 : w11.cell? ⟨gb182, 2, none⟩ = some (.string (⟨#[]⟩ : ByteArray)) := (blk_cell BK182.out 2).trans rfl; have hfz12_0 := blk_frozen BK182.out 0; have hfz12_1 := blk_frozen BK182.out 1; have hfz12_2 := blk_frozen BK182.out 2))
        refine bodyPost_ret (results_cell_row rfl _ _ gb182 47 #[.int .i64 0, .int .i64 0, .string (⟨#[]⟩ : ByteArray)] (0, 0) _ rfl (by (with_reducible repeat (first | refine blk_drewN ?_ _ | refine blk_drew ?_ | refine blk_alloc ?_ _)); refine blk_put (cs := #[.int .i64 0, .int .i64 0, .string (⟨#[]⟩ : ByteArray)]) ?_ 2 _ rfl; (with_reducible repeat (first | refine blk_drewN ?_ _ | refine blk_drew ?_ | refine blk_alloc ?_ _)); refine blk_put (cs := #[.int .i64 0, .int .i64 0, .string (⟨#[]⟩ : ByteArray)]) ?_ 1 _ rfl; (with_reducible repeat (first | refine blk_drewN ?_ _ | refine blk_drew ?_ | refine blk_alloc ?_ _)); refine blk_put (cs := #[.int .i64 0, .int .i64 0, .string (⟨#[]⟩ : ByteArray)]) ?_ 0 _ rfl; (with_reducible repeat (first | refine blk_drewN ?_ _ | refine blk_drew ?_ | refine blk_alloc ?_ _)); exact BK182.out) Tryz.underlying47 rfl (by kernel_rfl)) rfl ?_
        exact ⟨by first | rfl | (simp [errW_none, errW_some] <;> rfl) | (simp [*, errW_none, errW_some] <;> rfl), by repeat (first | (with_reducible first | exact HB.out | apply below_alloc | apply pw_below_drewN | apply below_drew1 | refine below_set ?_ GE182.out) | exact HB.out)⟩

end Go.Proofs.YtblaibigjhlblaaGreatDoor.Q
end

section
-- written by hprint.py (a program of these sessions) out of the translation; Lean checks it
namespace Go.Proofs.YtblaibigjhlblaaGreatDoor.Q
open Go.RowKit Go.Proofs.YtblaibigjhlblaaGreatDoorW.Hb Go.Proofs.YtblaibigjhlblaaGreatDoorW.PrintWords Go.Proofs.YtblaibigjhlblaaGreatDoorW.PrintLast Go.Proofs.YtblaibigjhlblaaGreatDoorW.PrintMore
attribute [local go_sem] max2_int min2_int max_two min_two max_three min_three max_four min_four   -- for this text's walks alone
set_option linter.unusedVariables false
set_option linter.unusedSimpArgs false

/-! ### value_Get: function 9, by hand -/
/-- The program's reader, told by what is left; its blocks lie from w0 on, below b. -/
def Or (w0 w : World) (b g : Nat) (xs : List Int) (e : Int) : Prop := ∃ S, Rd w S g xs e ∧ (∀ k, S k → w0.heap.size ≤ k ∧ k < b) ∧ b ≤ w.heap.size ∧ Below w0.heap.size w0 w
section
variable {w0 w w' : World} {b g : Nat} {xs xs' : List Int} {e e' : Int}
theorem Or.bel (h : Or w0 w b g xs e) : Below w0.heap.size w0 w := h.choose_spec.2.2.2
theorem Or.le (h : Or w0 w b g xs e) : b ≤ w.heap.size := h.choose_spec.2.2.1
theorem Or.g_in (h : Or w0 w b g xs e) : w0.heap.size ≤ g ∧ g < b := by
  obtain ⟨S, h1, h2, _⟩ := h
  exact h2 g h1.own
theorem Or.B (h : Or w0 w b g xs e) : ∀ x ∈ xs, 0 ≤ x ∧ x ≤ 255 := by
  obtain ⟨S, h1, _⟩ := h
  exact h1.B
theorem Or.kept {S2 : Nat → Prop} (h : Or w0 w b g xs e) (hk : Kept w w' S2) (hd : ∀ k, S2 k → b ≤ k) (hb : Below w0.heap.size w w') : Or w0 w' b g xs e := by
  obtain ⟨S, h1, h2, h3, h4⟩ := h
  exact ⟨S, h1.kept hk (fun k hS h => by have := (h2 k hS).2; have := hd k h; omega), h2, Nat.le_trans h3 hk.1, h4.trans hb⟩
theorem Or.below (h : Or w0 w b g xs e) (hb : Below b w w') : Or w0 w' b g xs e :=
  h.kept (S2 := fun k => b ≤ k) ⟨hb.size, fun i hi hn => hb.block i (by omega)⟩ (fun _ h => h) (hb.mono (by have := h.g_in; omega))
theorem Or.step {S : Nat → Prop} (h1 : Rd w S g xs e) (h2 : ∀ k, S k → w0.heap.size ≤ k ∧ k < b) (h3 : b ≤ w.heap.size) (h4 : Below w0.heap.size w0 w) (hr : Rd w' S g xs' e') (hf : Fr w w' (fun k => k = g)) : Or w0 w' b g xs' e' :=
  ⟨S, hr, h2, Nat.le_trans h3 hf.1.size, h4.trans (hf.below h4.size (fun k hk => by subst hk; exact (h2 _ h1.own).1))⟩
theorem byteQ {v : Int} (h : Or w0 w b g xs e) (hx : rByte xs e = (v, xs', e')) : Calls Tryz.prog 26 #[.pointer (some ⟨g, 0, none⟩)] w fun en w' => en = .returned (.int .i64 v) ∧ Or w0 w' b g xs' e' ∧ Fr w w' (fun k => k = g) := by
  obtain ⟨S, h1, h2, h3, h4⟩ := h
  have := wire_Reader_Byte.calls S g xs e w h1
  rw [hx] at this
  exact this.mono fun en w' ⟨he, hr, hf⟩ => ⟨he, Or.step h1 h2 h3 h4 hr hf, hf⟩
theorem intQ {v : Int} (h : Or w0 w b g xs e) (hx : rInt xs e = (v, xs', e')) : Calls Tryz.prog 28 #[.pointer (some ⟨g, 0, none⟩)] w fun en w' => en = .returned (.int .i64 v) ∧ Or w0 w' b g xs' e' ∧ Fr w w' (fun k => k = g) := by
  obtain ⟨S, h1, h2, h3, h4⟩ := h
  have := wire_Reader_Int.calls S g xs e w h1
  rw [hx] at this
  exact this.mono fun en w' ⟨he, hr, hf⟩ => ⟨he, Or.step h1 h2 h3 h4 hr hf, hf⟩
theorem textQ {v : ByteArray} (h : Or w0 w b g xs e) (hx : rText xs e = (v, xs', e')) : Calls Tryz.prog 29 #[.pointer (some ⟨g, 0, none⟩)] w fun en w' => en = .returned (.string v) ∧ Or w0 w' b g xs' e' ∧ Fr w w' (fun k => k = g) := by
  obtain ⟨S, h1, h2, h3, h4⟩ := h
  have := wire_Reader_Text.calls S g xs e w h1
  rw [hx] at this
  exact this.mono fun en w' ⟨he, hr, hf⟩ => ⟨he, Or.step h1 h2 h3 h4 hr hf, hf⟩
theorem errQ (h : Or w0 w b g xs e) : Calls Tryz.prog 52 #[.pointer (some ⟨g, 0, none⟩)] w fun en w' => en = .returned (.int .i64 e) ∧ w' = w := by
  obtain ⟨S, h1, h2, h3, h4⟩ := h
  exact wire_Reader_Err.calls S g xs e w h1
theorem doneQ (h : Or w0 w b g xs e) : Calls Tryz.prog 30 #[.pointer (some ⟨g, 0, none⟩)] w fun en w' => en = .returned (.int .i64 (rDone xs e)) ∧ w' = w := by
  obtain ⟨S, h1, h2, h3, h4⟩ := h
  exact wire_Reader_Done.calls S g xs e w h1
end
theorem rByte_in {xs xs1 : List Int} {e e1 v : Int} (hB : ∀ x ∈ xs, 0 ≤ x ∧ x ≤ 255) (h : rByte xs e = (v, xs1, e1)) : 0 ≤ v ∧ v ≤ 255 := by
  by_cases he : e ≠ 0
  · rw [rByte_err he] at h
    cases h
    omega
  · obtain rfl : e = 0 := by omega
    by_cases h1 : xs.length < 1
    · rw [rByte_end h1] at h
      cases h
      omega
    · rw [rByte_ok h1] at h
      cases h
      exact rd_in hB 0 (by omega)
/-- One value that a reader has; z: a type that is none is told as 0. -/
def gval (z : Bool) (xs : List Int) (e : Int) : S47 × List Int × Int :=
  if (rByte xs e).1 = 1 then (⟨1, (rInt (rByte xs e).2.1 (rByte xs e).2.2).1, ⟨#[]⟩⟩, (rInt (rByte xs e).2.1 (rByte xs e).2.2).2)
  else if (rByte xs e).1 = 2 then (⟨2, 0, (rText (rByte xs e).2.1 (rByte xs e).2.2).1⟩, (rText (rByte xs e).2.1 (rByte xs e).2.2).2)
  else if (rByte xs e).1 = 3 then (⟨3, (rByte (rByte xs e).2.1 (rByte xs e).2.2).1, ⟨#[]⟩⟩, (rByte (rByte xs e).2.1 (rByte xs e).2.2).2)
  else (⟨if z = true then 0 else (rByte xs e).1, 0, ⟨#[]⟩⟩, (rByte xs e).2)
section
variable {z : Bool} {xs x1 x2 : List Int} {e e1 e2 t v : Int} {s : ByteArray}
theorem gval_1 (h : rByte xs e = (1, x1, e1)) (h2 : rInt x1 e1 = (v, x2, e2)) : gval z xs e = (⟨1, v, ⟨#[]⟩⟩, x2, e2) := by
  unfold gval
  rw [h]
  simp only [h2, if_pos]
theorem gval_2 (h : rByte xs e = (2, x1, e1)) (h2 : rText x1 e1 = (s, x2, e2)) : gval z xs e = (⟨2, 0, s⟩, x2, e2) := by
  unfold gval
  rw [h]
  simp only [h2]
  rw [if_neg (by decide), if_pos True.intro]
theorem gval_3 (h : rByte xs e = (3, x1, e1)) (h2 : rByte x1 e1 = (v, x2, e2)) : gval z xs e = (⟨3, v, ⟨#[]⟩⟩, x2, e2) := by
  unfold gval
  rw [h]
  simp only [h2]
  rw [if_neg (by decide), if_neg (by decide), if_pos True.intro]
theorem gval_4 (h : rByte xs e = (t, x1, e1)) (n1 : t ≠ 1) (n2 : t ≠ 2) (n3 : t ≠ 3) : gval z xs e = (⟨if z = true then 0 else t, 0, ⟨#[]⟩⟩, x1, e1) := by
  unfold gval
  rw [h]
  simp only
  rw [if_neg n1, if_neg n2, if_neg n3]
end
/-- Values that a reader has; the document stops at an error (z = false). -/
def gvals (z : Bool) : Nat → List Int → Int → List S47 → List S47 × List Int × Int
  | 0, xs, e, acc => (acc, xs, e)
  | n + 1, xs, e, acc => if z = false ∧ e ≠ 0 then (acc, xs, e) else gvals z n (gval z xs e).2.1 (gval z xs e).2.2 (acc ++ [(gval z xs e).1])
theorem gvals_0 (z : Bool) (xs : List Int) (e : Int) (acc : List S47) : gvals z 0 xs e acc = (acc, xs, e) := rfl
theorem gvals_stop (n : Nat) (xs : List Int) {e : Int} (he : e ≠ 0) (acc : List S47) : gvals false n xs e acc = (acc, xs, e) := by
  cases n with
  | zero => rfl
  | succ n => rw [gvals, if_pos ⟨rfl, he⟩]
theorem gvals_step {z : Bool} {xs xs2 : List Int} {e e2 : Int} {v : S47} (n : Nat) (acc : List S47) (hz : z = true ∨ e = 0) (h : gval z xs e = (v, xs2, e2)) : gvals z (n + 1) xs e acc = gvals z n xs2 e2 (acc ++ [v]) := by
  rw [gvals, if_neg (by rintro ⟨h1, h2⟩; rcases hz with h3 | h3; rw [h1] at h3; cases h3; exact h2 h3), h]
def getV (z : Bool) (l : List Int) : List S47 × List Int × Int := gvals z (rByte l 0).1.toNat (rByte l 0).2.1 (rByte l 0).2.2 []
theorem getV_is {z : Bool} {l x : List Int} {n : Nat} {e : Int} (h : rByte l 0 = ((n : Int), x, e)) : getV z l = gvals z n x e [] := by
  unfold getV
  rw [h]
  simp
def zk (t : Int) : Int := if t = 1 then t else if t = 2 then t else if t = 3 then t else 0
theorem Or.kept2 {w0 w w' : World} {b g : Nat} {xs : List Int} {e : Int} {S2 : Nat → Prop} (h : Or w0 w b g xs e) (hk : Kept w w' S2) (hd : ∀ k, S2 k → b ≤ k) (hb : Below w0.heap.size w0 w') : Or w0 w' b g xs e := by
  obtain ⟨S, h1, h2, h3, h4⟩ := h
  exact ⟨S, h1.kept hk (fun k hS h => by have := (h2 k hS).2; have := hd k h; omega), h2, Nat.le_trans h3 hk.1, hb⟩
theorem zero_zk (t : Int) : value_Zero.f t = some (zk t, 0, ⟨#[]⟩) := by
  unfold value_Zero.f zk
  repeat' split
  all_goals rfl
def value_Get.f (k : Nat) (l0 : List Int) : Option (List S47 × Int) := if (l0.all isBb && decide (l0.length ≤ 140737488355328)) = true then (if rDone (getV true l0).2.1 (getV true l0).2.2 = 0 then (value_all.f k (getV true l0).1).bind fun q => some (if q = true then ((getV true l0).1, 0) else ([], 21)) else some ([], 21)) else none
theorem value_Get.mono : ∀ a0 k, LeO (value_Get.f k a0) (value_Get.f (k + 1) a0) := fun a0 k => by
  unfold value_Get.f
  split
  · split
    · exact LeO.bind (value_all.mono _ _) (fun _ => LeO.refl _)
    · exact LeO.refl _
  · exact LeO.refl _
set_option maxRecDepth 100000 in
set_option maxHeartbeats 8000000 in
theorem value_Get.calls (k : Nat) (A0 : Option Addr) (c0 : Nat) (l0 : List Int) (r1 : List S47) (r2 : Int) (w0 : World) (hr0 : Kd.C (Kd.int .u8) w0 A0 l0.length l0) (hc0 : l0.length ≤ c0) (h : value_Get.f k l0 = some (r1, r2)) :
    Calls Tryz.prog 9 #[.slice A0 l0.length c0] w0 fun e w' => ∃ v0_ : Value, e = .returned (.tuple #[v0_, .int .i64 r2]) ∧ Kd.R k47 47 w' w0.heap.size (fun _ => True) v0_ r1 ∧ Below w0.heap.size w0 w' := by
  unfold value_Get.f at h
  split at h
  rotate_left
  · cases h
  rename_i hall
  simp only [Bool.and_eq_true, decide_eq_true_eq] at hall
  have HBB := Aside0.mk (isBb_all hall.1)
  have hll := hall.2
  have hm0 : l0.length ≤ 9223372036854775807 := hr0.2.1
  obtain ⟨v1, x1, e1, h1⟩ : ∃ v x e, rByte l0 0 = (v, x, e) := ⟨_, _, _, rfl⟩
  have hv1 := rByte_in (isBb_all hall.1) h1
  obtain ⟨n, rfl⟩ := Int.eq_ofNat_of_zero_le hv1.1
  have hn255 : n ≤ 255 := by omega
  rw [getV_is h1] at h
  obtain ⟨ls, xs', e', hG⟩ : ∃ a b c, gvals true n x1 e1 [] = (a, b, c) := ⟨_, _, _, rfl⟩
  rw [hG] at h
  have H := Aside0.mk h
  have HG := Aside0.mk hG
  have H1' := Aside0.mk h1
  have HR0 := Aside0.mk hr0
  clear h hG h1 hr0 hall hv1
  go_enter Tryz.func9, Tryz.ntmps9
  go_wp2_with (fail)
  with_reducible refine (wire_NewReader.calls A0 c0 l0 w0 HR0.out hc0 (by omega) HBB.out).mono ?_
  rintro en w2 ⟨g, rfl, hd2, hg2, hB2⟩
  have HO2 := Aside0.mk (show Or w0 w2 w2.heap.size g l0 0 from ⟨_, hd2, fun k hk => hk, Nat.le_refl _, hB2⟩)
  clear hd2 hg2 hB2
  generalize w2.heap.size = b at HO2
  go_wp2_with (fail)
  with_reducible refine (byteQ HO2.out H1'.out).mono ?_
  rintro en w3 ⟨rfl, hO3, _⟩
  have HO3 := Aside0.mk hO3
  have hgb := hO3.g_in
  clear hO3 HO2 H1' HR0 HBB
  go_wp2_with (fail)
  go_loopw [5, 11] (fun v5 v11 wr => ∃ (m : Nat) (ys : List Int) (ee : Int) (acc : List S47), v11 = .int .i64 (acc.length : Int) ∧ acc.length + m = n ∧ Aside0 (gvals true m ys ee acc = (ls, xs', e')) ∧ Aside0 (Or w0 wr b g ys ee) ∧ Aside0 (Kd.R k47 47 wr w0.heap.size (fun k => b ≤ k) v5 acc)) (fun _ v _ => n - (intOf v).toNat)
  case atStart => exact ⟨n, x1, e1, [], rfl, by simp, HG, HO3, ⟨Kd.R_nil _ _ _ _ _⟩⟩
  case round =>
    clear HG HO3
    obtain ⟨m, ys, ee, acc, rfl, hlm, HX, HO, HR⟩ := hrel
    rcases Nat.eq_zero_or_pos m with h0 | h0
    · subst h0
      have hX := HX.out
      rw [gvals_0] at hX
      obtain ⟨q1, hX⟩ := Prod.mk.inj hX
      obtain ⟨q2, q3⟩ := Prod.mk.inj hX
      rw [← q1, ← q2, ← q3] at H
      clear hX HX q1 q2 q3
      have hz : ¬ (acc.length : Int) < (n : Int) := by omega
      have h := H.out
      by_cases hdn : rDone ys ee = 0
      · rw [if_pos hdn] at h
        obtain ⟨q, hq, h⟩ := Option.bind_eq_some_iff.1 h
        have h := Option.some.inj h
        have hd1 : (rDone ys ee == 0) = true := by simp [hdn]
        have hd2 : (rDone ys ee != 0) = false := by simp [hdn]
        have HQ := Aside0.mk hq
        have HH := Aside0.mk h
        obtain ⟨A5, c5, rfl, hc5, hC5⟩ := Kd.R_reads HR.out
        have HC5 := Aside0.mk hC5
        clear hC5 hq h H
        go_wp2_with (fail)
        with_reducible refine (doneQ HO.out).mono ?_
        rintro en w4 ⟨rfl, hw4⟩
        subst hw4
        go_wp2_with (fail)
        with_reducible refine (value_all.calls k A5 c5 acc q _ HC5.out hc5 HQ.out).mono ?_
        rintro en w6 ⟨rfl, hb6⟩
        have HB6 := Aside0.mk hb6
        clear hb6
        cases q
        · obtain ⟨rfl, rfl⟩ := Prod.mk.inj (show (([] : List S47), (21 : Int)) = (r1, r2) from HH.out)
          go_wp2_with (fail)
          go_ret2
          exact ⟨_, rfl, Kd.R_nil _ _ _ _ _, HO.out.bel.trans (HB6.out.mono HO.out.bel.size)⟩
        · obtain ⟨rfl, rfl⟩ := Prod.mk.inj (show ((acc : List S47), (0 : Int)) = (r1, r2) from HH.out)
          go_wp2_with (fail)
          go_ret2
          exact ⟨_, rfl, Kd.R_mono (Kd.R_below HR.out HB6.out) (fun _ _ => trivial), HO.out.bel.trans (HB6.out.mono HO.out.bel.size)⟩
      · rw [if_neg hdn] at h
        obtain ⟨rfl, rfl⟩ := Prod.mk.inj (Option.some.inj h)
        have hd1 : (rDone ys ee == 0) = false := by simp [hdn]
        have hd2 : (rDone ys ee != 0) = true := by simp [hdn]
        clear h H
        go_wp2_with (fail)
        with_reducible refine (doneQ HO.out).mono ?_
        rintro en w4 ⟨rfl, hw4⟩
        subst hw4
        go_wp2_with (fail)
        go_ret2
        exact ⟨_, rfl, Kd.R_nil _ _ _ _ _, HO.out.bel⟩
    · have hz : (acc.length : Int) < (n : Int) := by omega
      obtain ⟨m, rfl⟩ : ∃ m', m = m' + 1 := ⟨m - 1, by omega⟩
      have HAL := Aside0.mk (show (acc.length + 1) * 32 ≤ 140737488355328 by omega)
      obtain ⟨t, x1, e1, h1⟩ : ∃ v x e, rByte ys ee = (v, x, e) := ⟨_, _, _, rfl⟩
      have H1 := Aside0.mk h1
      have HRb := Aside0.mk (Kd.R_mono (ok' := fun k => b ≤ k ∧ k < wr.heap.size) (Kd.R_bound HR.out) (fun k hk => ⟨hk.1, hk.2.2.1⟩))
      have hble : b ≤ wr.heap.size := HO.out.le
      have hwb : w0.heap.size ≤ wr.heap.size := HO.out.bel.size
      clear h1 HR
      go_wp2_with (fail)
      with_reducible refine (byteQ HO.out H1.out).mono ?_
      rintro en w4 ⟨rfl, hO4, hF4⟩
      have HO4 := Aside0.mk hO4
      have HR4 := Aside0.mk (Kd.R_kept HRb.out hF4.2 (fun k hk h => by omega))
      have HS4 := Aside0.mk hF4.1.size
      clear hO4 hF4 HO HRb
      go_wp2_with (fail)
      with_reducible refine (value_Zero.calls t _ _ _ w4 (zero_zk t)).mono ?_
      rintro en w5 ⟨rfl, hb5⟩
      have HO5 := Aside0.mk (HO4.out.below (hb5.mono HO4.out.le))
      have HR5 := Aside0.mk (Kd.R_below HR4.out hb5)
      have HS5 := Aside0.mk (Nat.le_trans HS4.out hb5.size)
      clear hb5 HO4 HR4 HS4
      obtain ⟨kz, hkz⟩ : ∃ kz, zk t = kz := ⟨_, rfl⟩
      rw [hkz]
      go_upto_region 6 with (fail)
      have HK := Aside0.mk (Blk.new w5 47 #[.int .i64 kz, .int .i64 0, .string ⟨#[]⟩])
      have HOa := Aside0.mk (HO5.out.below ((Below.refl _ w5).alloc HO5.out.le (.cells #[.int .i64 kz, .int .i64 0, .string ⟨#[]⟩] 47)))
      have HRa := Aside0.mk (Kd.R_alloc HR5.out (.cells #[.int .i64 kz, .int .i64 0, .string ⟨#[]⟩] 47))
      generalize w5.alloc (.cells #[.int .i64 kz, .int .i64 0, .string ⟨#[]⟩] 47) = wa at HK HOa HRa ⊢
      have hgv : wr.heap.size ≤ w5.heap.size := HS5.out
      generalize w5.heap.size = gv at HK hgv ⊢
      have hgg : gv ≠ g := by omega
      have k0 : wa.cell? ⟨gv, 0, none⟩ = some (.int .i64 kz) := HK.out.cell 0
      clear HO5 HR5 HS5
      by_cases t1 : t = 1
      · subst t1
        obtain rfl : kz = 1 := by rw [← hkz]; rfl
        have d1 : ((1 : Int) == 1) = true := rfl
        obtain ⟨v, x2, e2, h7⟩ : ∃ v x e, rInt x1 e1 = (v, x, e) := ⟨_, _, _, rfl⟩
        go_wp2_with (fail)
        with_reducible refine (intQ HOa.out h7).mono ?_
        rintro en w7 ⟨rfl, hO7, hF7⟩
        have HK7 := Aside0.mk (show Blk w7 gv 47 #[.int .i64 1, .int .i64 0, .string ⟨#[]⟩] from blk_kept HK.out hF7.2 hgg)
        have HOs := Aside0.mk (hO7.kept (S2 := fun k => k = gv) (Kept.setCell (S := fun k => k = gv) (p := ⟨gv, 1, none⟩) (Kept.refl w7 _) (.inl rfl) (.int .i64 v)) (fun k hk => by omega) ((Below.refl _ _).setCell (show w0.heap.size ≤ gv by omega) _))
        have HRs := Aside0.mk (Kd.R_far (p := ⟨gv, 1, none⟩) (Kd.R_kept HRa.out hF7.2 (fun k hk h => by omega)) (fun k hk => by show k ≠ gv; omega) (.int .i64 v))
        have HKs := Aside0.mk (show Blk (w7.setCell ⟨gv, 1, none⟩ (.int .i64 v)) gv 47 #[.int .i64 1, .int .i64 v, .string ⟨#[]⟩] from by simpa using HK7.out.set_ 1 (.int .i64 v))
        have z1 : w7.cell? ⟨gv, 1, none⟩ = some (.int .i64 0) := HK7.out.cell 1
        have y1 : w7.frozen? ⟨gv, 1, none⟩ = false := HK7.out.frozen 1
        clear hO7 hF7 HK7 HK HOa HRa k0
        go_upto_region 13 with (fail)
        generalize w7.setCell ⟨gv, 1, none⟩ (.int .i64 v) = ws at HKs HOs HRs ⊢
        have c0 : ws.cell? ⟨gv, 0, none⟩ = some (.int .i64 1) := HKs.out.cell 0
        have c1 : ws.cell? ⟨gv, 1, none⟩ = some (.int .i64 v) := HKs.out.cell 1
        have c2 : ws.cell? ⟨gv, 2, none⟩ = some (.string ⟨#[]⟩) := HKs.out.cell 2
        have hX := HX.out
        rw [gvals_step m acc (.inl rfl) (gval_1 H1.out h7)] at hX
        have HX2 := Aside0.mk hX
        clear hX HX
        have HRt := Aside0.mk (Kd.R_mono (ok' := fun k => b ≤ k) HRs.out (fun k hk => hk.1))
        go_wp2_with ((with_reducible refine gate_builtin (b := .append) (xs := #[.tmp 33, .tmp 35]) rfl ?_); at_builtin; refine Kd.R_append k47 (w0 := w0) w0.heap.size rfl (.tmp 33) (.tmp 35) 22 47 (.agg #[(.int .i64 0), (.int .i64 0), (.string ⟨#[]⟩)]) 32 rfl Tryz.underlying22 info47 rfl (by decide) (by omega) u5 acc ⟨1, v, ⟨#[]⟩⟩ [.int .i64 1, .int .i64 v, .string ⟨#[]⟩] (fun k => b ≤ k) (fun _ => False) rfl rfl ?aP (fun _ hk => hk.elim) (fun k hk => Nat.le_trans HOs.out.le hk) HRt.out HOs.out.bel HOs.out.bel.size HAL.out ?_; (case aP => exact k47_mkM _ _ _ ⟨1, v, ⟨#[]⟩⟩); intro v9 w9 hR9 hB9 hG9 _; have HR9 := Aside0.mk hR9; have HB9 := Aside0.mk hB9; have HG9 := Aside0.mk hG9; clear hR9 hB9 hG9)
        have HO9 := Aside0.mk (show Or w0 w9 b g _ _ from HOs.out.kept2 (S2 := fun k => u5.ownBlock = some k) ⟨HG9.out.size, fun i hi hn => HG9.out.block i hi (fun he => hn he.symm)⟩ (fun k hk => HRt.out.1 k hk) HB9.out)
        go_roundw
        case rel => exact ⟨m, _, _, _, by first | rfl | (rw [List.length_append, List.length_singleton]; go_num), by rw [List.length_append, List.length_singleton]; omega, HX2, HO9, HR9⟩
        case measure => simp [intOf]; omega
      by_cases t2 : t = 2
      · subst t2
        obtain rfl : kz = 2 := by rw [← hkz]; rfl
        have d1 : ((2 : Int) == 1) = false := rfl
        have d2 : ((2 : Int) == 2) = true := rfl
        obtain ⟨v, x2, e2, h7⟩ : ∃ v x e, rText x1 e1 = (v, x, e) := ⟨_, _, _, rfl⟩
        go_wp2_with (fail)
        with_reducible refine (textQ HOa.out h7).mono ?_
        rintro en w7 ⟨rfl, hO7, hF7⟩
        have HK7 := Aside0.mk (show Blk w7 gv 47 #[.int .i64 2, .int .i64 0, .string ⟨#[]⟩] from blk_kept HK.out hF7.2 hgg)
        have HOs := Aside0.mk (hO7.kept (S2 := fun k => k = gv) (Kept.setCell (S := fun k => k = gv) (p := ⟨gv, 2, none⟩) (Kept.refl w7 _) (.inl rfl) (.string v)) (fun k hk => by omega) ((Below.refl _ _).setCell (show w0.heap.size ≤ gv by omega) _))
        have HRs := Aside0.mk (Kd.R_far (p := ⟨gv, 2, none⟩) (Kd.R_kept HRa.out hF7.2 (fun k hk h => by omega)) (fun k hk => by show k ≠ gv; omega) (.string v))
        have HKs := Aside0.mk (show Blk (w7.setCell ⟨gv, 2, none⟩ (.string v)) gv 47 #[.int .i64 2, .int .i64 0, .string v] from by simpa using HK7.out.set_ 2 (.string v))
        have z2 : w7.cell? ⟨gv, 2, none⟩ = some (.string ⟨#[]⟩) := HK7.out.cell 2
        have y2 : w7.frozen? ⟨gv, 2, none⟩ = false := HK7.out.frozen 2
        clear hO7 hF7 HK7 HK HOa HRa k0
        go_upto_region 13 with (fail)
        generalize w7.setCell ⟨gv, 2, none⟩ (.string v) = ws at HKs HOs HRs ⊢
        have c0 : ws.cell? ⟨gv, 0, none⟩ = some (.int .i64 2) := HKs.out.cell 0
        have c1 : ws.cell? ⟨gv, 1, none⟩ = some (.int .i64 0) := HKs.out.cell 1
        have c2 : ws.cell? ⟨gv, 2, none⟩ = some (.string v) := HKs.out.cell 2
        have hX := HX.out
        rw [gvals_step m acc (.inl rfl) (gval_2 H1.out h7)] at hX
        have HX2 := Aside0.mk hX
        clear hX HX
        have HRt := Aside0.mk (Kd.R_mono (ok' := fun k => b ≤ k) HRs.out (fun k hk => hk.1))
        go_wp2_with ((with_reducible refine gate_builtin (b := .append) (xs := #[.tmp 33, .tmp 35]) rfl ?_); at_builtin; refine Kd.R_append k47 (w0 := w0) w0.heap.size rfl (.tmp 33) (.tmp 35) 22 47 (.agg #[(.int .i64 0), (.int .i64 0), (.string ⟨#[]⟩)]) 32 rfl Tryz.underlying22 info47 rfl (by decide) (by omega) u5 acc ⟨2, 0, v⟩ [.int .i64 2, .int .i64 0, .string v] (fun k => b ≤ k) (fun _ => False) rfl rfl ?aP (fun _ hk => hk.elim) (fun k hk => Nat.le_trans HOs.out.le hk) HRt.out HOs.out.bel HOs.out.bel.size HAL.out ?_; (case aP => exact k47_mkM _ _ _ ⟨2, 0, v⟩); intro v9 w9 hR9 hB9 hG9 _; have HR9 := Aside0.mk hR9; have HB9 := Aside0.mk hB9; have HG9 := Aside0.mk hG9; clear hR9 hB9 hG9)
        have HO9 := Aside0.mk (show Or w0 w9 b g _ _ from HOs.out.kept2 (S2 := fun k => u5.ownBlock = some k) ⟨HG9.out.size, fun i hi hn => HG9.out.block i hi (fun he => hn he.symm)⟩ (fun k hk => HRt.out.1 k hk) HB9.out)
        go_roundw
        case rel => exact ⟨m, _, _, _, by first | rfl | (rw [List.length_append, List.length_singleton]; go_num), by rw [List.length_append, List.length_singleton]; omega, HX2, HO9, HR9⟩
        case measure => simp [intOf]; omega
      by_cases t3 : t = 3
      · subst t3
        obtain rfl : kz = 3 := by rw [← hkz]; rfl
        have d1 : ((3 : Int) == 1) = false := rfl
        have d2 : ((3 : Int) == 2) = false := rfl
        have d3 : ((3 : Int) == 3) = true := rfl
        obtain ⟨v, x2, e2, h7⟩ : ∃ v x e, rByte x1 e1 = (v, x, e) := ⟨_, _, _, rfl⟩
        go_wp2_with (fail)
        with_reducible refine (byteQ HOa.out h7).mono ?_
        rintro en w7 ⟨rfl, hO7, hF7⟩
        have HK7 := Aside0.mk (show Blk w7 gv 47 #[.int .i64 3, .int .i64 0, .string ⟨#[]⟩] from blk_kept HK.out hF7.2 hgg)
        have HOs := Aside0.mk (hO7.kept (S2 := fun k => k = gv) (Kept.setCell (S := fun k => k = gv) (p := ⟨gv, 1, none⟩) (Kept.refl w7 _) (.inl rfl) (.int .i64 v)) (fun k hk => by omega) ((Below.refl _ _).setCell (show w0.heap.size ≤ gv by omega) _))
        have HRs := Aside0.mk (Kd.R_far (p := ⟨gv, 1, none⟩) (Kd.R_kept HRa.out hF7.2 (fun k hk h => by omega)) (fun k hk => by show k ≠ gv; omega) (.int .i64 v))
        have HKs := Aside0.mk (show Blk (w7.setCell ⟨gv, 1, none⟩ (.int .i64 v)) gv 47 #[.int .i64 3, .int .i64 v, .string ⟨#[]⟩] from by simpa using HK7.out.set_ 1 (.int .i64 v))
        have z1 : w7.cell? ⟨gv, 1, none⟩ = some (.int .i64 0) := HK7.out.cell 1
        have y1 : w7.frozen? ⟨gv, 1, none⟩ = false := HK7.out.frozen 1
        clear hO7 hF7 HK7 HK HOa HRa k0
        go_upto_region 13 with (fail)
        generalize w7.setCell ⟨gv, 1, none⟩ (.int .i64 v) = ws at HKs HOs HRs ⊢
        have c0 : ws.cell? ⟨gv, 0, none⟩ = some (.int .i64 3) := HKs.out.cell 0
        have c1 : ws.cell? ⟨gv, 1, none⟩ = some (.int .i64 v) := HKs.out.cell 1
        have c2 : ws.cell? ⟨gv, 2, none⟩ = some (.string ⟨#[]⟩) := HKs.out.cell 2
        have hX := HX.out
        rw [gvals_step m acc (.inl rfl) (gval_3 H1.out h7)] at hX
        have HX2 := Aside0.mk hX
        clear hX HX
        have HRt := Aside0.mk (Kd.R_mono (ok' := fun k => b ≤ k) HRs.out (fun k hk => hk.1))
        go_wp2_with ((with_reducible refine gate_builtin (b := .append) (xs := #[.tmp 33, .tmp 35]) rfl ?_); at_builtin; refine Kd.R_append k47 (w0 := w0) w0.heap.size rfl (.tmp 33) (.tmp 35) 22 47 (.agg #[(.int .i64 0), (.int .i64 0), (.string ⟨#[]⟩)]) 32 rfl Tryz.underlying22 info47 rfl (by decide) (by omega) u5 acc ⟨3, v, ⟨#[]⟩⟩ [.int .i64 3, .int .i64 v, .string ⟨#[]⟩] (fun k => b ≤ k) (fun _ => False) rfl rfl ?aP (fun _ hk => hk.elim) (fun k hk => Nat.le_trans HOs.out.le hk) HRt.out HOs.out.bel HOs.out.bel.size HAL.out ?_; (case aP => exact k47_mkM _ _ _ ⟨3, v, ⟨#[]⟩⟩); intro v9 w9 hR9 hB9 hG9 _; have HR9 := Aside0.mk hR9; have HB9 := Aside0.mk hB9; have HG9 := Aside0.mk hG9; clear hR9 hB9 hG9)
        have HO9 := Aside0.mk (show Or w0 w9 b g _ _ from HOs.out.kept2 (S2 := fun k => u5.ownBlock = some k) ⟨HG9.out.size, fun i hi hn => HG9.out.block i hi (fun he => hn he.symm)⟩ (fun k hk => HRt.out.1 k hk) HB9.out)
        go_roundw
        case rel => exact ⟨m, _, _, _, by first | rfl | (rw [List.length_append, List.length_singleton]; go_num), by rw [List.length_append, List.length_singleton]; omega, HX2, HO9, HR9⟩
        case measure => simp [intOf]; omega
      obtain rfl : kz = 0 := by rw [← hkz]; unfold zk; rw [if_neg t1, if_neg t2, if_neg t3]
      have d1 : ((0 : Int) == 1) = false := rfl
      have d2 : ((0 : Int) == 2) = false := rfl
      have d3 : ((0 : Int) == 3) = false := rfl
      clear k0
      have k0 : wa.cell? ⟨gv, 0, none⟩ = some (.int .i64 0) := HK.out.cell 0
      go_upto_region 13 with (fail)
      have HKs := HK
      have HOs := HOa
      have HRs := HRa
      clear HK HOa HRa k0
      have c0 : wa.cell? ⟨gv, 0, none⟩ = some (.int .i64 0) := HKs.out.cell 0
      have c1 : wa.cell? ⟨gv, 1, none⟩ = some (.int .i64 0) := HKs.out.cell 1
      have c2 : wa.cell? ⟨gv, 2, none⟩ = some (.string ⟨#[]⟩) := HKs.out.cell 2
      have hX := HX.out
      rw [gvals_step m acc (.inl rfl) (gval_4 H1.out t1 t2 t3)] at hX
      have HX2 := Aside0.mk hX
      clear hX HX
      have HRt := Aside0.mk (Kd.R_mono (ok' := fun k => b ≤ k) HRs.out (fun k hk => hk.1))
      go_wp2_with ((with_reducible refine gate_builtin (b := .append) (xs := #[.tmp 33, .tmp 35]) rfl ?_); at_builtin; refine Kd.R_append k47 (w0 := w0) w0.heap.size rfl (.tmp 33) (.tmp 35) 22 47 (.agg #[(.int .i64 0), (.int .i64 0), (.string ⟨#[]⟩)]) 32 rfl Tryz.underlying22 info47 rfl (by decide) (by omega) u5 acc ⟨0, 0, ⟨#[]⟩⟩ [.int .i64 0, .int .i64 0, .string ⟨#[]⟩] (fun k => b ≤ k) (fun _ => False) rfl rfl ?aP (fun _ hk => hk.elim) (fun k hk => Nat.le_trans HOs.out.le hk) HRt.out HOs.out.bel HOs.out.bel.size HAL.out ?_; (case aP => exact k47_mkM _ _ _ ⟨0, 0, ⟨#[]⟩⟩); intro v9 w9 hR9 hB9 hG9 _; have HR9 := Aside0.mk hR9; have HB9 := Aside0.mk hB9; have HG9 := Aside0.mk hG9; clear hR9 hB9 hG9)
      have HO9 := Aside0.mk (show Or w0 w9 b g _ _ from HOs.out.kept2 (S2 := fun k => u5.ownBlock = some k) ⟨HG9.out.size, fun i hi hn => HG9.out.block i hi (fun he => hn he.symm)⟩ (fun k hk => HRt.out.1 k hk) HB9.out)
      go_roundw
      case rel => exact ⟨m, _, _, _, by first | rfl | (rw [List.length_append, List.length_singleton]; go_num), by rw [List.length_append, List.length_singleton]; omega, HX2, HO9, HR9⟩
      case measure => simp [intOf]; omega


end Go.Proofs.YtblaibigjhlblaaGreatDoor.Q
end

section
-- written by hprint.py (a program of these sessions) out of the translation; Lean checks it
namespace Go.Proofs.YtblaibigjhlblaaGreatDoor.Q
open Go.RowKit Go.Proofs.YtblaibigjhlblaaGreatDoorW.Hb Go.Proofs.YtblaibigjhlblaaGreatDoorW.PrintWords Go.Proofs.YtblaibigjhlblaaGreatDoorW.PrintLast Go.Proofs.YtblaibigjhlblaaGreatDoorW.PrintMore
attribute [local go_sem] max2_int min2_int max_two min_two max_three min_three max_four min_four   -- for this text's walks alone
set_option linter.unusedVariables false
set_option linter.unusedSimpArgs false

/-! ### weighhouseref01_Reader_Left: function 57, by hand -/
/-- The document's reader: its block g, all bytes, its place, its error; S: its blocks. -/
def Rq (w : World) (S : Nat → Prop) (g : Nat) (B : List Int) (a : Nat) (e : Int) : Prop := ∃ A c, Blk w g 85 #[.slice A B.length c, .int .i64 a, .int .i64 e] ∧ B.length ≤ c ∧ S g ∧ (∀ ad, A = some ad → S ad.block ∧ ad.block ≠ g ∧ ad.block < w.heap.size) ∧ (Kd.int .u8).C w A B.length B ∧ (∀ x ∈ B, 0 ≤ x ∧ x ≤ 255) ∧ a ≤ B.length ∧ B.length ≤ 140737488355328
theorem Rq.lt {w : World} {S : Nat → Prop} {g : Nat} {B : List Int} {a : Nat} {e : Int} (h : Rq w S g B a e) : g < w.heap.size := by
  obtain ⟨A, c, hb, _⟩ := h
  exact hb.lt
theorem Rq.info {w : World} {S : Nat → Prop} {g : Nat} {B : List Int} {a : Nat} {e : Int} (h : Rq w S g B a e) : (∀ x ∈ B, 0 ≤ x ∧ x ≤ 255) ∧ a ≤ B.length ∧ B.length ≤ 140737488355328 := by
  obtain ⟨_, _, _, _, _, _, _, h⟩ := h
  exact h
theorem Rq.kept {w w' : World} {S S2 : Nat → Prop} {g : Nat} {B : List Int} {a : Nat} {e : Int} (h : Rq w S g B a e) (hk : Kept w w' S2) (hd : ∀ k, S k → ¬ S2 k) : Rq w' S g B a e := by
  obtain ⟨A, c, hb, hc, hS, hA, hC, hx⟩ := h
  exact ⟨A, c, blk_kept hb hk (hd g hS), hc, hS, fun ad e => ⟨(hA ad e).1, (hA ad e).2.1, Nat.lt_of_lt_of_le (hA ad e).2.2 hk.1⟩, C_keptb hC hk (fun ad e => ⟨hd _ (hA ad e).1, (hA ad e).2.2⟩), hx⟩
theorem Rq.below {w w' : World} {S : Nat → Prop} {g : Nat} {B : List Int} {a : Nat} {e : Int} (h : Rq w S g B a e) (hb : Below w.heap.size w w') : Rq w' S g B a e := h.kept (Kept.of_below hb (fun _ => False)) (fun _ _ hk => hk)
theorem Rq.set_at {w : World} {S : Nat → Prop} {g : Nat} {B : List Int} {a a' : Nat} {e : Int} (h : Rq w S g B a e) (ha : a' ≤ B.length) : Rq (w.setCell ⟨g, 1, none⟩ (.int .i64 a')) S g B a' e := by
  obtain ⟨A, c, hb, hc, hS, hA, hC, hx, _, hl⟩ := h
  exact ⟨A, c, by simpa using hb.set_ 1 (.int .i64 a'), hc, hS, fun ad e => ⟨(hA ad e).1, (hA ad e).2.1, by simpa [World.setCell] using (hA ad e).2.2⟩, Rd.far hC (fun ad e => (hA ad e).2) 1 _, hx, ha, hl⟩
theorem Rq.set_e {w : World} {S : Nat → Prop} {g : Nat} {B : List Int} {a : Nat} {e e' : Int} (h : Rq w S g B a e) : Rq (w.setCell ⟨g, 2, none⟩ (.int .i64 e')) S g B a e' := by
  obtain ⟨A, c, hb, hc, hS, hA, hC, hx, ha, hl⟩ := h
  exact ⟨A, c, by simpa using hb.set_ 2 (.int .i64 e'), hc, hS, fun ad e => ⟨(hA ad e).1, (hA ad e).2.1, by simpa [World.setCell] using (hA ad e).2.2⟩, Rd.far hC (fun ad e => (hA ad e).2) 2 _, hx, ha, hl⟩
set_option maxRecDepth 100000 in
theorem weighhouseref01_Reader_Left.calls (S : Nat → Prop) (g : Nat) (B : List Int) (a : Nat) (ev : Int) (w : World) (hR : Rq w S g B a ev) :
    Calls Tryz.prog 57 #[.pointer (some ⟨g, 0, none⟩)] w fun e w' => e = .returned (.int .i64 ((B.drop a).length : Int)) ∧ Below w.heap.size w w' := by
  obtain ⟨A, c, hb, hc, hS, hA, hC, hx, ha, hl⟩ := hR
  have k0 : w.drew.cell? ⟨g, 0, none⟩ = some (.slice A B.length c) := hb.cell 0
  have k1 : w.drew.cell? ⟨g, 1, none⟩ = some (.int .i64 a) := hb.cell 1
  have hd : wrap64 ((B.length : Int) - (a : Int)) = ((B.drop a).length : Int) := by
    rw [wrapI (by omega) (by omega), List.length_drop]
    omega
  obtain ⟨n, hn⟩ : ∃ n : Int, ((B.drop a).length : Int) = n := ⟨_, rfl⟩
  rw [hn] at hd ⊢
  clear hb hC hx hA hn
  go_enter Tryz.func57, Tryz.ntmps57
  go_wp2
  have HBd := Aside0.mk ((Below.refl w.heap.size w).drew)
  refine start_ (n := 11) (S := fun w' => w'.cell? ⟨g, 0, none⟩ = some (.slice A B.length c) ∧ w'.cell? ⟨g, 1, none⟩ = some (.int .i64 a)) (ds := []) #[false, false, false, false, false, false, false, false, false, false, false] (by kernel_rfl) rfl rfl ⟨k0, k1⟩ (fun hHeld => ?_)
  generalize w.drew = wd at k0 k1 HBd hHeld ⊢
  refine pure_ (i := 0) (N := some 3) (v := ?_) (a' := ?_) #[true, false, false, false, false, false, false, false, false, false, false] rfl rfl (by kernel_rfl) (fun _ _ _ h => h) (Or.inl ⟨by rfl, ?_⟩) ?_ ?_
  rotate_left
  · intro w'
    go_simp
    with_reducible rfl
  rotate_left
  · simp only [Act.put, List.setIfInBounds_toArray, List.set_cons_zero, List.set_cons_succ, i64_w, i32_w]
    rfl
  refine pure_ (i := 1) (N := some 4) (v := ?_) (a' := ?_) #[true, true, false, false, false, false, false, false, false, false, false] rfl rfl (by kernel_rfl) (fun _ _ _ h => h) (Or.inl ⟨by rfl, ?_⟩) ?_ ?_
  rotate_left
  · intro w'
    go_simp
    with_reducible rfl
  rotate_left
  · simp only [Act.put, List.setIfInBounds_toArray, List.set_cons_zero, List.set_cons_succ, i64_w, i32_w]
    rfl
  refine pure_ (i := 2) (N := some 5) (v := ?_) (a' := ?_) #[true, true, true, false, false, false, false, false, false, false, false] rfl rfl (by kernel_rfl) (fun _ _ _ h => h) (Or.inl ⟨by rfl, ?_⟩) ?_ ?_
  rotate_left
  · intro w'
    go_simp
    with_reducible rfl
  rotate_left
  · simp only [Act.put, List.setIfInBounds_toArray, List.set_cons_zero, List.set_cons_succ, i64_w, i32_w]
    rfl
  refine pure_ (i := 5) (N := some 8) (v := ?_) (a' := ?_) #[true, true, true, false, false, true, false, false, false, false, false] rfl rfl (by kernel_rfl) (fun _ _ _ h => h) (Or.inl ⟨by rfl, ?_⟩) ?_ ?_
  rotate_left
  · intro w'
    go_simp
    with_reducible rfl
  rotate_left
  · simp only [Act.put, List.setIfInBounds_toArray, List.set_cons_zero, List.set_cons_succ, i64_w, i32_w]
    rfl
  refine pure_ (i := 6) (N := some 9) (v := ?_) (a' := ?_) #[true, true, true, false, false, true, true, false, false, false, false] rfl rfl (by kernel_rfl) (fun _ _ _ h => h) (Or.inl ⟨by rfl, ?_⟩) ?_ ?_
  rotate_left
  · intro w'
    go_simp
    with_reducible rfl
  rotate_left
  · simp only [Act.put, List.setIfInBounds_toArray, List.set_cons_zero, List.set_cons_succ, i64_w, i32_w]
    rfl
  refine pure_ (i := 7) (N := some 10) (v := ?_) (a' := ?_) #[true, true, true, false, false, true, true, true, false, false, false] rfl rfl (by kernel_rfl) (fun _ _ _ h => h) (Or.inl ⟨by rfl, ?_⟩) ?_ ?_
  rotate_left
  · intro w'
    go_simp
    with_reducible rfl
  rotate_left
  · simp only [Act.put, List.setIfInBounds_toArray, List.set_cons_zero, List.set_cons_succ, i64_w, i32_w]
    rfl
  refine take_ (i := 3) (N := some 6) (v := ?_) (a' := ?_) #[true, true, true, true, false, true, true, true, false, false, false] rfl rfl (by kernel_rfl) (fun _ _ _ h => h) (Or.inl ⟨by rfl, ?_⟩) hHeld ?_ ?_
  rotate_left
  · rintro w' ⟨s0, s1⟩
    go_simp
    with_reducible rfl
  rotate_left
  · simp only [Act.put, List.setIfInBounds_toArray, List.set_cons_zero, List.set_cons_succ, i64_w, i32_w]
    rfl
  refine pure_ (i := 4) (N := some 7) (v := ?_) (a' := ?_) #[true, true, true, true, true, true, true, true, false, false, false] rfl rfl (by kernel_rfl) (fun _ _ _ h => h) (Or.inl ⟨by rfl, ?_⟩) ?_ ?_
  rotate_left
  · intro w'
    go_simp
    with_reducible rfl
  rotate_left
  · simp only [Act.put, List.setIfInBounds_toArray, List.set_cons_zero, List.set_cons_succ, i64_w, i32_w]
    rfl
  refine take_ (i := 8) (N := some 11) (v := ?_) (a' := ?_) #[true, true, true, true, true, true, true, true, true, false, false] rfl rfl (by kernel_rfl) (fun _ _ _ h => h) (Or.inl ⟨by rfl, ?_⟩) hHeld ?_ ?_
  rotate_left
  · rintro w' ⟨s0, s1⟩
    go_simp
    with_reducible rfl
  rotate_left
  · simp only [Act.put, List.setIfInBounds_toArray, List.set_cons_zero, List.set_cons_succ, i64_w, i32_w]
    rfl
  refine pure_ (i := 9) (N := some 12) (v := ?_) (a' := ?_) #[true, true, true, true, true, true, true, true, true, true, false] rfl rfl (by kernel_rfl) (fun _ _ _ h => h) (Or.inl ⟨by rfl, ?_⟩) ?_ ?_
  rotate_left
  · intro w'
    go_simp
    with_reducible rfl
  rotate_left
  · simp only [Act.put, List.setIfInBounds_toArray, List.set_cons_zero, List.set_cons_succ, i64_w, i32_w]
    rfl
  refine pure_ (i := 10) (N := some 2) (v := ?_) (a' := ?_) #[true, true, true, true, true, true, true, true, true, true, true] rfl rfl (by kernel_rfl) (fun _ _ _ h => h) (Or.inl ⟨by rfl, ?_⟩) ?_ ?_
  rotate_left
  · intro w'
    go_simp
    with_reducible rfl
  rotate_left
  · simp only [Act.put, List.setIfInBounds_toArray, List.set_cons_zero, List.set_cons_succ, i64_w, i32_w]
    rfl
  refine done_ (by kernel_rfl) ?_
  clear hHeld k0 k1 hd
  go_wp2
  go_ret
  exact ⟨rfl, HBd.out⟩


end Go.Proofs.YtblaibigjhlblaaGreatDoor.Q
end

section
-- written by hprint.py (a program of these sessions) out of the translation; Lean checks it
namespace Go.Proofs.YtblaibigjhlblaaGreatDoor.Q
open Go.RowKit Go.Proofs.YtblaibigjhlblaaGreatDoorW.Hb Go.Proofs.YtblaibigjhlblaaGreatDoorW.PrintWords Go.Proofs.YtblaibigjhlblaaGreatDoorW.PrintLast Go.Proofs.YtblaibigjhlblaaGreatDoorW.PrintMore
attribute [local go_sem] max2_int min2_int max_two min_two max_three min_three max_four min_four   -- for this text's walks alone
set_option linter.unusedVariables false
set_option linter.unusedSimpArgs false

/-! ### weighhouseref01_NewReader: function 31, by hand -/
set_option maxRecDepth 100000 in
theorem weighhouseref01_NewReader.calls (A : Option Addr) (c : Nat) (l : List Int) (w : World) (hr : (Kd.int .u8).C w A l.length l) (hc : l.length ≤ c) (hl : l.length * 1 ≤ 140737488355328) (hx : ∀ x ∈ l, 0 ≤ x ∧ x ≤ 255) :
    Calls Tryz.prog 31 #[.slice A l.length c] w fun e w' => ∃ g, e = .returned (.pointer (some ⟨g, 0, none⟩)) ∧ Rq w' (fun k => w.heap.size ≤ k ∧ k < w'.heap.size) g l 0 0 ∧ w.heap.size ≤ g ∧ Below w.heap.size w w' := by
  have HC := Aside0.mk (Kd.C_alloc hr (.cells #[] 5))
  have HX := Aside0.mk hx
  have HO := Aside0.mk (show (Kd.int .u8).R 5 (w.alloc (.cells #[] 5)) w.heap.size (fun _ => True) (.slice (some ⟨w.heap.size, 0, none⟩) 0 0) [] from Kd.R_of_own (own_lit w w.heap.size 5 .u8 [] (Nat.le_refl _) (by simp)) (fun _ _ => trivial))
  have HB := Aside0.mk ((Below.refl w.heap.size w).alloc (Nat.le_refl _) (.cells #[] 5))
  clear hr hx
  go_enter Tryz.func31, Tryz.ntmps31
  go_wp2_with ((with_reducible refine gate_builtin (b := .append) (xs := #[.tmp 3, .tmp 4]) rfl ?_); at_builtin; refine Kd.R_append_rows (Kd.int .u8) (w0 := w) (Rr := (Kd.int .u8).K (w.alloc (.cells #[] 5))) w.heap.size rfl (.tmp 3) (.tmp 4) 23 5 (.int .u8 0) 1 rfl Tryz.underlying23 info5 rfl (by decide) (by omega) (.slice (some ⟨w.heap.size, 0, none⟩) 0 0) [] l A l.length c (fun _ => True) (fun _ => False) rfl rfl HO.out HC.out (fun x cs hK => hK) (fun _ hk => hk.elim) (fun _ _ => trivial) HB.out HB.out.size (by simpa using hl) ?_; intro v2 w2 hR2 hB2 _ _; rw [List.nil_append] at hR2; obtain ⟨A2, c2, rfl, hc2, hC2⟩ := Kd.R_reads hR2; have HR2 := Aside0.mk (Kd.R_bound hR2); have HB2 := Aside0.mk hB2; have HC2 := Aside0.mk hC2; clear hR2 hB2 hC2)
  go_ret
  have hs := HB2.out.size
  refine ⟨w2.heap.size, rfl, ⟨A2, c2, Blk.new w2 _ _, hc2, ⟨hs, by simp⟩, fun ad e => ?_, Kd.C_alloc HC2.out _, HX.out, Nat.zero_le _, by omega⟩, hs, HB2.out.alloc hs _⟩
  subst e
  have hb := HR2.out.1 ad.block rfl
  have h1 := hb.2.1
  have h2 := hb.2.2.1
  refine ⟨⟨h1, ?_⟩, by omega, ?_⟩ <;> (simp; omega)


end Go.Proofs.YtblaibigjhlblaaGreatDoor.Q
end

section
-- written by hprint.py (a program of these sessions) out of the translation; Lean checks it
namespace Go.Proofs.YtblaibigjhlblaaGreatDoor.Q
open Go.RowKit Go.Proofs.YtblaibigjhlblaaGreatDoorW.Hb Go.Proofs.YtblaibigjhlblaaGreatDoorW.PrintWords Go.Proofs.YtblaibigjhlblaaGreatDoorW.PrintLast Go.Proofs.YtblaibigjhlblaaGreatDoorW.PrintMore
attribute [local go_sem] max2_int min2_int max_two min_two max_three min_three max_four min_four   -- for this text's walks alone
set_option linter.unusedVariables false
set_option linter.unusedSimpArgs false

/-! ### weighhouseref01_Reader_has: function 70, by hand -/
def hasS (l : Nat) (e n : Int) : Bool × Int := if e = 0 then (if (l : Int) < n then (false, 20) else (true, 0)) else (false, e)
set_option maxRecDepth 100000 in
theorem weighhouseref01_Reader_has.calls (S : Nat → Prop) (g : Nat) (B : List Int) (a : Nat) (ev n : Int) (b : Bool) (e1 : Int) (w : World) (hR : Rq w S g B a ev) (hh : hasS (B.drop a).length ev n = (b, e1)) :
    Calls Tryz.prog 70 #[.pointer (some ⟨g, 0, none⟩), .int .i64 n] w fun e w' => e = .returned (.bool b) ∧ Rq w' S g B a e1 ∧ Fr w w' (fun k => k = g) := by
  have HR := Aside0.mk hR
  obtain ⟨A, c, hb, hc, hS, hA, hC, hx, ha, hl⟩ := hR
  have k2 : w.cell? ⟨g, 2, none⟩ = some (.int .i64 ev) := hb.cell 2
  have HB := Aside0.mk hb
  clear hb hC hx hA
  unfold hasS at hh
  by_cases he : ev = 0
  · subst he
    rw [if_pos rfl] at hh
    obtain ⟨ln, hln⟩ : ∃ ln : Int, ((B.drop a).length : Int) = ln := ⟨_, rfl⟩
    have HLN := Aside0.mk hln
    rw [hln] at hh
    clear hln
    by_cases h1 : ln < n
    · rw [if_pos h1] at hh
      cases hh
      have d1 : decide (ln < n) = true := decide_eq_true h1
      have f2 : w.frozen? ⟨g, 2, none⟩ = false := HB.out.frozen 2
      clear h1
      go_enter Tryz.func70, Tryz.ntmps70
      go_wp2_with (go_at_call 57; (with_reducible refine (weighhouseref01_Reader_Left.calls S g B a 0 _ HR.out).mono ?_); rintro e2 w2 ⟨rfl, hB2⟩; rw [HLN.out]; have hbk := HB.out.after hB2; have k3 : w2.cell? ⟨g, 2, none⟩ = some (.int .i64 0) := hbk.cell 2; have f3 : w2.frozen? ⟨g, 2, none⟩ = false := hbk.frozen 2; have HB2 := Aside0.mk hB2; clear hB2 hbk)
      go_ret
      exact ⟨rfl, (HR.out.below HB2.out).set_e, (Fr.of_below HB2.out _).then_ (Fr.set_ w2 g 2 _) (fun _ h => .inl h)⟩
    · rw [if_neg h1] at hh
      cases hh
      have d1 : decide (ln < n) = false := decide_eq_false h1
      clear h1
      go_enter Tryz.func70, Tryz.ntmps70
      go_wp2_with (go_at_call 57; (with_reducible refine (weighhouseref01_Reader_Left.calls S g B a 0 _ HR.out).mono ?_); rintro e2 w2 ⟨rfl, hB2⟩; rw [HLN.out]; have HB2 := Aside0.mk hB2; clear hB2)
      go_ret
      exact ⟨rfl, HR.out.below HB2.out, Fr.of_below HB2.out _⟩
  · rw [if_neg he] at hh
    cases hh
    have d1 : (ev == 0) = false := by simp [he]
    have d2 : (ev != 0) = true := by simp [he]
    clear he
    go_enter Tryz.func70, Tryz.ntmps70
    go_wp2
    go_ret
    exact ⟨rfl, HR.out, Fr.of_below (Below.refl _ _) _⟩


end Go.Proofs.YtblaibigjhlblaaGreatDoor.Q
end

section
-- written by hprint.py (a program of these sessions) out of the translation; Lean checks it
namespace Go.Proofs.YtblaibigjhlblaaGreatDoor.Q
open Go.RowKit Go.Proofs.YtblaibigjhlblaaGreatDoorW.Hb Go.Proofs.YtblaibigjhlblaaGreatDoorW.PrintWords Go.Proofs.YtblaibigjhlblaaGreatDoorW.PrintLast Go.Proofs.YtblaibigjhlblaaGreatDoorW.PrintMore
attribute [local go_sem] max2_int min2_int max_two min_two max_three min_three max_four min_four   -- for this text's walks alone
set_option linter.unusedVariables false
set_option linter.unusedSimpArgs false

/-! ### weighhouseref01_Reader_Byte: function 54, by hand -/
theorem drop_rd (B : List Int) (a i : Nat) : rd (B.drop a) (i : Int) = rd B ((a + i : Nat) : Int) := by
  simp only [rd, Int.toNat_natCast, List.getD_eq_getElem?_getD, List.getElem?_drop]
theorem hasS_err {l : Nat} {e n : Int} (h : e ≠ 0) : hasS l e n = (false, e) := if_neg h
theorem hasS_end {l : Nat} {n : Int} (h : (l : Int) < n) : hasS l 0 n = (false, 20) := by unfold hasS; rw [if_pos rfl, if_pos h]
theorem hasS_ok {l : Nat} {n : Int} (h : ¬ (l : Int) < n) : hasS l 0 n = (true, 0) := by unfold hasS; rw [if_pos rfl, if_neg h]
set_option maxRecDepth 100000 in
set_option maxHeartbeats 1000000 in
theorem weighhouseref01_Reader_Byte.calls (S : Nat → Prop) (g : Nat) (B : List Int) (a : Nat) (ev : Int) (w : World) (hR : Rq w S g B a ev) :
    Calls Tryz.prog 54 #[.pointer (some ⟨g, 0, none⟩)] w fun e w' => e = .returned (.int .i64 (rByte (B.drop a) ev).1) ∧ (∃ a', Rq w' S g B a' (rByte (B.drop a) ev).2.2 ∧ B.drop a' = (rByte (B.drop a) ev).2.1) ∧ Fr w w' (fun k => k = g) := by
  have HR := Aside0.mk hR
  by_cases he : ev = 0
  rotate_left
  · have HH := Aside0.mk (hasS_err (l := (B.drop a).length) (n := 1) he)
    rw [rByte_err he]
    clear hR he
    go_enter Tryz.func54, Tryz.ntmps54
    go_wp2_with (go_at_call 70; (with_reducible refine (weighhouseref01_Reader_has.calls S g B a ev 1 _ _ _ HR.out HH.out).mono ?_); rintro e2 w2 ⟨rfl, hR2, hF2⟩; have HR2 := Aside0.mk hR2; have HF2 := Aside0.mk hF2; clear hR2 hF2)
    go_ret
    exact ⟨rfl, ⟨a, HR2.out, rfl⟩, HF2.out⟩
  subst he
  by_cases h1 : (B.drop a).length < 1
  · have HH := Aside0.mk (hasS_end (l := (B.drop a).length) (n := 1) (by omega))
    rw [rByte_end h1]
    clear hR h1
    go_enter Tryz.func54, Tryz.ntmps54
    go_wp2_with (go_at_call 70; (with_reducible refine (weighhouseref01_Reader_has.calls S g B a 0 1 _ _ _ HR.out HH.out).mono ?_); rintro e2 w2 ⟨rfl, hR2, hF2⟩; have HR2 := Aside0.mk hR2; have HF2 := Aside0.mk hF2; clear hR2 hF2)
    go_ret
    exact ⟨rfl, ⟨a, HR2.out, rfl⟩, HF2.out⟩
  · have HH := Aside0.mk (hasS_ok (l := (B.drop a).length) (n := 1) (by omega))
    rw [rByte_ok h1]
    obtain ⟨hx, ha, hl⟩ := Rq.info hR
    clear hR
    have hln : (B.drop a).length = B.length - a := List.length_drop
    have hal0 : a < B.length := by omega
    have hrd : rd (B.drop a) 0 = B[a]'hal0 := (drop_rd B a 0).trans (rdN B a hal0)
    have hp := hx _ (List.getElem_mem hal0)
    obtain ⟨p, hpp⟩ : ∃ p, B[a]'hal0 = p := ⟨_, rfl⟩
    have HP := Aside0.mk hpp
    rw [hrd, hpp]
    rw [hpp] at hp
    obtain ⟨p0, p1⟩ := hp
    clear hx hrd hpp hln h1
    go_enter Tryz.func54, Tryz.ntmps54
    go_upto_region 3 with (go_at_call 70; (with_reducible refine (weighhouseref01_Reader_has.calls S g B a 0 1 _ _ _ HR.out HH.out).mono ?_); rintro e2 w2 ⟨rfl, hR2, hF2⟩; have HR2 := Aside0.mk hR2; have HF2 := Aside0.mk hF2; clear hR2 hF2)
    obtain ⟨A, c, hb, _⟩ := HR2.out
    have k1 : w2.cell? ⟨g, 1, none⟩ = some (.int .i64 a) := hb.cell 1
    have f1 : w2.frozen? ⟨g, 1, none⟩ = false := hb.frozen 1
    clear hb
    go_wp2
    have HR3 := Aside0.mk (Rq.set_at (a' := a + 1) HR2.out (by omega))
    have HF3 := Aside0.mk (HF2.out.then_ (Fr.set_ w2 g 1 (.int .i64 ((a + 1 : Nat) : Int))) (fun _ h => .inl h))
    rw [show ((a + 1 : Nat) : Int) = (a : Int) + 1 from by omega] at HR3 HF3
    obtain ⟨w3, hw3⟩ : ∃ w3, w2.setCell ⟨g, 1, none⟩ (.int .i64 ((a : Int) + 1)) = w3 := ⟨_, rfl⟩
    rw [hw3] at HR3 HF3 ⊢
    clear hw3 k1 f1 HR2 HF2
    obtain ⟨A, c, hb, hc, _, _, hC, _⟩ := HR3.out
    obtain ⟨ad, e, hc0⟩ := at_intN hC a hal0
    subst e
    rw [HP.out] at hc0
    have k0 : w3.drew.cell? ⟨g, 0, none⟩ = some (.slice (some ad) B.length c) := hb.cell 0
    have k1 : w3.drew.cell? ⟨g, 1, none⟩ = some (.int .i64 ((a : Int) + 1)) := hb.cell 1
    have k2 : w3.drew.cell? (ad.add a) = some (.int .u8 p) := hc0
    have HR4 := Aside0.mk (HR3.out.below ((Below.refl _ _).drew))
    have HF4 := Aside0.mk (HF3.out.then_ (Fr.of_below ((Below.refl _ _).drew) (fun k => k = g)) (fun _ h => .inl h))
    have hw1 : wrap64 (a : Int) = (a : Int) := wrapI (by omega) (by omega)
    have hw2 : wrap64 p = p := by clear hw1; exact wrapI (by omega) (by omega)
    clear hb hC hc0 HR3 HF3
    refine start_ (n := 13) (S := fun w' => w'.cell? ⟨g, 0, none⟩ = some (.slice (some ad) B.length c) ∧ w'.cell? ⟨g, 1, none⟩ = some (.int .i64 ((a : Int) + 1)) ∧ w'.cell? (ad.add a) = some (.int .u8 p)) (ds := []) #[false, false, false, false, false, false, false, false, false, false, false, false, false] (by kernel_rfl) rfl rfl ⟨k0, k1, k2⟩ (fun hHeld => ?_)
    generalize w3.drew = wd at HR4 HF4 k0 k1 k2 hHeld ⊢
    refine pure_ (i := 0) (N := some 13) (v := ?_) (a' := ?_) #[true, false, false, false, false, false, false, false, false, false, false, false, false] rfl rfl (by kernel_rfl) (fun _ _ _ h => h) (Or.inl ⟨by rfl, ?_⟩) ?_ ?_
    rotate_left
    · intro w'
      go_simp
      with_reducible rfl
    rotate_left
    · simp only [Act.put, List.setIfInBounds_toArray, List.set_cons_zero, List.set_cons_succ, i64_w, i32_w]
      rfl
    refine pure_ (i := 1) (N := some 14) (v := ?_) (a' := ?_) #[true, true, false, false, false, false, false, false, false, false, false, false, false] rfl rfl (by kernel_rfl) (fun _ _ _ h => h) (Or.inl ⟨by rfl, ?_⟩) ?_ ?_
    rotate_left
    · intro w'
      go_simp
      with_reducible rfl
    rotate_left
    · simp only [Act.put, List.setIfInBounds_toArray, List.set_cons_zero, List.set_cons_succ, i64_w, i32_w]
      rfl
    refine pure_ (i := 2) (N := some 15) (v := ?_) (a' := ?_) #[true, true, true, false, false, false, false, false, false, false, false, false, false] rfl rfl (by kernel_rfl) (fun _ _ _ h => h) (Or.inl ⟨by rfl, ?_⟩) ?_ ?_
    rotate_left
    · intro w'
      go_simp
      with_reducible rfl
    rotate_left
    · simp only [Act.put, List.setIfInBounds_toArray, List.set_cons_zero, List.set_cons_succ, i64_w, i32_w]
      rfl
    refine pure_ (i := 4) (N := some 17) (v := ?_) (a' := ?_) #[true, true, true, false, true, false, false, false, false, false, false, false, false] rfl rfl (by kernel_rfl) (fun _ _ _ h => h) (Or.inl ⟨by rfl, ?_⟩) ?_ ?_
    rotate_left
    · intro w'
      go_simp
      with_reducible rfl
    rotate_left
    · simp only [Act.put, List.setIfInBounds_toArray, List.set_cons_zero, List.set_cons_succ, i64_w, i32_w]
      rfl
    refine pure_ (i := 5) (N := some 18) (v := ?_) (a' := ?_) #[true, true, true, false, true, true, false, false, false, false, false, false, false] rfl rfl (by kernel_rfl) (fun _ _ _ h => h) (Or.inl ⟨by rfl, ?_⟩) ?_ ?_
    rotate_left
    · intro w'
      go_simp
      with_reducible rfl
    rotate_left
    · simp only [Act.put, List.setIfInBounds_toArray, List.set_cons_zero, List.set_cons_succ, i64_w, i32_w]
      rfl
    refine pure_ (i := 6) (N := some 19) (v := ?_) (a' := ?_) #[true, true, true, false, true, true, true, false, false, false, false, false, false] rfl rfl (by kernel_rfl) (fun _ _ _ h => h) (Or.inl ⟨by rfl, ?_⟩) ?_ ?_
    rotate_left
    · intro w'
      go_simp
      with_reducible rfl
    rotate_left
    · simp only [Act.put, List.setIfInBounds_toArray, List.set_cons_zero, List.set_cons_succ, i64_w, i32_w]
      rfl
    refine take_ (i := 3) (N := some 16) (v := ?_) (a' := ?_) #[true, true, true, true, true, true, true, false, false, false, false, false, false] rfl rfl (by kernel_rfl) (fun _ _ _ h => h) (Or.inl ⟨by rfl, ?_⟩) hHeld ?_ ?_
    rotate_left
    · rintro w' ⟨s0, s1, s2⟩
      go_simp
      with_reducible rfl
    rotate_left
    · simp only [Act.put, List.setIfInBounds_toArray, List.set_cons_zero, List.set_cons_succ, i64_w, i32_w]
      rfl
    refine take_ (i := 7) (N := some 20) (v := ?_) (a' := ?_) #[true, true, true, true, true, true, true, true, false, false, false, false, false] rfl rfl (by kernel_rfl) (fun _ _ _ h => h) (Or.inl ⟨by rfl, ?_⟩) hHeld ?_ ?_
    rotate_left
    · rintro w' ⟨s0, s1, s2⟩
      go_simp
      with_reducible rfl
    rotate_left
    · simp only [Act.put, List.setIfInBounds_toArray, List.set_cons_zero, List.set_cons_succ, i64_w, i32_w]
      rfl
    refine pure_ (i := 8) (N := some 21) (v := ?_) (a' := ?_) #[true, true, true, true, true, true, true, true, true, false, false, false, false] rfl rfl (by kernel_rfl) (fun _ _ _ h => h) (Or.inl ⟨by rfl, ?_⟩) ?_ ?_
    rotate_left
    · intro w'
      go_simp
      with_reducible rfl
    rotate_left
    · simp only [Act.put, List.setIfInBounds_toArray, List.set_cons_zero, List.set_cons_succ, i64_w, i32_w]
      rfl
    refine pure_ (i := 9) (N := some 22) (v := ?_) (a' := ?_) #[true, true, true, true, true, true, true, true, true, true, false, false, false] rfl rfl (by kernel_rfl) (fun _ _ _ h => h) (Or.inl ⟨by rfl, ?_⟩) ?_ ?_
    rotate_left
    · intro w'
      go_simp
      with_reducible rfl
    rotate_left
    · simp only [Act.put, List.setIfInBounds_toArray, List.set_cons_zero, List.set_cons_succ, i64_w, i32_w]
      rfl
    refine take_ (i := 10) (N := some 23) (v := ?_) (a' := ?_) #[true, true, true, true, true, true, true, true, true, true, true, false, false] rfl rfl (by kernel_rfl) (fun _ _ _ h => h) (Or.inl ⟨by rfl, ?_⟩) hHeld ?_ ?_
    rotate_left
    · rintro w' ⟨s0, s1, s2⟩
      go_simp
      with_reducible rfl
    rotate_left
    · simp only [Act.put, List.setIfInBounds_toArray, List.set_cons_zero, List.set_cons_succ, i64_w, i32_w]
      rfl
    refine pure_ (i := 11) (N := some 24) (v := ?_) (a' := ?_) #[true, true, true, true, true, true, true, true, true, true, true, true, false] rfl rfl (by kernel_rfl) (fun _ _ _ h => h) (Or.inl ⟨by rfl, ?_⟩) ?_ ?_
    rotate_left
    · intro w'
      go_simp
      with_reducible rfl
    rotate_left
    · simp only [Act.put, List.setIfInBounds_toArray, List.set_cons_zero, List.set_cons_succ, i64_w, i32_w]
      rfl
    refine pure_ (i := 12) (N := some 2) (v := ?_) (a' := ?_) #[true, true, true, true, true, true, true, true, true, true, true, true, true] rfl rfl (by kernel_rfl) (fun _ _ _ h => h) (Or.inl ⟨by rfl, ?_⟩) ?_ ?_
    rotate_left
    · intro w'
      go_simp
      with_reducible rfl
    rotate_left
    · simp only [Act.put, List.setIfInBounds_toArray, List.set_cons_zero, List.set_cons_succ, i64_w, i32_w]
      rfl
    refine done_ (by kernel_rfl) ?_
    clear hHeld k0 k1 k2 hw1 hw2
    go_wp2
    go_ret
    exact ⟨rfl, ⟨a + 1, HR4.out, by rw [List.drop_drop]⟩, HF4.out⟩


end Go.Proofs.YtblaibigjhlblaaGreatDoor.Q
end

section
-- written by hprint.py (a program of these sessions) out of the translation; Lean checks it
namespace Go.Proofs.YtblaibigjhlblaaGreatDoor.Q
open Go.RowKit Go.Proofs.YtblaibigjhlblaaGreatDoorW.Hb Go.Proofs.YtblaibigjhlblaaGreatDoorW.PrintWords Go.Proofs.YtblaibigjhlblaaGreatDoorW.PrintLast Go.Proofs.YtblaibigjhlblaaGreatDoorW.PrintMore
attribute [local go_sem] max2_int min2_int max_two min_two max_three min_three max_four min_four   -- for this text's walks alone
set_option linter.unusedVariables false
set_option linter.unusedSimpArgs false

/-! ### weighhouseref01_Reader_Int: function 55, by hand -/
theorem numB_snoc (n : Nat) (l : List Int) (x : Int) : numB n (l ++ [x]) = numB n l * 256 + x.toNat := by
  unfold numB
  rw [List.foldl_append]
  rfl
theorem numB_lt (l : List Int) (hl : ∀ x ∈ l, 0 ≤ x ∧ x ≤ 255) : ∀ n, numB n l < (n + 1) * 256 ^ l.length := by
  induction l with
  | nil => intro n; simp [numB]
  | cons x l ih =>
    intro n
    have hx := hl x (by simp)
    have := ih (fun y hy => hl y (by simp [hy])) (n * 256 + x.toNat)
    show numB (n * 256 + x.toNat) l < _
    refine Nat.lt_of_lt_of_le this ?_
    rw [List.length_cons, Nat.pow_succ, Nat.mul_comm (256 ^ l.length) 256, ← Nat.mul_assoc]
    exact Nat.mul_le_mul_right _ (by omega)
/-- One byte more of a number. -/
theorem numB_next (xs : List Int) (hx : ∀ x ∈ xs, 0 ≤ x ∧ x ≤ 255) (i : Nat) (hi : i < 8) (hl : i < xs.length) : (numB 0 (xs.take (i + 1)) : Int) = 256 * (numB 0 (xs.take i) : Int) + xs[i] ∧ 256 * (numB 0 (xs.take i) : Int) + xs[i] < 18446744073709551616 ∧ 0 ≤ xs[i] ∧ xs[i] ≤ 255 := by
  have h1 := hx _ (List.getElem_mem hl)
  have hlt := numB_lt (xs.take i) (fun x hm => hx x (List.mem_of_mem_take hm)) 0
  have hpow : 256 ^ (xs.take i).length ≤ 256 ^ 7 := Nat.pow_le_pow_right (by omega) (by rw [List.length_take]; omega)
  rw [List.take_succ_eq_append_getElem hl, numB_snoc]
  refine ⟨by omega, by omega, h1⟩
theorem u64words (N x N2 : Int) (h0 : 0 ≤ N) (h1 : N2 = 256 * N + x) (h2 : 256 * N + x < 18446744073709551616) (h3 : 0 ≤ x) (h4 : x ≤ 255) : IntKind.u64.wrap (256 * N) = 256 * N ∧ IntKind.u64.wrap x = x ∧ IntKind.u64.wrap (256 * N + x) = N2 ∧ (256 * N) % 18446744073709551616 = 256 * N ∧ x % 18446744073709551616 = x ∧ (256 * N + x) % 18446744073709551616 = N2 := by
  rw [wrapU64, wrapU64, wrapU64]
  omega
set_option maxRecDepth 100000 in
set_option maxHeartbeats 2000000 in
theorem weighhouseref01_Reader_Int.calls (S : Nat → Prop) (g : Nat) (B : List Int) (a : Nat) (ev : Int) (w : World) (hR : Rq w S g B a ev) :
    Calls Tryz.prog 55 #[.pointer (some ⟨g, 0, none⟩)] w fun e w' => e = .returned (.int .i64 (rInt (B.drop a) ev).1) ∧ (∃ a', Rq w' S g B a' (rInt (B.drop a) ev).2.2 ∧ B.drop a' = (rInt (B.drop a) ev).2.1) ∧ Fr w w' (fun k => k = g) := by
  have HR := Aside0.mk hR
  by_cases he : ev = 0
  rotate_left
  · have HH := Aside0.mk (hasS_err (l := (B.drop a).length) (n := 8) he)
    rw [rInt_err he]
    clear hR he
    go_enter Tryz.func55, Tryz.ntmps55
    go_wp2_with (go_at_call 70; (with_reducible refine (weighhouseref01_Reader_has.calls S g B a ev 8 _ _ _ HR.out HH.out).mono ?_); rintro e2 w2 ⟨rfl, hR2, hF2⟩; have HR2 := Aside0.mk hR2; have HF2 := Aside0.mk hF2; clear hR2 hF2)
    go_ret
    exact ⟨rfl, ⟨a, HR2.out, rfl⟩, HF2.out⟩
  subst he
  by_cases h1 : (B.drop a).length < 8
  · have HH := Aside0.mk (hasS_end (l := (B.drop a).length) (n := 8) (by omega))
    rw [rInt_end h1]
    clear hR h1
    go_enter Tryz.func55, Tryz.ntmps55
    go_wp2_with (go_at_call 70; (with_reducible refine (weighhouseref01_Reader_has.calls S g B a 0 8 _ _ _ HR.out HH.out).mono ?_); rintro e2 w2 ⟨rfl, hR2, hF2⟩; have HR2 := Aside0.mk hR2; have HF2 := Aside0.mk hF2; clear hR2 hF2)
    go_ret
    exact ⟨rfl, ⟨a, HR2.out, rfl⟩, HF2.out⟩
  · have HH := Aside0.mk (hasS_ok (l := (B.drop a).length) (n := 8) (by omega))
    rw [rInt_ok h1]
    obtain ⟨hx, ha, hl⟩ := Rq.info hR
    have hln : (B.drop a).length = B.length - a := List.length_drop
    have hal : a + 8 ≤ B.length := by omega
    have HX := Aside0.mk hx
    have HXD := Aside0.mk (show ∀ x ∈ B.drop a, 0 ≤ x ∧ x ≤ 255 from fun x h => hx x (List.mem_of_mem_drop h))
    clear hR hx hln h1
    go_enter Tryz.func55, Tryz.ntmps55
    go_wp2_with (go_at_call 70; (with_reducible refine (weighhouseref01_Reader_has.calls S g B a 0 8 _ _ _ HR.out HH.out).mono ?_); rintro e2 w2 ⟨rfl, hR2, hF2⟩; have HR2 := Aside0.mk hR2; have HF2 := Aside0.mk hF2; clear hR2 hF2)
    go_loopw [3, 4] (fun n i wr => ∃ j : Nat, j ≤ 8 ∧ i = .int .i64 j ∧ n = .int .u64 (numB 0 ((B.drop a).take j) : Int) ∧ Aside0 (Rq wr S g B a 0) ∧ Aside0 (Fr w wr (fun k => k = g))) (fun _ i _ => 8 - (intOf i).toNat)
    case atStart => exact ⟨0, Nat.zero_le _, rfl, rfl, HR2, HF2⟩
    case round =>
      clear HR2 HF2
      obtain ⟨j, hj, rfl, rfl, HRj, HFj⟩ := hrel
      by_cases hlt : j < 8
      · have hjl : a + j < B.length := by omega
        have hjd : j < (B.drop a).length := by rw [List.length_drop]; omega
        obtain ⟨n1, n2, n3, n4⟩ := numB_next (B.drop a) HXD.out j hlt hjd
        have hge : (B.drop a)[j]'hjd = B[a + j]'hjl := List.getElem_drop
        rw [hge] at n1 n2 n3 n4
        obtain ⟨x, hxx⟩ : ∃ x, B[a + j]'hjl = x := ⟨_, rfl⟩
        have HXX := Aside0.mk hxx
        rw [hxx] at n1 n2 n3 n4
        have N0 : (0 : Int) ≤ (numB 0 ((B.drop a).take j) : Int) := by omega
        obtain ⟨N, hN⟩ : ∃ N : Int, (numB 0 ((B.drop a).take j) : Int) = N := ⟨_, rfl⟩
        obtain ⟨N2, hN2⟩ : ∃ N2 : Int, (numB 0 ((B.drop a).take (j + 1)) : Int) = N2 := ⟨_, rfl⟩
        have HN2 := Aside0.mk hN2
        rw [hN] at n1 n2 N0 ⊢
        rw [hN2] at n1
        have HUW := Aside0.mk (u64words N x N2 N0 n1 n2 n3 n4)
        clear hge hxx hN hN2 n1 n2 hjd
        obtain ⟨A, c, hb, hc, _, _, hC, _⟩ := HRj.out
        obtain ⟨ad, e, hc0⟩ := at_intN hC (a + j) hjl
        subst e
        rw [HXX.out] at hc0
        have k0 : wr.drew.cell? ⟨g, 0, none⟩ = some (.slice (some ad) B.length c) := hb.cell 0
        have k1 : wr.drew.cell? ⟨g, 1, none⟩ = some (.int .i64 a) := hb.cell 1
        have k2 : wr.drew.cell? (ad.add (a + j)) = some (.int .u8 x) := hc0
        have HR4 := Aside0.mk (HRj.out.below ((Below.refl _ _).drew))
        have HF4 := Aside0.mk (HFj.out.then_ (Fr.of_below ((Below.refl _ _).drew) (fun k => k = g)) (fun _ h => .inl h))
        have r0 : (0 : Int) ≤ (a : Int) + (j : Int) := by omega
        have r1 : (a : Int) + (j : Int) < (B.length : Int) := by omega
        have r2 : ((a : Int) + (j : Int)).toNat = a + j := by omega
        have hw1 : wrap64 ((a : Int) + (j : Int)) = (a : Int) + (j : Int) := wrapI (by omega) (by omega)
        obtain ⟨u1, u2, u3, u4, u5, u6⟩ := HUW.out
        clear hb hC hc0
        go_wp2
        refine start_ (n := 17) (S := fun w' => w'.cell? ⟨g, 0, none⟩ = some (.slice (some ad) B.length c) ∧ w'.cell? ⟨g, 1, none⟩ = some (.int .i64 a) ∧ w'.cell? (ad.add (a + j)) = some (.int .u8 x)) (ds := []) #[false, false, false, false, false, false, false, false, false, false, false, false, false, false, false, false, false] (by kernel_rfl) rfl rfl ⟨k0, k1, k2⟩ (fun hHeld => ?_)
        generalize wr.drew = wd at HR4 HF4 k0 k1 k2 hHeld ⊢
        refine pure_ (i := 0) (N := some 12) (v := ?_) (a' := ?_) #[true, false, false, false, false, false, false, false, false, false, false, false, false, false, false, false, false] rfl rfl (by kernel_rfl) (fun _ _ _ h => h) (Or.inl ⟨by rfl, ?_⟩) ?_ ?_
        rotate_left
        · intro w'
          go_simp
          with_reducible rfl
        rotate_left
        · simp only [Act.put, List.setIfInBounds_toArray, List.set_cons_zero, List.set_cons_succ, i64_w, i32_w]
          rfl
        refine pure_ (i := 1) (N := some 13) (v := ?_) (a' := ?_) #[true, true, false, false, false, false, false, false, false, false, false, false, false, false, false, false, false] rfl rfl (by kernel_rfl) (fun _ _ _ h => h) (Or.inl ⟨by rfl, ?_⟩) ?_ ?_
        rotate_left
        · intro w'
          go_simp
          with_reducible rfl
        rotate_left
        · simp only [Act.put, List.setIfInBounds_toArray, List.set_cons_zero, List.set_cons_succ, i64_w, i32_w]
          rfl
        refine pure_ (i := 2) (N := some 14) (v := ?_) (a' := ?_) #[true, true, true, false, false, false, false, false, false, false, false, false, false, false, false, false, false] rfl rfl (by kernel_rfl) (fun _ _ _ h => h) (Or.inl ⟨by rfl, ?_⟩) ?_ ?_
        rotate_left
        · intro w'
          go_simp
          with_reducible rfl
        rotate_left
        · simp only [Act.put, List.setIfInBounds_toArray, List.set_cons_zero, List.set_cons_succ, i64_w, i32_w]
          rfl
        refine pure_ (i := 3) (N := some 15) (v := ?_) (a' := ?_) #[true, true, true, true, false, false, false, false, false, false, false, false, false, false, false, false, false] rfl rfl (by kernel_rfl) (fun _ _ _ h => h) (Or.inl ⟨by rfl, ?_⟩) ?_ ?_
        rotate_left
        · intro w'
          go_simp
          with_reducible rfl
        rotate_left
        · simp only [Act.put, List.setIfInBounds_toArray, List.set_cons_zero, List.set_cons_succ, i64_w, i32_w]
          rfl
        refine pure_ (i := 4) (N := some 16) (v := ?_) (a' := ?_) #[true, true, true, true, true, false, false, false, false, false, false, false, false, false, false, false, false] rfl rfl (by kernel_rfl) (fun _ _ _ h => h) (Or.inl ⟨by rfl, ?_⟩) ?_ ?_
        rotate_left
        · intro w'
          go_simp
          with_reducible rfl
        rotate_left
        · simp only [Act.put, List.setIfInBounds_toArray, List.set_cons_zero, List.set_cons_succ, i64_w, i32_w]
          rfl
        refine pure_ (i := 6) (N := some 18) (v := ?_) (a' := ?_) #[true, true, true, true, true, false, true, false, false, false, false, false, false, false, false, false, false] rfl rfl (by kernel_rfl) (fun _ _ _ h => h) (Or.inl ⟨by rfl, ?_⟩) ?_ ?_
        rotate_left
        · intro w'
          go_simp
          with_reducible rfl
        rotate_left
        · simp only [Act.put, List.setIfInBounds_toArray, List.set_cons_zero, List.set_cons_succ, i64_w, i32_w]
          rfl
        refine pure_ (i := 7) (N := some 19) (v := ?_) (a' := ?_) #[true, true, true, true, true, false, true, true, false, false, false, false, false, false, false, false, false] rfl rfl (by kernel_rfl) (fun _ _ _ h => h) (Or.inl ⟨by rfl, ?_⟩) ?_ ?_
        rotate_left
        · intro w'
          go_simp
          with_reducible rfl
        rotate_left
        · simp only [Act.put, List.setIfInBounds_toArray, List.set_cons_zero, List.set_cons_succ, i64_w, i32_w]
          rfl
        refine pure_ (i := 8) (N := some 20) (v := ?_) (a' := ?_) #[true, true, true, true, true, false, true, true, true, false, false, false, false, false, false, false, false] rfl rfl (by kernel_rfl) (fun _ _ _ h => h) (Or.inl ⟨by rfl, ?_⟩) ?_ ?_
        rotate_left
        · intro w'
          go_simp
          with_reducible rfl
        rotate_left
        · simp only [Act.put, List.setIfInBounds_toArray, List.set_cons_zero, List.set_cons_succ, i64_w, i32_w]
          rfl
        refine pure_ (i := 10) (N := some 22) (v := ?_) (a' := ?_) #[true, true, true, true, true, false, true, true, true, false, true, false, false, false, false, false, false] rfl rfl (by kernel_rfl) (fun _ _ _ h => h) (Or.inl ⟨by rfl, ?_⟩) ?_ ?_
        rotate_left
        · intro w'
          go_simp
          with_reducible rfl
        rotate_left
        · simp only [Act.put, List.setIfInBounds_toArray, List.set_cons_zero, List.set_cons_succ, i64_w, i32_w]
          rfl
        refine take_ (i := 5) (N := some 17) (v := ?_) (a' := ?_) #[true, true, true, true, true, true, true, true, true, false, true, false, false, false, false, false, false] rfl rfl (by kernel_rfl) (fun _ _ _ h => h) (Or.inl ⟨by rfl, ?_⟩) hHeld ?_ ?_
        rotate_left
        · rintro w' ⟨s0, s1, s2⟩
          go_simp
          with_reducible rfl
        rotate_left
        · simp only [Act.put, List.setIfInBounds_toArray, List.set_cons_zero, List.set_cons_succ, i64_w, i32_w]
          rfl
        refine take_ (i := 9) (N := some 21) (v := ?_) (a' := ?_) #[true, true, true, true, true, true, true, true, true, true, true, false, false, false, false, false, false] rfl rfl (by kernel_rfl) (fun _ _ _ h => h) (Or.inl ⟨by rfl, ?_⟩) hHeld ?_ ?_
        rotate_left
        · rintro w' ⟨s0, s1, s2⟩
          go_simp
          with_reducible rfl
        rotate_left
        · simp only [Act.put, List.setIfInBounds_toArray, List.set_cons_zero, List.set_cons_succ, i64_w, i32_w]
          rfl
        refine pure_ (i := 11) (N := some 23) (v := ?_) (a' := ?_) #[true, true, true, true, true, true, true, true, true, true, true, true, false, false, false, false, false] rfl rfl (by kernel_rfl) (fun _ _ _ h => h) (Or.inl ⟨by rfl, ?_⟩) ?_ ?_
        rotate_left
        · intro w'
          go_simp
          with_reducible rfl
        rotate_left
        · simp only [Act.put, List.setIfInBounds_toArray, List.set_cons_zero, List.set_cons_succ, i64_w, i32_w]
          rfl
        refine pure_ (i := 12) (N := some 24) (v := ?_) (a' := ?_) #[true, true, true, true, true, true, true, true, true, true, true, true, true, false, false, false, false] rfl rfl (by kernel_rfl) (fun _ _ _ h => h) (Or.inl ⟨by rfl, ?_⟩) ?_ ?_
        rotate_left
        · intro w'
          go_simp
          with_reducible rfl
        rotate_left
        · simp only [Act.put, List.setIfInBounds_toArray, List.set_cons_zero, List.set_cons_succ, i64_w, i32_w]
          rfl
        refine take_ (i := 13) (N := some 25) (v := ?_) (a' := ?_) #[true, true, true, true, true, true, true, true, true, true, true, true, true, true, false, false, false] rfl rfl (by kernel_rfl) (fun _ _ _ h => h) (Or.inl ⟨by rfl, ?_⟩) hHeld ?_ ?_
        rotate_left
        · rintro w' ⟨s0, s1, s2⟩
          go_simp
          with_reducible rfl
        rotate_left
        · simp only [Act.put, List.setIfInBounds_toArray, List.set_cons_zero, List.set_cons_succ, i64_w, i32_w]
          rfl
        refine pure_ (i := 14) (N := some 26) (v := ?_) (a' := ?_) #[true, true, true, true, true, true, true, true, true, true, true, true, true, true, true, false, false] rfl rfl (by kernel_rfl) (fun _ _ _ h => h) (Or.inl ⟨by rfl, ?_⟩) ?_ ?_
        rotate_left
        · intro w'
          go_simp
          with_reducible rfl
        rotate_left
        · simp only [Act.put, List.setIfInBounds_toArray, List.set_cons_zero, List.set_cons_succ, i64_w, i32_w]
          rfl
        refine pure_ (i := 15) (N := some 27) (v := ?_) (a' := ?_) #[true, true, true, true, true, true, true, true, true, true, true, true, true, true, true, true, false] rfl rfl (by kernel_rfl) (fun _ _ _ h => h) (Or.inl ⟨by rfl, ?_⟩) ?_ ?_
        rotate_left
        · intro w'
          go_simp
          with_reducible rfl
        rotate_left
        · simp only [Act.put, List.setIfInBounds_toArray, List.set_cons_zero, List.set_cons_succ, i64_w, i32_w]
          rfl
        refine pure_ (i := 16) (N := some 3) (v := ?_) (a' := ?_) #[true, true, true, true, true, true, true, true, true, true, true, true, true, true, true, true, true] rfl rfl (by kernel_rfl) (fun _ _ _ h => h) (Or.inl ⟨by rfl, ?_⟩) ?_ ?_
        rotate_left
        · intro w'
          go_simp
          with_reducible rfl
        rotate_left
        · simp only [Act.put, List.setIfInBounds_toArray, List.set_cons_zero, List.set_cons_succ, i64_w, i32_w]
          rfl
        refine done_ (by kernel_rfl) ?_
        clear hHeld k0 k1 k2 hw1 u1 u2 u3 u4 u5 u6 r2
        go_wp2
        go_roundw
        case rel => exact ⟨j + 1, by omega, by go_num, by rw [HN2.out], HR4, HF4⟩
        case measure => simp [intOf]; omega
      · obtain rfl : j = 8 := by omega
        obtain ⟨N, hN⟩ : ∃ N : Int, (numB 0 ((B.drop a).take 8) : Int) = N := ⟨_, rfl⟩
        have HN := Aside0.mk hN
        rw [hN]
        clear hN
        obtain ⟨A, c, hb, _⟩ := HRj.out
        have k1 : wr.cell? ⟨g, 1, none⟩ = some (.int .i64 a) := hb.cell 1
        have f1 : wr.frozen? ⟨g, 1, none⟩ = false := hb.frozen 1
        clear hb
        go_wp2
        go_ret
        have h8 : (a : Int) + 8 = ((a + 8 : Nat) : Int) := by omega
        rw [h8, HN.out]
        exact ⟨rfl, ⟨a + 8, HRj.out.set_at hal, by rw [List.drop_drop]⟩, HFj.out.then_ (Fr.set_ wr g 1 _) (fun _ h => .inl h)⟩


end Go.Proofs.YtblaibigjhlblaaGreatDoor.Q
end

section
-- written by hprint.py (a program of these sessions) out of the translation; Lean checks it
namespace Go.Proofs.YtblaibigjhlblaaGreatDoor.Q
open Go.RowKit Go.Proofs.YtblaibigjhlblaaGreatDoorW.Hb Go.Proofs.YtblaibigjhlblaaGreatDoorW.PrintWords Go.Proofs.YtblaibigjhlblaaGreatDoorW.PrintLast Go.Proofs.YtblaibigjhlblaaGreatDoorW.PrintMore
attribute [local go_sem] max2_int min2_int max_two min_two max_three min_three max_four min_four   -- for this text's walks alone
set_option linter.unusedVariables false
set_option linter.unusedSimpArgs false

/-! ### weighhouseref01_Reader_Done: function 33, by hand -/
set_option maxRecDepth 100000 in
theorem weighhouseref01_Reader_Done.calls (S : Nat → Prop) (g : Nat) (B : List Int) (a : Nat) (ev : Int) (w : World) (hR : Rq w S g B a ev) :
    Calls Tryz.prog 33 #[.pointer (some ⟨g, 0, none⟩)] w fun e w' => e = .returned (.int .i64 (rDone (B.drop a) ev)) ∧ Below w.heap.size w w' := by
  have HR := Aside0.mk hR
  obtain ⟨A, c, hb, _⟩ := hR
  have HB := Aside0.mk hb
  have k2 : w.cell? ⟨g, 2, none⟩ = some (.int .i64 ev) := hb.cell 2
  clear hb
  by_cases he : ev ≠ 0
  · have HS := Aside0.mk (show rDone (B.drop a) ev = ev from if_pos he)
    have d1 : (ev == 0) = false := by simp [he]
    clear he
    go_enter Tryz.func33, Tryz.ntmps33
    go_wp2
    go_ret
    rw [HS.out]
    exact ⟨rfl, Below.refl _ _⟩
  · obtain rfl : ev = 0 := by omega
    obtain ⟨ln, hln⟩ : ∃ ln : Int, ((B.drop a).length : Int) = ln := ⟨_, rfl⟩
    have HLN := Aside0.mk hln
    by_cases h1 : 0 < (B.drop a).length
    · have HS := Aside0.mk (show rDone (B.drop a) 0 = 21 by unfold rDone; rw [if_neg (by decide), if_pos h1])
      have d1 : decide (0 < ln) = true := decide_eq_true (by omega)
      clear he h1 hln
      go_enter Tryz.func33, Tryz.ntmps33
      go_wp2_with (go_at_call 57; (with_reducible refine (weighhouseref01_Reader_Left.calls S g B a 0 _ HR.out).mono ?_); rintro e2 w2 ⟨rfl, hB2⟩; rw [HLN.out]; have k3 : w2.cell? ⟨g, 2, none⟩ = some (.int .i64 0) := (HB.out.after hB2).cell 2; have HB2 := Aside0.mk hB2; clear hB2)
      go_ret
      rw [HS.out]
      exact ⟨rfl, HB2.out⟩
    · have HS := Aside0.mk (show rDone (B.drop a) 0 = 0 by unfold rDone; rw [if_neg (by decide), if_neg h1])
      have d1 : decide (0 < ln) = false := decide_eq_false (by omega)
      clear he h1 hln
      go_enter Tryz.func33, Tryz.ntmps33
      go_wp2_with (go_at_call 57; (with_reducible refine (weighhouseref01_Reader_Left.calls S g B a 0 _ HR.out).mono ?_); rintro e2 w2 ⟨rfl, hB2⟩; rw [HLN.out]; have k3 : w2.cell? ⟨g, 2, none⟩ = some (.int .i64 0) := (HB.out.after hB2).cell 2; have HB2 := Aside0.mk hB2; clear hB2)
      go_ret
      rw [HS.out]
      exact ⟨rfl, HB2.out⟩


end Go.Proofs.YtblaibigjhlblaaGreatDoor.Q
end

section
-- written by hprint.py (a program of these sessions) out of the translation; Lean checks it
namespace Go.Proofs.YtblaibigjhlblaaGreatDoor.Q
open Go.RowKit Go.Proofs.YtblaibigjhlblaaGreatDoorW.Hb Go.Proofs.YtblaibigjhlblaaGreatDoorW.PrintWords Go.Proofs.YtblaibigjhlblaaGreatDoorW.PrintLast Go.Proofs.YtblaibigjhlblaaGreatDoorW.PrintMore
attribute [local go_sem] max2_int min2_int max_two min_two max_three min_three max_four min_four   -- for this text's walks alone
set_option linter.unusedVariables false
set_option linter.unusedSimpArgs false

/-! ### weighhouseref01_Reader_Text: function 56, by hand -/
def weighhouseref01_Reader_Text.T3 : Bool × List (List Nat × List Nat) := (true, [([], []), ([0], [0]), ([1], [1]), ([2], [2]), ([], []), ([4], [4]), ([5], [5]), ([6], [6]), ([3, 7], [3, 7]), ([8], [8]), ([9], [9]), ([10], [10]), ([], []), ([12], [12]), ([13], [13]), ([14], [14]), ([], []), ([16], [16]), ([17], [17]), ([18], [18]), ([19], [19]), ([15, 20], [15, 20]), ([21], [21]), ([22], [22]), ([11, 23], [11, 23]), ([24, 0, 1, 2, 3, 4, 5, 6, 7, 8, 9, 10, 11, 12, 13, 14, 15, 16, 17, 18, 19, 20, 21, 22, 23, 24], [24])])
def weighhouseref01_Reader_Text.B3 : List Nat := [0, 1, 3, 7, 0, 16, 48, 112, 255, 511, 1023, 2047, 0, 4096, 12288, 28672, 0, 65536, 196608, 458752, 983040, 2093056, 4190208, 8384512, 16777215, 33554431]
theorem weighhouseref01_Reader_Text.tab3 : rtab .any (opsOf Tryz.f56 3) = weighhouseref01_Reader_Text.T3 := by kernel_rfl
theorem weighhouseref01_Reader_Text.bits3 : waitsOk weighhouseref01_Reader_Text.T3.2 weighhouseref01_Reader_Text.B3 = true := by kernel_rfl
theorem refWords (a p q n : Nat) (ha : a ≤ 140737488355328) (hp : (p : Int) ≤ 255) (hq : (q : Int) ≤ 255) (hn : n = ((p : Int) * 256 + (q : Int)).toNat) : wrap64 (p : Int) = (p : Int) ∧ wrap64 (256 * (p : Int)) = 256 * (p : Int) ∧ wrap64 (q : Int) = (q : Int) ∧ wrap64 (256 * (p : Int) + (q : Int)) = (n : Int) ∧ wrap64 ((a : Int) + 1) = (a : Int) + 1 := by
  refine ⟨wrapI (by omega) (by omega), wrapI (by omega) (by omega), wrapI (by omega) (by omega), ?_, wrapI (by omega) (by omega)⟩
  rw [wrapI (by omega) (by omega)]
  omega
theorem cutb_ex {P : Program} (t e : TypeId) {i : TypeInfo} (ht : P.underlying t = some (.slice e)) (hi : P.info? e = some i) (hsz : i.size = 1) (A : Option Addr) (c : Nat) (xs : List Int) (lo hi' : Int) (h0 : 0 ≤ lo) (h1 : lo ≤ hi') (h2 : hi' ≤ xs.length) (hc : xs.length ≤ c) (ys : List Int) (hys : ys = (xs.take hi'.toNat).drop lo.toNat) :
    ∃ A' c', (∀ W : World, (Instr.slice t (.slice A xs.length c) (some (.int .i64 lo)) (some (.int .i64 hi')) none).run P W = .ok (.slice A' ys.length c') W) ∧ ys.length ≤ c' ∧ ∀ (w : World) (k : IntKind), (Kd.int k).C w A xs.length xs → (Kd.int k).C w A' ys.length ys := by
  subst hys
  have hl : ((xs.take hi'.toNat).drop lo.toNat).length = hi'.toNat - lo.toNat := by simp; omega
  refine ⟨(if c = lo.toNat then A else A.map (·.add (lo.toNat * 1))), c - lo.toNat, fun W => ?_, by rw [hl]; omega, fun w k h => ?_⟩
  · rw [hl]
    exact cut_mid t e .i64 .i64 ht hi 1 hsz A xs.length c lo hi' h0 h1 h2 hc W
  · exact Kd.C_mid h (by omega) (by omega) hc
set_option maxRecDepth 100000 in
set_option maxHeartbeats 2000000 in
theorem weighhouseref01_Reader_Text.calls (S : Nat → Prop) (g : Nat) (B : List Int) (a : Nat) (ev : Int) (w : World) (hR : Rq w S g B a ev) :
    Calls Tryz.prog 56 #[.pointer (some ⟨g, 0, none⟩)] w fun e w' => e = .returned (.string (rText (B.drop a) ev).1) ∧ (∃ a', Rq w' S g B a' (rText (B.drop a) ev).2.2 ∧ B.drop a' = (rText (B.drop a) ev).2.1) ∧ Fr w w' (fun k => k = g) := by
  have HR := Aside0.mk hR
  by_cases he : ev = 0
  rotate_left
  · have HH := Aside0.mk (hasS_err (l := (B.drop a).length) (n := 2) he)
    rw [rText_err he]
    clear hR he
    go_enter Tryz.func56, Tryz.ntmps56
    go_wp2_with (go_at_call 70; (with_reducible refine (weighhouseref01_Reader_has.calls S g B a ev 2 _ _ _ HR.out HH.out).mono ?_); rintro e2 w2 ⟨rfl, hR2, hF2⟩; have HR2 := Aside0.mk hR2; have HF2 := Aside0.mk hF2; clear hR2 hF2)
    go_ret
    exact ⟨rfl, ⟨a, HR2.out, rfl⟩, HF2.out⟩
  subst he
  by_cases h1 : (B.drop a).length < 2
  · have HH := Aside0.mk (hasS_end (l := (B.drop a).length) (n := 2) (by omega))
    rw [rText_end h1]
    clear hR h1
    go_enter Tryz.func56, Tryz.ntmps56
    go_wp2_with (go_at_call 70; (with_reducible refine (weighhouseref01_Reader_has.calls S g B a 0 2 _ _ _ HR.out HH.out).mono ?_); rintro e2 w2 ⟨rfl, hR2, hF2⟩; have HR2 := Aside0.mk hR2; have HF2 := Aside0.mk hF2; clear hR2 hF2)
    go_ret
    exact ⟨rfl, ⟨a, HR2.out, rfl⟩, HF2.out⟩
  have HH := Aside0.mk (hasS_ok (l := (B.drop a).length) (n := 2) (by omega))
  obtain ⟨hx, ha, hl⟩ := Rq.info hR
  have hln : (B.drop a).length = B.length - a := List.length_drop
  obtain ⟨n, hn⟩ : ∃ n, tlen (B.drop a) = n := ⟨_, rfl⟩
  have hal0 : a < B.length := by omega
  have hal : a + 1 < B.length := by omega
  have hp0 := hx _ (List.getElem_mem hal0)
  have hp1 := hx _ (List.getElem_mem hal)
  have hn' : n = (rd B ((a : Nat) : Int) * 256 + rd B ((a + 1 : Nat) : Int)).toNat := by rw [← hn]; unfold tlen; rw [drop_rd, drop_rd]; rfl
  rw [rdN B a hal0, rdN B (a + 1) hal] at hn'
  have HE2 := Aside0.mk (show (B.drop a).length < 2 + n → rText (B.drop a) 0 = (ByteArray.empty, B.drop a, 20) from fun h => rText_end2 h1 (by rw [hn]; exact h))
  have HE3 := Aside0.mk (show ¬ (B.drop a).length < 2 + n → rText (B.drop a) 0 = (strOfNums (((B.drop a).drop 2).take n), (B.drop a).drop (2 + n), 0) from fun h => by have := rText_ok h1 (by rw [hn]; exact h); rwa [hn] at this)
  obtain ⟨p, hp⟩ : ∃ p, B[a]'hal0 = p := ⟨_, rfl⟩
  obtain ⟨q, hq⟩ : ∃ q, B[a + 1]'hal = q := ⟨_, rfl⟩
  rw [hp] at hp0 hn'
  rw [hq] at hp1 hn'
  have HP := Aside0.mk hp
  have HQ := Aside0.mk hq
  obtain ⟨p0, p1⟩ := hp0
  obtain ⟨q0, q1⟩ := hp1
  obtain ⟨p, hpp⟩ := Int.eq_ofNat_of_zero_le p0
  obtain ⟨q, hqq⟩ := Int.eq_ofNat_of_zero_le q0
  subst hpp
  subst hqq
  have HL := Aside0.mk hln
  have HN := Aside0.mk hn'
  have hnb : n ≤ 65535 := by omega
  clear hR hx hln hn hp hq hn' h1
  go_enter Tryz.func56, Tryz.ntmps56
  go_upto_region 3 with (go_at_call 70; (with_reducible refine (weighhouseref01_Reader_has.calls S g B a 0 2 _ _ _ HR.out HH.out).mono ?_); rintro e2 w1 ⟨rfl, hR2, hF2⟩; have HR2 := Aside0.mk hR2; have HF2 := Aside0.mk hF2; clear hR2 hF2)
  obtain ⟨A1, c1, hb1, hcc1, _, _, hC1, _⟩ := HR2.out
  obtain ⟨ad, e, hc0⟩ := at_intN hC1 a hal0
  subst e
  obtain ⟨ad', e, hc1⟩ := at_intN hC1 (a + 1) hal
  cases e
  rw [HP.out] at hc0
  rw [HQ.out] at hc1
  have k0 : w1.drew.cell? ⟨g, 0, none⟩ = some (.slice (some ad) B.length c1) := hb1.cell 0
  have k1 : w1.drew.cell? ⟨g, 1, none⟩ = some (.int .i64 a) := hb1.cell 1
  have k2 : w1.drew.cell? (ad.add a) = some (.int .u8 p) := hc0
  have k3 : w1.drew.cell? (ad.add (a + 1)) = some (.int .u8 q) := hc1
  have HRd := Aside0.mk (HR2.out.below ((Below.refl _ _).drew))
  have HFd := Aside0.mk (HF2.out.then_ (Fr.of_below ((Below.refl _ _).drew) (fun k => k = g)) (fun _ h => .inl h))
  have r0 : (0 : Int) ≤ (a : Int) + 1 := by omega
  have r1 : (a : Int) + 1 < (B.length : Int) := by omega
  have e1 : ad.add (a + 1) = ⟨ad.block, ad.off + (a + 1), none⟩ := by simp [Addr.add]
  rw [e1] at k3
  clear e1
  obtain ⟨hw1, hw2, hw3, hw4, hw5⟩ := refWords a p q n (by omega) p1 q1 HN.out
  clear hb1 hC1 hc0 hc1 HR2 HF2
  refine start_ (n := 26) (S := fun w' => w'.cell? ⟨g, 0, none⟩ = some (.slice (some ad) B.length c1) ∧ w'.cell? ⟨g, 1, none⟩ = some (.int .i64 a) ∧ w'.cell? (ad.add a) = some (.int .u8 p) ∧ w'.cell? ⟨ad.block, ad.off + (a + 1), none⟩ = some (.int .u8 q)) (ds := []) #[false, false, false, false, false, false, false, false, false, false, false, false, false, false, false, false, false, false, false, false, false, false, false, false, false, false] (by kernel_rfl) rfl rfl ⟨k0, k1, k2, k3⟩ (fun hHeld => ?_); refine with_tabW weighhouseref01_Reader_Text.tab3 weighhouseref01_Reader_Text.bits3 (fun HT_ HW_ => ?_)
  generalize w1.drew = wd at HRd HFd k0 k1 k2 k3 hHeld ⊢
  refine pure_ (i := 0) (N := some 7) (v := ?_) (a' := ?_) #[true, false, false, false, false, false, false, false, false, false, false, false, false, false, false, false, false, false, false, false, false, false, false, false, false, false] rfl rfl (any_of HT_.out (by kernel_rfl)) (fun _ _ _ h => h) (Or.inl ⟨by rfl, ?_⟩) ?_ ?_
  rotate_left
  · intro w'
    go_simp
    with_reducible rfl
  rotate_left
  · simp only [Act.put, List.setIfInBounds_toArray, List.set_cons_zero, List.set_cons_succ, i64_w, i32_w]
    rfl
  refine pure_ (i := 1) (N := some 8) (v := ?_) (a' := ?_) #[true, true, false, false, false, false, false, false, false, false, false, false, false, false, false, false, false, false, false, false, false, false, false, false, false, false] rfl rfl (any_of HT_.out (by kernel_rfl)) (fun _ _ _ h => h) (Or.inl ⟨by rfl, ?_⟩) ?_ ?_
  rotate_left
  · intro w'
    go_simp
    with_reducible rfl
  rotate_left
  · simp only [Act.put, List.setIfInBounds_toArray, List.set_cons_zero, List.set_cons_succ, i64_w, i32_w]
    rfl
  refine pure_ (i := 2) (N := some 9) (v := ?_) (a' := ?_) #[true, true, true, false, false, false, false, false, false, false, false, false, false, false, false, false, false, false, false, false, false, false, false, false, false, false] rfl rfl (any_of HT_.out (by kernel_rfl)) (fun _ _ _ h => h) (Or.inl ⟨by rfl, ?_⟩) ?_ ?_
  rotate_left
  · intro w'
    go_simp
    with_reducible rfl
  rotate_left
  · simp only [Act.put, List.setIfInBounds_toArray, List.set_cons_zero, List.set_cons_succ, i64_w, i32_w]
    rfl
  refine pure_ (i := 4) (N := some 11) (v := ?_) (a' := ?_) #[true, true, true, false, true, false, false, false, false, false, false, false, false, false, false, false, false, false, false, false, false, false, false, false, false, false] rfl rfl (any_of HT_.out (by kernel_rfl)) (fun _ _ _ h => h) (Or.inl ⟨by rfl, ?_⟩) ?_ ?_
  rotate_left
  · intro w'
    go_simp
    with_reducible rfl
  rotate_left
  · simp only [Act.put, List.setIfInBounds_toArray, List.set_cons_zero, List.set_cons_succ, i64_w, i32_w]
    rfl
  refine pure_ (i := 5) (N := some 12) (v := ?_) (a' := ?_) #[true, true, true, false, true, true, false, false, false, false, false, false, false, false, false, false, false, false, false, false, false, false, false, false, false, false] rfl rfl (any_of HT_.out (by kernel_rfl)) (fun _ _ _ h => h) (Or.inl ⟨by rfl, ?_⟩) ?_ ?_
  rotate_left
  · intro w'
    go_simp
    with_reducible rfl
  rotate_left
  · simp only [Act.put, List.setIfInBounds_toArray, List.set_cons_zero, List.set_cons_succ, i64_w, i32_w]
    rfl
  refine pure_ (i := 6) (N := some 13) (v := ?_) (a' := ?_) #[true, true, true, false, true, true, true, false, false, false, false, false, false, false, false, false, false, false, false, false, false, false, false, false, false, false] rfl rfl (any_of HT_.out (by kernel_rfl)) (fun _ _ _ h => h) (Or.inl ⟨by rfl, ?_⟩) ?_ ?_
  rotate_left
  · intro w'
    go_simp
    with_reducible rfl
  rotate_left
  · simp only [Act.put, List.setIfInBounds_toArray, List.set_cons_zero, List.set_cons_succ, i64_w, i32_w]
    rfl
  refine pure_ (i := 12) (N := some 19) (v := ?_) (a' := ?_) #[true, true, true, false, true, true, true, false, false, false, false, false, true, false, false, false, false, false, false, false, false, false, false, false, false, false] rfl rfl (any_of HT_.out (by kernel_rfl)) (fun _ _ _ h => h) (Or.inl ⟨by rfl, ?_⟩) ?_ ?_
  rotate_left
  · intro w'
    go_simp
    with_reducible rfl
  rotate_left
  · simp only [Act.put, List.setIfInBounds_toArray, List.set_cons_zero, List.set_cons_succ, i64_w, i32_w]
    rfl
  refine pure_ (i := 13) (N := some 20) (v := ?_) (a' := ?_) #[true, true, true, false, true, true, true, false, false, false, false, false, true, true, false, false, false, false, false, false, false, false, false, false, false, false] rfl rfl (any_of HT_.out (by kernel_rfl)) (fun _ _ _ h => h) (Or.inl ⟨by rfl, ?_⟩) ?_ ?_
  rotate_left
  · intro w'
    go_simp
    with_reducible rfl
  rotate_left
  · simp only [Act.put, List.setIfInBounds_toArray, List.set_cons_zero, List.set_cons_succ, i64_w, i32_w]
    rfl
  refine pure_ (i := 14) (N := some 21) (v := ?_) (a' := ?_) #[true, true, true, false, true, true, true, false, false, false, false, false, true, true, true, false, false, false, false, false, false, false, false, false, false, false] rfl rfl (any_of HT_.out (by kernel_rfl)) (fun _ _ _ h => h) (Or.inl ⟨by rfl, ?_⟩) ?_ ?_
  rotate_left
  · intro w'
    go_simp
    with_reducible rfl
  rotate_left
  · simp only [Act.put, List.setIfInBounds_toArray, List.set_cons_zero, List.set_cons_succ, i64_w, i32_w]
    rfl
  refine pure_ (i := 16) (N := some 23) (v := ?_) (a' := ?_) #[true, true, true, false, true, true, true, false, false, false, false, false, true, true, true, false, true, false, false, false, false, false, false, false, false, false] rfl rfl (any_of HT_.out (by kernel_rfl)) (fun _ _ _ h => h) (Or.inl ⟨by rfl, ?_⟩) ?_ ?_
  rotate_left
  · intro w'
    go_simp
    with_reducible rfl
  rotate_left
  · simp only [Act.put, List.setIfInBounds_toArray, List.set_cons_zero, List.set_cons_succ, i64_w, i32_w]
    rfl
  refine pure_ (i := 17) (N := some 24) (v := ?_) (a' := ?_) #[true, true, true, false, true, true, true, false, false, false, false, false, true, true, true, false, true, true, false, false, false, false, false, false, false, false] rfl rfl (any_of HT_.out (by kernel_rfl)) (fun _ _ _ h => h) (Or.inl ⟨by rfl, ?_⟩) ?_ ?_
  rotate_left
  · intro w'
    go_simp
    with_reducible rfl
  rotate_left
  · simp only [Act.put, List.setIfInBounds_toArray, List.set_cons_zero, List.set_cons_succ, i64_w, i32_w]
    rfl
  refine pure_ (i := 18) (N := some 25) (v := ?_) (a' := ?_) #[true, true, true, false, true, true, true, false, false, false, false, false, true, true, true, false, true, true, true, false, false, false, false, false, false, false] rfl rfl (any_of HT_.out (by kernel_rfl)) (fun _ _ _ h => h) (Or.inl ⟨by rfl, ?_⟩) ?_ ?_
  rotate_left
  · intro w'
    go_simp
    with_reducible rfl
  rotate_left
  · simp only [Act.put, List.setIfInBounds_toArray, List.set_cons_zero, List.set_cons_succ, i64_w, i32_w]
    rfl
  refine take_ (i := 3) (N := some 10) (v := ?_) (a' := ?_) #[true, true, true, true, true, true, true, false, false, false, false, false, true, true, true, false, true, true, true, false, false, false, false, false, false, false] rfl rfl (take_ofW HT_.out HW_.out (by kernel_rfl)) (fun _ _ _ h => h) (Or.inl ⟨by rfl, ?_⟩) hHeld ?_ ?_
  rotate_left
  · rintro w' ⟨s0, s1, s2, s3⟩
    go_simp
    with_reducible rfl
  rotate_left
  · simp only [Act.put, List.setIfInBounds_toArray, List.set_cons_zero, List.set_cons_succ, i64_w, i32_w]
    rfl
  refine take_ (i := 7) (N := some 14) (v := ?_) (a' := ?_) #[true, true, true, true, true, true, true, true, false, false, false, false, true, true, true, false, true, true, true, false, false, false, false, false, false, false] rfl rfl (take_ofW HT_.out HW_.out (by kernel_rfl)) (fun _ _ _ h => h) (Or.inl ⟨by rfl, ?_⟩) hHeld ?_ ?_
  rotate_left
  · rintro w' ⟨s0, s1, s2, s3⟩
    go_simp
    with_reducible rfl
  rotate_left
  · simp only [Act.put, List.setIfInBounds_toArray, List.set_cons_zero, List.set_cons_succ, i64_w, i32_w]
    rfl
  refine pure_ (i := 8) (N := some 15) (v := ?_) (a' := ?_) #[true, true, true, true, true, true, true, true, true, false, false, false, true, true, true, false, true, true, true, false, false, false, false, false, false, false] rfl rfl (any_of HT_.out (by kernel_rfl)) (fun _ _ _ h => h) (Or.inl ⟨by rfl, ?_⟩) ?_ ?_
  rotate_left
  · intro w'
    go_simp
    with_reducible rfl
  rotate_left
  · simp only [Act.put, List.setIfInBounds_toArray, List.set_cons_zero, List.set_cons_succ, i64_w, i32_w]
    rfl
  refine take_ (i := 9) (N := some 16) (v := ?_) (a' := ?_) #[true, true, true, true, true, true, true, true, true, true, false, false, true, true, true, false, true, true, true, false, false, false, false, false, false, false] rfl rfl (take_ofW HT_.out HW_.out (by kernel_rfl)) (fun _ _ _ h => h) (Or.inl ⟨by rfl, ?_⟩) hHeld ?_ ?_
  rotate_left
  · rintro w' ⟨s0, s1, s2, s3⟩
    go_simp
    with_reducible rfl
  rotate_left
  · simp only [Act.put, List.setIfInBounds_toArray, List.set_cons_zero, List.set_cons_succ, i64_w, i32_w]
    rfl
  refine pure_ (i := 10) (N := some 17) (v := ?_) (a' := ?_) #[true, true, true, true, true, true, true, true, true, true, true, false, true, true, true, false, true, true, true, false, false, false, false, false, false, false] rfl rfl (any_of HT_.out (by kernel_rfl)) (fun _ _ _ h => h) (Or.inl ⟨by rfl, ?_⟩) ?_ ?_
  rotate_left
  · intro w'
    go_simp
    with_reducible rfl
  rotate_left
  · simp only [Act.put, List.setIfInBounds_toArray, List.set_cons_zero, List.set_cons_succ, i64_w, i32_w]
    rfl
  refine pure_ (i := 11) (N := some 18) (v := ?_) (a' := ?_) #[true, true, true, true, true, true, true, true, true, true, true, true, true, true, true, false, true, true, true, false, false, false, false, false, false, false] rfl rfl (any_of HT_.out (by kernel_rfl)) (fun _ _ _ h => h) (Or.inl ⟨by rfl, ?_⟩) ?_ ?_
  rotate_left
  · intro w'
    go_simp
    with_reducible rfl
  rotate_left
  · simp only [Act.put, List.setIfInBounds_toArray, List.set_cons_zero, List.set_cons_succ, i64_w, i32_w]
    rfl
  refine take_ (i := 15) (N := some 22) (v := ?_) (a' := ?_) #[true, true, true, true, true, true, true, true, true, true, true, true, true, true, true, true, true, true, true, false, false, false, false, false, false, false] rfl rfl (take_ofW HT_.out HW_.out (by kernel_rfl)) (fun _ _ _ h => h) (Or.inl ⟨by rfl, ?_⟩) hHeld ?_ ?_
  rotate_left
  · rintro w' ⟨s0, s1, s2, s3⟩
    go_simp
    with_reducible rfl
  rotate_left
  · simp only [Act.put, List.setIfInBounds_toArray, List.set_cons_zero, List.set_cons_succ, i64_w, i32_w]
    rfl
  refine take_ (i := 19) (N := some 26) (v := ?_) (a' := ?_) #[true, true, true, true, true, true, true, true, true, true, true, true, true, true, true, true, true, true, true, true, false, false, false, false, false, false] rfl rfl (take_ofW HT_.out HW_.out (by kernel_rfl)) (fun _ _ _ h => h) (Or.inl ⟨by rfl, ?_⟩) hHeld ?_ ?_
  rotate_left
  · rintro w' ⟨s0, s1, s2, s3⟩
    go_simp
    with_reducible rfl
  rotate_left
  · simp only [Act.put, List.setIfInBounds_toArray, List.set_cons_zero, List.set_cons_succ, i64_w, i32_w]
    rfl
  refine pure_ (i := 20) (N := some 27) (v := ?_) (a' := ?_) #[true, true, true, true, true, true, true, true, true, true, true, true, true, true, true, true, true, true, true, true, true, false, false, false, false, false] rfl rfl (any_of HT_.out (by kernel_rfl)) (fun _ _ _ h => h) (Or.inl ⟨by rfl, ?_⟩) ?_ ?_
  rotate_left
  · intro w'
    go_simp
    with_reducible rfl
  rotate_left
  · simp only [Act.put, List.setIfInBounds_toArray, List.set_cons_zero, List.set_cons_succ, i64_w, i32_w]
    rfl
  refine pure_ (i := 21) (N := some 28) (v := ?_) (a' := ?_) #[true, true, true, true, true, true, true, true, true, true, true, true, true, true, true, true, true, true, true, true, true, true, false, false, false, false] rfl rfl (any_of HT_.out (by kernel_rfl)) (fun _ _ _ h => h) (Or.inl ⟨by rfl, ?_⟩) ?_ ?_
  rotate_left
  · intro w'
    go_simp
    with_reducible rfl
  rotate_left
  · simp only [Act.put, List.setIfInBounds_toArray, List.set_cons_zero, List.set_cons_succ, i64_w, i32_w]
    rfl
  refine take_ (i := 22) (N := some 29) (v := ?_) (a' := ?_) #[true, true, true, true, true, true, true, true, true, true, true, true, true, true, true, true, true, true, true, true, true, true, true, false, false, false] rfl rfl (take_ofW HT_.out HW_.out (by kernel_rfl)) (fun _ _ _ h => h) (Or.inl ⟨by rfl, ?_⟩) hHeld ?_ ?_
  rotate_left
  · rintro w' ⟨s0, s1, s2, s3⟩
    go_simp
    with_reducible rfl
  rotate_left
  · simp only [Act.put, List.setIfInBounds_toArray, List.set_cons_zero, List.set_cons_succ, i64_w, i32_w]
    rfl
  refine pure_ (i := 23) (N := some 30) (v := ?_) (a' := ?_) #[true, true, true, true, true, true, true, true, true, true, true, true, true, true, true, true, true, true, true, true, true, true, true, true, false, false] rfl rfl (any_of HT_.out (by kernel_rfl)) (fun _ _ _ h => h) (Or.inl ⟨by rfl, ?_⟩) ?_ ?_
  rotate_left
  · intro w'
    go_simp
    with_reducible rfl
  rotate_left
  · simp only [Act.put, List.setIfInBounds_toArray, List.set_cons_zero, List.set_cons_succ, i64_w, i32_w]
    rfl
  refine pure_ (i := 24) (N := some 31) (v := ?_) (a' := ?_) #[true, true, true, true, true, true, true, true, true, true, true, true, true, true, true, true, true, true, true, true, true, true, true, true, true, false] rfl rfl (any_of HT_.out (by kernel_rfl)) (fun _ _ _ h => h) (Or.inl ⟨by rfl, ?_⟩) ?_ ?_
  rotate_left
  · intro w'
    go_simp
    with_reducible rfl
  rotate_left
  · simp only [Act.put, List.setIfInBounds_toArray, List.set_cons_zero, List.set_cons_succ, i64_w, i32_w]
    rfl
  refine pure_ (i := 25) (N := some 3) (v := ?_) (a' := ?_) #[true, true, true, true, true, true, true, true, true, true, true, true, true, true, true, true, true, true, true, true, true, true, true, true, true, true] rfl rfl (any_of HT_.out (by kernel_rfl)) (fun _ _ _ h => h) (Or.inl ⟨by rfl, ?_⟩) ?_ ?_
  rotate_left
  · intro w'
    go_simp
    with_reducible rfl
  rotate_left
  · simp only [Act.put, List.setIfInBounds_toArray, List.set_cons_zero, List.set_cons_succ, i64_w, i32_w]
    rfl
  refine done_ (done_of HT_.out (by kernel_rfl)) ?_
  clear hHeld k0 k1 k2 k3 hw1 hw2 hw3 hw4 hw5
  by_cases h3 : (B.drop a).length < 2 + n
  · have HS := Aside0.mk (HE2.out h3)
    have HH3 := Aside0.mk (hasS_end (l := (B.drop a).length) (n := 2 + (n : Int)) (by omega))
    clear h3
    go_wp2_with (go_at_call 70; (with_reducible refine (weighhouseref01_Reader_has.calls S g B a 0 (2 + (n : Int)) _ _ _ HRd.out HH3.out).mono ?_); rintro e2 w4 ⟨rfl, hR4, hF4⟩; have HR4 := Aside0.mk hR4; have HF4 := Aside0.mk (HFd.out.then_ hF4 (fun _ h => .inl h)); clear hR4 hF4)
    go_ret
    rw [HS.out]
    exact ⟨rfl, ⟨a, HR4.out, rfl⟩, HF4.out⟩
  · have hS := HE3.out h3
    have HH3 := Aside0.mk (hasS_ok (l := (B.drop a).length) (n := 2 + (n : Int)) (by omega))
    have hX : a + 2 + n ≤ B.length := by have := HL.out; omega
    have hys : (B.take (a + 2 + n)).drop (a + 2) = ((B.drop a).drop 2).take n := by
      rw [List.drop_take, List.drop_drop]
      congr 1
      omega
    have hzs : (B.drop a).drop (2 + n) = B.drop (a + 2 + n) := by rw [List.drop_drop, ← Nat.add_assoc]
    rw [← hys, hzs] at hS
    obtain ⟨y5, hy5⟩ : ∃ y5, (B.take (a + 2 + n)).drop (a + 2) = y5 := ⟨_, rfl⟩
    rw [hy5] at hS
    have HY5 := Aside0.mk hy5
    have HS := Aside0.mk hS
    clear h3 hS hys hzs hy5
    go_upto_region 6 with (go_at_call 70; (with_reducible refine (weighhouseref01_Reader_has.calls S g B a 0 (2 + (n : Int)) _ _ _ HRd.out HH3.out).mono ?_); rintro e2 w4 ⟨rfl, hR4, hF4⟩; have HR4 := Aside0.mk hR4; have HF4 := Aside0.mk (HFd.out.then_ hF4 (fun _ h => .inl h)); clear hR4 hF4)
    obtain ⟨A4, c4, hb4, _⟩ := HR4.out
    have k1 : w4.cell? ⟨g, 1, none⟩ = some (.int .i64 a) := hb4.cell 1
    have f1 : w4.frozen? ⟨g, 1, none⟩ = false := hb4.frozen 1
    clear hb4
    go_wp2
    have hXI : (a : Int) + 2 + (n : Int) = ((a + 2 + n : Nat) : Int) := by omega
    rw [hXI]
    have HR5 := Aside0.mk (Rq.set_at (a' := a + 2 + n) HR4.out hX)
    have HF5 := Aside0.mk (HF4.out.then_ (Fr.set_ w4 g 1 (.int .i64 ((a + 2 + n : Nat) : Int))) (fun _ h => .inl h))
    obtain ⟨X, hXX⟩ : ∃ X, a + 2 + n = X := ⟨_, rfl⟩
    obtain ⟨lo, hlo⟩ : ∃ lo, a + 2 = lo := ⟨_, rfl⟩
    have hlX : lo ≤ X := by omega
    have hsub : wrap64 ((X : Int) - (n : Int)) = (lo : Int) := by rw [wrapI (by omega) (by omega)]; omega
    have HSUB := Aside0.mk hsub
    clear hsub hXI
    rw [hXX] at HR5 HF5 HY5 HS hX ⊢
    rw [hlo] at HY5
    obtain ⟨w5, hw5⟩ : ∃ w5, w4.setCell ⟨g, 1, none⟩ (.int .i64 (X : Int)) = w5 := ⟨_, rfl⟩
    rw [hw5] at HR5 HF5 ⊢
    clear hw5 hXX hlo k1 f1 HR4 HF4
    obtain ⟨ii, hii, his⟩ : ∃ ii, Tryz.prog.info? 5 = some ii ∧ ii.size = 1 := by
      obtain ⟨ii, h1, h2⟩ := Option.map_eq_some_iff.1 info5
      exact ⟨ii, h1, congrArg (fun p => p.2.1) h2⟩
    obtain ⟨A5, c5, hb5, hcc5, _, _, hC5, _⟩ := HR5.out
    obtain ⟨A6, c6, hq6, hc6, hC6⟩ := cutb_ex (P := Tryz.prog) 23 5 Tryz.underlying23 hii his A5 c5 B (lo : Int) (X : Int) (by omega) (by omega) (by omega) hcc5 y5 (by rw [Int.toNat_natCast, Int.toNat_natCast]; exact HY5.out.symm)
    have hcv := Kd.C_string (P := Tryz.prog) (w := w5.drew) (src := 23) (dst := 9) (e := 5) (c := c6) Tryz.underlying23 Tryz.underlying5 Tryz.underlying9 (hC6 w5.drew .u8 (Kd.C_below hC5 ((Below.refl _ _).drew)))
    have k0 : w5.drew.cell? ⟨g, 0, none⟩ = some (.slice A5 B.length c5) := hb5.cell 0
    have k1 : w5.drew.cell? ⟨g, 1, none⟩ = some (.int .i64 X) := hb5.cell 1
    have HR6 := Aside0.mk (HR5.out.below ((Below.refl _ _).drew))
    have HF6 := Aside0.mk (HF5.out.then_ (Fr.of_below ((Below.refl _ _).drew) (fun k => k = g)) (fun _ h => .inl h))
    have hsub := HSUB.out
    clear hb5 hC5 hC6 HR5 HF5
    refine start_ (n := 17) (S := fun w' => w' = w5.drew ∧ w'.cell? ⟨g, 0, none⟩ = some (.slice A5 B.length c5) ∧ w'.cell? ⟨g, 1, none⟩ = some (.int .i64 X)) (ds := []) #[false, false, false, false, false, false, false, false, false, false, false, false, false, false, false, false, false] (by kernel_rfl) rfl rfl ⟨rfl, k0, k1⟩ (fun hHeld => ?_)
    generalize w5.drew = wd7 at HR6 HF6 k0 k1 hcv hHeld ⊢
    refine pure_ (i := 0) (N := some 47) (v := ?_) (a' := ?_) #[true, false, false, false, false, false, false, false, false, false, false, false, false, false, false, false, false] rfl rfl (by kernel_rfl) (fun _ _ _ h => h) (Or.inl ⟨by rfl, ?_⟩) ?_ ?_
    rotate_left
    · intro w'
      go_simp
      with_reducible rfl
    rotate_left
    · simp only [Act.put, List.setIfInBounds_toArray, List.set_cons_zero, List.set_cons_succ, i64_w, i32_w]
      rfl
    refine pure_ (i := 1) (N := some 48) (v := ?_) (a' := ?_) #[true, true, false, false, false, false, false, false, false, false, false, false, false, false, false, false, false] rfl rfl (by kernel_rfl) (fun _ _ _ h => h) (Or.inl ⟨by rfl, ?_⟩) ?_ ?_
    rotate_left
    · intro w'
      go_simp
      with_reducible rfl
    rotate_left
    · simp only [Act.put, List.setIfInBounds_toArray, List.set_cons_zero, List.set_cons_succ, i64_w, i32_w]
      rfl
    refine pure_ (i := 2) (N := some 49) (v := ?_) (a' := ?_) #[true, true, true, false, false, false, false, false, false, false, false, false, false, false, false, false, false] rfl rfl (by kernel_rfl) (fun _ _ _ h => h) (Or.inl ⟨by rfl, ?_⟩) ?_ ?_
    rotate_left
    · intro w'
      go_simp
      with_reducible rfl
    rotate_left
    · simp only [Act.put, List.setIfInBounds_toArray, List.set_cons_zero, List.set_cons_succ, i64_w, i32_w]
      rfl
    refine pure_ (i := 4) (N := some 51) (v := ?_) (a' := ?_) #[true, true, true, false, true, false, false, false, false, false, false, false, false, false, false, false, false] rfl rfl (by kernel_rfl) (fun _ _ _ h => h) (Or.inl ⟨by rfl, ?_⟩) ?_ ?_
    rotate_left
    · intro w'
      go_simp
      with_reducible rfl
    rotate_left
    · simp only [Act.put, List.setIfInBounds_toArray, List.set_cons_zero, List.set_cons_succ, i64_w, i32_w]
      rfl
    refine pure_ (i := 5) (N := some 52) (v := ?_) (a' := ?_) #[true, true, true, false, true, true, false, false, false, false, false, false, false, false, false, false, false] rfl rfl (by kernel_rfl) (fun _ _ _ h => h) (Or.inl ⟨by rfl, ?_⟩) ?_ ?_
    rotate_left
    · intro w'
      go_simp
      with_reducible rfl
    rotate_left
    · simp only [Act.put, List.setIfInBounds_toArray, List.set_cons_zero, List.set_cons_succ, i64_w, i32_w]
      rfl
    refine pure_ (i := 6) (N := some 53) (v := ?_) (a' := ?_) #[true, true, true, false, true, true, true, false, false, false, false, false, false, false, false, false, false] rfl rfl (by kernel_rfl) (fun _ _ _ h => h) (Or.inl ⟨by rfl, ?_⟩) ?_ ?_
    rotate_left
    · intro w'
      go_simp
      with_reducible rfl
    rotate_left
    · simp only [Act.put, List.setIfInBounds_toArray, List.set_cons_zero, List.set_cons_succ, i64_w, i32_w]
      rfl
    refine pure_ (i := 8) (N := some 55) (v := ?_) (a' := ?_) #[true, true, true, false, true, true, true, false, true, false, false, false, false, false, false, false, false] rfl rfl (by kernel_rfl) (fun _ _ _ h => h) (Or.inl ⟨by rfl, ?_⟩) ?_ ?_
    rotate_left
    · intro w'
      go_simp
      with_reducible rfl
    rotate_left
    · simp only [Act.put, List.setIfInBounds_toArray, List.set_cons_zero, List.set_cons_succ, i64_w, i32_w]
      rfl
    refine pure_ (i := 10) (N := some 57) (v := ?_) (a' := ?_) #[true, true, true, false, true, true, true, false, true, false, true, false, false, false, false, false, false] rfl rfl (by kernel_rfl) (fun _ _ _ h => h) (Or.inl ⟨by rfl, ?_⟩) ?_ ?_
    rotate_left
    · intro w'
      go_simp
      with_reducible rfl
    rotate_left
    · simp only [Act.put, List.setIfInBounds_toArray, List.set_cons_zero, List.set_cons_succ, i64_w, i32_w]
      rfl
    refine pure_ (i := 11) (N := some 58) (v := ?_) (a' := ?_) #[true, true, true, false, true, true, true, false, true, false, true, true, false, false, false, false, false] rfl rfl (by kernel_rfl) (fun _ _ _ h => h) (Or.inl ⟨by rfl, ?_⟩) ?_ ?_
    rotate_left
    · intro w'
      go_simp
      with_reducible rfl
    rotate_left
    · simp only [Act.put, List.setIfInBounds_toArray, List.set_cons_zero, List.set_cons_succ, i64_w, i32_w]
      rfl
    refine pure_ (i := 12) (N := some 59) (v := ?_) (a' := ?_) #[true, true, true, false, true, true, true, false, true, false, true, true, true, false, false, false, false] rfl rfl (by kernel_rfl) (fun _ _ _ h => h) (Or.inl ⟨by rfl, ?_⟩) ?_ ?_
    rotate_left
    · intro w'
      go_simp
      with_reducible rfl
    rotate_left
    · simp only [Act.put, List.setIfInBounds_toArray, List.set_cons_zero, List.set_cons_succ, i64_w, i32_w]
      rfl
    refine take_ (i := 3) (N := some 50) (v := ?_) (a' := ?_) #[true, true, true, true, true, true, true, false, true, false, true, true, true, false, false, false, false] rfl rfl (by kernel_rfl) (fun _ _ _ h => h) (Or.inl ⟨by rfl, ?_⟩) hHeld ?_ ?_
    rotate_left
    · rintro w' ⟨s0, s1, s2⟩
      go_simp
      with_reducible rfl
    rotate_left
    · simp only [Act.put, List.setIfInBounds_toArray, List.set_cons_zero, List.set_cons_succ, i64_w, i32_w]
      rfl
    refine take_ (i := 7) (N := some 54) (v := ?_) (a' := ?_) #[true, true, true, true, true, true, true, true, true, false, true, true, true, false, false, false, false] rfl rfl (by kernel_rfl) (fun _ _ _ h => h) (Or.inl ⟨by rfl, ?_⟩) hHeld ?_ ?_
    rotate_left
    · rintro w' ⟨s0, s1, s2⟩
      go_simp
      with_reducible rfl
    rotate_left
    · simp only [Act.put, List.setIfInBounds_toArray, List.set_cons_zero, List.set_cons_succ, i64_w, i32_w]
      rfl
    refine pure_ (i := 9) (N := some 56) (v := ?_) (a' := ?_) #[true, true, true, true, true, true, true, true, true, true, true, true, true, false, false, false, false] rfl rfl (by kernel_rfl) (fun _ _ _ h => h) (Or.inl ⟨by rfl, ?_⟩) ?_ ?_
    rotate_left
    · intro w'
      go_simp
      with_reducible rfl
    rotate_left
    · simp only [Act.put, List.setIfInBounds_toArray, List.set_cons_zero, List.set_cons_succ, i64_w, i32_w]
      rfl
    refine take_ (i := 13) (N := some 60) (v := ?_) (a' := ?_) #[true, true, true, true, true, true, true, true, true, true, true, true, true, true, false, false, false] rfl rfl (by kernel_rfl) (fun _ _ _ h => h) (Or.inl ⟨by rfl, ?_⟩) hHeld ?_ ?_
    rotate_left
    · rintro w' ⟨s0, s1, s2⟩
      go_simp
      with_reducible rfl
    rotate_left
    · simp only [Act.put, List.setIfInBounds_toArray, List.set_cons_zero, List.set_cons_succ, i64_w, i32_w]
      rfl
    refine pure_ (i := 14) (N := some 61) (v := ?_) (a' := ?_) #[true, true, true, true, true, true, true, true, true, true, true, true, true, true, true, false, false] rfl rfl (by kernel_rfl) (fun _ _ _ h => h) (Or.inl ⟨by rfl, ?_⟩) ?_ ?_
    rotate_left
    · intro w'
      go_simp
      with_reducible rfl
    rotate_left
    · simp only [Act.put, List.setIfInBounds_toArray, List.set_cons_zero, List.set_cons_succ, i64_w, i32_w]
      rfl
    refine take_ (i := 15) (N := some 62) (v := ?_) (a' := ?_) #[true, true, true, true, true, true, true, true, true, true, true, true, true, true, true, true, false] rfl rfl (by kernel_rfl) (fun _ _ _ h => h) (Or.inl ⟨by rfl, ?_⟩) hHeld ?_ ?_
    rotate_left
    · rintro w' ⟨s0, s1, s2⟩
      go_simp
      with_reducible rfl
    rotate_left
    · simp only [Act.put, List.setIfInBounds_toArray, List.set_cons_zero, List.set_cons_succ, i64_w, i32_w]
      rfl
    refine pure_ (i := 16) (N := some 2) (v := ?_) (a' := ?_) #[true, true, true, true, true, true, true, true, true, true, true, true, true, true, true, true, true] rfl rfl (by kernel_rfl) (fun _ _ _ h => h) (Or.inl ⟨by rfl, ?_⟩) ?_ ?_
    rotate_left
    · intro w'
      go_simp
      with_reducible rfl
    rotate_left
    · simp only [Act.put, List.setIfInBounds_toArray, List.set_cons_zero, List.set_cons_succ, i64_w, i32_w]
      rfl
    refine done_ (by kernel_rfl) ?_
    clear hHeld k0 k1 hcv hsub hq6
    go_wp2
    go_ret
    rw [HS.out]
    exact ⟨rfl, ⟨X, HR6.out, rfl⟩, HF6.out⟩


end Go.Proofs.YtblaibigjhlblaaGreatDoor.Q
end

section
-- written by hprint.py (a program of these sessions) out of the translation; Lean checks it
namespace Go.Proofs.YtblaibigjhlblaaGreatDoor.Q
open Go.RowKit Go.Proofs.YtblaibigjhlblaaGreatDoorW.Hb Go.Proofs.YtblaibigjhlblaaGreatDoorW.PrintWords Go.Proofs.YtblaibigjhlblaaGreatDoorW.PrintLast Go.Proofs.YtblaibigjhlblaaGreatDoorW.PrintMore
attribute [local go_sem] max2_int min2_int max_two min_two max_three min_three max_four min_four   -- for this text's walks alone
set_option linter.unusedVariables false
set_option linter.unusedSimpArgs false

/-! ### weighhouseref02_From: function 32, by hand -/
/-- The document's reader, told by what is left; its blocks lie from w0 on, below b. -/
def Oq (w0 w : World) (b g : Nat) (xs : List Int) (e : Int) : Prop := ∃ S B a, Rq w S g B a e ∧ B.drop a = xs ∧ (∀ k, S k → w0.heap.size ≤ k ∧ k < b) ∧ b ≤ w.heap.size ∧ Below w0.heap.size w0 w ∧ S g
section
variable {w0 w w' : World} {b g : Nat} {xs xs' : List Int} {e e' : Int}
theorem Oq.bel (h : Oq w0 w b g xs e) : Below w0.heap.size w0 w := by
  obtain ⟨_, _, _, _, _, _, _, h, _⟩ := h
  exact h
theorem Oq.le (h : Oq w0 w b g xs e) : b ≤ w.heap.size := by
  obtain ⟨_, _, _, _, _, _, h, _⟩ := h
  exact h
theorem Oq.g_in (h : Oq w0 w b g xs e) : w0.heap.size ≤ g ∧ g < b := by
  obtain ⟨S, _, _, h1, _, h2, _, _, hg⟩ := h
  exact h2 g hg
theorem Oq.B (h : Oq w0 w b g xs e) : ∀ x ∈ xs, 0 ≤ x ∧ x ≤ 255 := by
  obtain ⟨S, B, a, h1, hx, _⟩ := h
  intro x hm
  rw [← hx] at hm
  exact h1.info.1 x (List.mem_of_mem_drop hm)
theorem Oq.cell2 (h : Oq w0 w b g xs e) : w.cell? ⟨g, 2, none⟩ = some (.int .i64 e) := by
  obtain ⟨S, B, a, ⟨A, c, hb, _⟩, _⟩ := h
  exact hb.cell 2
theorem Oq.kept {S2 : Nat → Prop} (h : Oq w0 w b g xs e) (hk : Kept w w' S2) (hd : ∀ k, S2 k → b ≤ k) (hb : Below w0.heap.size w w') : Oq w0 w' b g xs e := by
  obtain ⟨S, B, a, h1, hx, h2, h3, h4, hg⟩ := h
  exact ⟨S, B, a, h1.kept hk (fun k hS h => by have := (h2 k hS).2; have := hd k h; omega), hx, h2, Nat.le_trans h3 hk.1, h4.trans hb, hg⟩
theorem Oq.kept2 {S2 : Nat → Prop} (h : Oq w0 w b g xs e) (hk : Kept w w' S2) (hd : ∀ k, S2 k → b ≤ k) (hb : Below w0.heap.size w0 w') : Oq w0 w' b g xs e := by
  obtain ⟨S, B, a, h1, hx, h2, h3, h4, hg⟩ := h
  exact ⟨S, B, a, h1.kept hk (fun k hS h => by have := (h2 k hS).2; have := hd k h; omega), hx, h2, Nat.le_trans h3 hk.1, hb, hg⟩
theorem Oq.below (h : Oq w0 w b g xs e) (hb : Below b w w') : Oq w0 w' b g xs e :=
  h.kept (S2 := fun k => b ≤ k) ⟨hb.size, fun i hi hn => hb.block i (by omega)⟩ (fun _ h => h) (hb.mono (by have := h.g_in; omega))
theorem Oq.step {S : Nat → Prop} {B : List Int} (hg : S g) (h2 : ∀ k, S k → w0.heap.size ≤ k ∧ k < b) (h3 : b ≤ w.heap.size) (h4 : Below w0.heap.size w0 w) (hr : ∃ a', Rq w' S g B a' e' ∧ B.drop a' = xs') (hf : Fr w w' (fun k => k = g)) : Oq w0 w' b g xs' e' := by
  obtain ⟨a', hr, hx⟩ := hr
  exact ⟨S, B, a', hr, hx, h2, Nat.le_trans h3 hf.1.size, h4.trans (hf.below h4.size (fun k hk => by subst hk; exact (h2 _ hg).1)), hg⟩
theorem byteZ {v : Int} (h : Oq w0 w b g xs e) (hx : rByte xs e = (v, xs', e')) : Calls Tryz.prog 54 #[.pointer (some ⟨g, 0, none⟩)] w fun en w' => en = .returned (.int .i64 v) ∧ Oq w0 w' b g xs' e' ∧ Fr w w' (fun k => k = g) := by
  obtain ⟨S, B, a, h1, rfl, h2, h3, h4, hg⟩ := h
  have := weighhouseref01_Reader_Byte.calls S g B a e w h1
  rw [hx] at this
  exact this.mono fun en w' ⟨he, hr, hf⟩ => ⟨he, Oq.step hg h2 h3 h4 hr hf, hf⟩
theorem intZ {v : Int} (h : Oq w0 w b g xs e) (hx : rInt xs e = (v, xs', e')) : Calls Tryz.prog 55 #[.pointer (some ⟨g, 0, none⟩)] w fun en w' => en = .returned (.int .i64 v) ∧ Oq w0 w' b g xs' e' ∧ Fr w w' (fun k => k = g) := by
  obtain ⟨S, B, a, h1, rfl, h2, h3, h4, hg⟩ := h
  have := weighhouseref01_Reader_Int.calls S g B a e w h1
  rw [hx] at this
  exact this.mono fun en w' ⟨he, hr, hf⟩ => ⟨he, Oq.step hg h2 h3 h4 hr hf, hf⟩
theorem textZ {v : ByteArray} (h : Oq w0 w b g xs e) (hx : rText xs e = (v, xs', e')) : Calls Tryz.prog 56 #[.pointer (some ⟨g, 0, none⟩)] w fun en w' => en = .returned (.string v) ∧ Oq w0 w' b g xs' e' ∧ Fr w w' (fun k => k = g) := by
  obtain ⟨S, B, a, h1, rfl, h2, h3, h4, hg⟩ := h
  have := weighhouseref01_Reader_Text.calls S g B a e w h1
  rw [hx] at this
  exact this.mono fun en w' ⟨he, hr, hf⟩ => ⟨he, Oq.step hg h2 h3 h4 hr hf, hf⟩
theorem doneZ (h : Oq w0 w b g xs e) : Calls Tryz.prog 33 #[.pointer (some ⟨g, 0, none⟩)] w fun en w' => en = .returned (.int .i64 (rDone xs e)) ∧ Below w.heap.size w w' := by
  obtain ⟨S, B, a, h1, rfl, h2, h3, h4, hg⟩ := h
  exact weighhouseref01_Reader_Done.calls S g B a e w h1
end
theorem rByte_B {xs xs1 : List Int} {e e1 v : Int} (hB : ∀ x ∈ xs, 0 ≤ x ∧ x ≤ 255) (h1 : rByte xs e = (v, xs1, e1)) : ∀ x ∈ xs1, 0 ≤ x ∧ x ≤ 255 := fun x hx => by
  by_cases he : e ≠ 0
  · rw [rByte_err he] at h1; cases h1; exact hB x hx
  · obtain rfl : e = 0 := by omega
    by_cases h3 : xs.length < 1
    · rw [rByte_end h3] at h1; cases h1; exact hB x hx
    · rw [rByte_ok h3] at h1; cases h1; exact hB x (List.mem_of_mem_drop hx)
set_option maxRecDepth 100000 in
set_option maxHeartbeats 8000000 in
theorem weighhouseref02_From.calls (w0 w : World) (b g : Nat) (xs : List Int) (e : Int) (ls : List S47) (xs' : List Int) (e' : Int) (n : Nat) (x1 : List Int) (e1 : Int) (h : Oq w0 w b g xs e) (h1 : rByte xs e = ((n : Int), x1, e1)) (hn255 : n ≤ 255) (hG : gvals false n x1 e1 [] = (ls, xs', e')) :
    Calls Tryz.prog 32 #[.pointer (some ⟨g, 0, none⟩)] w fun en w' => ∃ v, en = .returned v ∧ Kd.R k47 47 w' w0.heap.size (fun k => b ≤ k) v ls ∧ Oq w0 w' b g xs' e' := by
  have HO2 := Aside0.mk h
  have HG := Aside0.mk hG
  have H1' := Aside0.mk h1
  have hgb := h.g_in
  clear h hG h1
  go_enter Tryz.func32, Tryz.ntmps32
  go_wp2_with (fail)
  with_reducible refine (byteZ HO2.out H1'.out).mono ?_
  rintro en w3 ⟨rfl, hO3, _⟩
  have HO3 := Aside0.mk hO3
  clear hO3 HO2 H1'
  go_wp2_with (fail)
  go_loopw [4, 5] (fun v5 v11 wr => ∃ (m : Nat) (ys : List Int) (ee : Int) (acc : List S47), v11 = .int .i64 (acc.length : Int) ∧ acc.length + m = n ∧ Aside0 (gvals false m ys ee acc = (ls, xs', e')) ∧ Aside0 (Oq w0 wr b g ys ee) ∧ Aside0 (Kd.R k47 47 wr w0.heap.size (fun k => b ≤ k) v5 acc)) (fun _ v _ => n - (intOf v).toNat)
  case atStart => exact ⟨n, x1, e1, [], rfl, by simp, HG, HO3, ⟨Kd.R_nil _ _ _ _ _⟩⟩
  case round =>
    clear HG HO3
    obtain ⟨m, ys, ee, acc, rfl, hlm, HX, HO, HR⟩ := hrel
    rcases Nat.eq_zero_or_pos m with h0 | h0
    · subst h0
      have hX := HX.out
      rw [gvals_0] at hX
      have HE := Aside0.mk hX
      clear hX HX
      have hz : decide ((acc.length : Int) < (n : Int)) = false := decide_eq_false (by omega)
      have hz2 : ¬ (acc.length : Int) < (n : Int) := by omega
      go_wp2_with (fail)
      go_ret
      obtain ⟨q1, hX⟩ := Prod.mk.inj HE.out
      obtain ⟨q2, q3⟩ := Prod.mk.inj hX
      exact ⟨_, rfl, by rw [← q1]; exact HR.out, by rw [← q2, ← q3]; exact HO.out⟩
    have hz : (acc.length : Int) < (n : Int) := by omega
    have ke : wr.cell? ⟨g, 2, none⟩ = some (.int .i64 ee) := HO.out.cell2
    by_cases he : ee = 0
    rotate_left
    · have hd : (ee == 0) = false := by simp [he]
      have hX := HX.out
      rw [gvals_stop m ys he] at hX
      have HE := Aside0.mk hX
      clear hX HX he
      go_wp2_with (fail)
      go_ret
      obtain ⟨q1, hX⟩ := Prod.mk.inj HE.out
      obtain ⟨q2, q3⟩ := Prod.mk.inj hX
      exact ⟨_, rfl, by rw [← q1]; exact HR.out, by rw [← q2, ← q3]; exact HO.out⟩
    · subst he
      have hd : ((0 : Int) == 0) = true := rfl
      obtain ⟨m, rfl⟩ : ∃ m', m = m' + 1 := ⟨m - 1, by omega⟩
      have HAL := Aside0.mk (show (acc.length + 1) * 32 ≤ 140737488355328 by omega)
      obtain ⟨t, x1, e1, h1⟩ : ∃ v x e, rByte ys 0 = (v, x, e) := ⟨_, _, _, rfl⟩
      have H1 := Aside0.mk h1
      have HRb := Aside0.mk (Kd.R_mono (ok' := fun k => b ≤ k ∧ k < wr.heap.size) (Kd.R_bound HR.out) (fun k hk => ⟨hk.1, hk.2.2.1⟩))
      have hble : b ≤ wr.heap.size := HO.out.le
      have hwb : w0.heap.size ≤ wr.heap.size := HO.out.bel.size
      clear h1 HR
      go_wp2_with (fail)
      with_reducible refine (byteZ HO.out H1.out).mono ?_
      rintro en w5 ⟨rfl, hO4, hF4⟩
      have HO5 := Aside0.mk hO4
      have HR5 := Aside0.mk (Kd.R_kept HRb.out hF4.2 (fun k hk h => by omega))
      have HS5 := Aside0.mk hF4.1.size
      clear hO4 hF4 HO HRb ke
      obtain ⟨kz, hkz⟩ : ∃ kz, t = kz := ⟨_, rfl⟩
      rw [hkz]
      go_upto_region 7 with (fail)
      have HK := Aside0.mk (Blk.new w5 47 #[.int .i64 kz, .int .i64 0, .string ⟨#[]⟩])
      have HOa := Aside0.mk (HO5.out.below ((Below.refl _ w5).alloc HO5.out.le (.cells #[.int .i64 kz, .int .i64 0, .string ⟨#[]⟩] 47)))
      have HRa := Aside0.mk (Kd.R_alloc HR5.out (.cells #[.int .i64 kz, .int .i64 0, .string ⟨#[]⟩] 47))
      generalize w5.alloc (.cells #[.int .i64 kz, .int .i64 0, .string ⟨#[]⟩] 47) = wa at HK HOa HRa ⊢
      have hgv : wr.heap.size ≤ w5.heap.size := HS5.out
      generalize w5.heap.size = gv at HK hgv ⊢
      have hgg : gv ≠ g := by omega
      have k0 : wa.cell? ⟨gv, 0, none⟩ = some (.int .i64 kz) := HK.out.cell 0
      clear HO5 HR5 HS5
      by_cases t1 : t = 1
      · subst t1
        obtain rfl : kz = 1 := hkz.symm
        have d1 : ((1 : Int) == 1) = true := rfl
        obtain ⟨v, x2, e2, h7⟩ : ∃ v x e, rInt x1 e1 = (v, x, e) := ⟨_, _, _, rfl⟩
        go_wp2_with (fail)
        with_reducible refine (intZ HOa.out h7).mono ?_
        rintro en w7 ⟨rfl, hO7, hF7⟩
        have HK7 := Aside0.mk (show Blk w7 gv 47 #[.int .i64 1, .int .i64 0, .string ⟨#[]⟩] from blk_kept HK.out hF7.2 hgg)
        have HOs := Aside0.mk (hO7.kept (S2 := fun k => k = gv) (Kept.setCell (S := fun k => k = gv) (p := ⟨gv, 1, none⟩) (Kept.refl w7 _) (.inl rfl) (.int .i64 v)) (fun k hk => by omega) ((Below.refl _ _).setCell (show w0.heap.size ≤ gv by omega) _))
        have HRs := Aside0.mk (Kd.R_far (p := ⟨gv, 1, none⟩) (Kd.R_kept HRa.out hF7.2 (fun k hk h => by omega)) (fun k hk => by show k ≠ gv; omega) (.int .i64 v))
        have HKs := Aside0.mk (show Blk (w7.setCell ⟨gv, 1, none⟩ (.int .i64 v)) gv 47 #[.int .i64 1, .int .i64 v, .string ⟨#[]⟩] from by simpa using HK7.out.set_ 1 (.int .i64 v))
        have z1 : w7.cell? ⟨gv, 1, none⟩ = some (.int .i64 0) := HK7.out.cell 1
        have y1 : w7.frozen? ⟨gv, 1, none⟩ = false := HK7.out.frozen 1
        clear hO7 hF7 HK7 HK HOa HRa k0
        go_upto_region 14 with (fail)
        generalize w7.setCell ⟨gv, 1, none⟩ (.int .i64 v) = ws at HKs HOs HRs ⊢
        have c0 : ws.cell? ⟨gv, 0, none⟩ = some (.int .i64 1) := HKs.out.cell 0
        have c1 : ws.cell? ⟨gv, 1, none⟩ = some (.int .i64 v) := HKs.out.cell 1
        have c2 : ws.cell? ⟨gv, 2, none⟩ = some (.string ⟨#[]⟩) := HKs.out.cell 2
        have hX := HX.out
        rw [gvals_step m acc (.inr rfl) (gval_1 H1.out h7)] at hX
        have HX2 := Aside0.mk hX
        clear hX HX
        have HRt := Aside0.mk (Kd.R_mono (ok' := fun k => b ≤ k) HRs.out (fun k hk => hk.1))
        go_wp2_with ((with_reducible refine gate_builtin (b := .append) (xs := #[.tmp 41, .tmp 43]) rfl ?_); at_builtin; refine Kd.R_append k47 (w0 := w0) w0.heap.size rfl (.tmp 41) (.tmp 43) 22 47 (.agg #[(.int .i64 0), (.int .i64 0), (.string ⟨#[]⟩)]) 32 rfl Tryz.underlying22 info47 rfl (by decide) (by omega) u4 acc ⟨1, v, ⟨#[]⟩⟩ [.int .i64 1, .int .i64 v, .string ⟨#[]⟩] (fun k => b ≤ k) (fun _ => False) rfl rfl ?aP (fun _ hk => hk.elim) (fun k hk => Nat.le_trans HOs.out.le hk) HRt.out HOs.out.bel HOs.out.bel.size HAL.out ?_; (case aP => exact k47_mkM _ _ _ ⟨1, v, ⟨#[]⟩⟩); intro v9 w9 hR9 hB9 hG9 _; have HR9 := Aside0.mk hR9; have HB9 := Aside0.mk hB9; have HG9 := Aside0.mk hG9; clear hR9 hB9 hG9)
        have HO9 := Aside0.mk (show Oq w0 w9 b g _ _ from HOs.out.kept2 (S2 := fun k => u4.ownBlock = some k) ⟨HG9.out.size, fun i hi hn => HG9.out.block i hi (fun he => hn he.symm)⟩ (fun k hk => HRt.out.1 k hk) HB9.out)
        go_roundw
        case rel => exact ⟨m, _, _, _, by first | rfl | (rw [List.length_append, List.length_singleton]; go_num), by rw [List.length_append, List.length_singleton]; omega, HX2, HO9, HR9⟩
        case measure => simp [intOf]; omega
      by_cases t2 : t = 2
      · subst t2
        obtain rfl : kz = 2 := hkz.symm
        have d1 : ((2 : Int) == 1) = false := rfl
        have d2 : ((2 : Int) == 2) = true := rfl
        obtain ⟨v, x2, e2, h7⟩ : ∃ v x e, rText x1 e1 = (v, x, e) := ⟨_, _, _, rfl⟩
        go_wp2_with (fail)
        with_reducible refine (textZ HOa.out h7).mono ?_
        rintro en w7 ⟨rfl, hO7, hF7⟩
        have HK7 := Aside0.mk (show Blk w7 gv 47 #[.int .i64 2, .int .i64 0, .string ⟨#[]⟩] from blk_kept HK.out hF7.2 hgg)
        have HOs := Aside0.mk (hO7.kept (S2 := fun k => k = gv) (Kept.setCell (S := fun k => k = gv) (p := ⟨gv, 2, none⟩) (Kept.refl w7 _) (.inl rfl) (.string v)) (fun k hk => by omega) ((Below.refl _ _).setCell (show w0.heap.size ≤ gv by omega) _))
        have HRs := Aside0.mk (Kd.R_far (p := ⟨gv, 2, none⟩) (Kd.R_kept HRa.out hF7.2 (fun k hk h => by omega)) (fun k hk => by show k ≠ gv; omega) (.string v))
        have HKs := Aside0.mk (show Blk (w7.setCell ⟨gv, 2, none⟩ (.string v)) gv 47 #[.int .i64 2, .int .i64 0, .string v] from by simpa using HK7.out.set_ 2 (.string v))
        have z2 : w7.cell? ⟨gv, 2, none⟩ = some (.string ⟨#[]⟩) := HK7.out.cell 2
        have y2 : w7.frozen? ⟨gv, 2, none⟩ = false := HK7.out.frozen 2
        clear hO7 hF7 HK7 HK HOa HRa k0
        go_upto_region 14 with (fail)
        generalize w7.setCell ⟨gv, 2, none⟩ (.string v) = ws at HKs HOs HRs ⊢
        have c0 : ws.cell? ⟨gv, 0, none⟩ = some (.int .i64 2) := HKs.out.cell 0
        have c1 : ws.cell? ⟨gv, 1, none⟩ = some (.int .i64 0) := HKs.out.cell 1
        have c2 : ws.cell? ⟨gv, 2, none⟩ = some (.string v) := HKs.out.cell 2
        have hX := HX.out
        rw [gvals_step m acc (.inr rfl) (gval_2 H1.out h7)] at hX
        have HX2 := Aside0.mk hX
        clear hX HX
        have HRt := Aside0.mk (Kd.R_mono (ok' := fun k => b ≤ k) HRs.out (fun k hk => hk.1))
        go_wp2_with ((with_reducible refine gate_builtin (b := .append) (xs := #[.tmp 41, .tmp 43]) rfl ?_); at_builtin; refine Kd.R_append k47 (w0 := w0) w0.heap.size rfl (.tmp 41) (.tmp 43) 22 47 (.agg #[(.int .i64 0), (.int .i64 0), (.string ⟨#[]⟩)]) 32 rfl Tryz.underlying22 info47 rfl (by decide) (by omega) u4 acc ⟨2, 0, v⟩ [.int .i64 2, .int .i64 0, .string v] (fun k => b ≤ k) (fun _ => False) rfl rfl ?aP (fun _ hk => hk.elim) (fun k hk => Nat.le_trans HOs.out.le hk) HRt.out HOs.out.bel HOs.out.bel.size HAL.out ?_; (case aP => exact k47_mkM _ _ _ ⟨2, 0, v⟩); intro v9 w9 hR9 hB9 hG9 _; have HR9 := Aside0.mk hR9; have HB9 := Aside0.mk hB9; have HG9 := Aside0.mk hG9; clear hR9 hB9 hG9)
        have HO9 := Aside0.mk (show Oq w0 w9 b g _ _ from HOs.out.kept2 (S2 := fun k => u4.ownBlock = some k) ⟨HG9.out.size, fun i hi hn => HG9.out.block i hi (fun he => hn he.symm)⟩ (fun k hk => HRt.out.1 k hk) HB9.out)
        go_roundw
        case rel => exact ⟨m, _, _, _, by first | rfl | (rw [List.length_append, List.length_singleton]; go_num), by rw [List.length_append, List.length_singleton]; omega, HX2, HO9, HR9⟩
        case measure => simp [intOf]; omega
      by_cases t3 : t = 3
      · subst t3
        obtain rfl : kz = 3 := hkz.symm
        have d1 : ((3 : Int) == 1) = false := rfl
        have d2 : ((3 : Int) == 2) = false := rfl
        have d3 : ((3 : Int) == 3) = true := rfl
        obtain ⟨v, x2, e2, h7⟩ : ∃ v x e, rByte x1 e1 = (v, x, e) := ⟨_, _, _, rfl⟩
        go_wp2_with (fail)
        with_reducible refine (byteZ HOa.out h7).mono ?_
        rintro en w7 ⟨rfl, hO7, hF7⟩
        have HK7 := Aside0.mk (show Blk w7 gv 47 #[.int .i64 3, .int .i64 0, .string ⟨#[]⟩] from blk_kept HK.out hF7.2 hgg)
        have HOs := Aside0.mk (hO7.kept (S2 := fun k => k = gv) (Kept.setCell (S := fun k => k = gv) (p := ⟨gv, 1, none⟩) (Kept.refl w7 _) (.inl rfl) (.int .i64 v)) (fun k hk => by omega) ((Below.refl _ _).setCell (show w0.heap.size ≤ gv by omega) _))
        have HRs := Aside0.mk (Kd.R_far (p := ⟨gv, 1, none⟩) (Kd.R_kept HRa.out hF7.2 (fun k hk h => by omega)) (fun k hk => by show k ≠ gv; omega) (.int .i64 v))
        have HKs := Aside0.mk (show Blk (w7.setCell ⟨gv, 1, none⟩ (.int .i64 v)) gv 47 #[.int .i64 3, .int .i64 v, .string ⟨#[]⟩] from by simpa using HK7.out.set_ 1 (.int .i64 v))
        have z1 : w7.cell? ⟨gv, 1, none⟩ = some (.int .i64 0) := HK7.out.cell 1
        have y1 : w7.frozen? ⟨gv, 1, none⟩ = false := HK7.out.frozen 1
        clear hO7 hF7 HK7 HK HOa HRa k0
        go_upto_region 14 with (fail)
        generalize w7.setCell ⟨gv, 1, none⟩ (.int .i64 v) = ws at HKs HOs HRs ⊢
        have c0 : ws.cell? ⟨gv, 0, none⟩ = some (.int .i64 3) := HKs.out.cell 0
        have c1 : ws.cell? ⟨gv, 1, none⟩ = some (.int .i64 v) := HKs.out.cell 1
        have c2 : ws.cell? ⟨gv, 2, none⟩ = some (.string ⟨#[]⟩) := HKs.out.cell 2
        have hX := HX.out
        rw [gvals_step m acc (.inr rfl) (gval_3 H1.out h7)] at hX
        have HX2 := Aside0.mk hX
        clear hX HX
        have HRt := Aside0.mk (Kd.R_mono (ok' := fun k => b ≤ k) HRs.out (fun k hk => hk.1))
        go_wp2_with ((with_reducible refine gate_builtin (b := .append) (xs := #[.tmp 41, .tmp 43]) rfl ?_); at_builtin; refine Kd.R_append k47 (w0 := w0) w0.heap.size rfl (.tmp 41) (.tmp 43) 22 47 (.agg #[(.int .i64 0), (.int .i64 0), (.string ⟨#[]⟩)]) 32 rfl Tryz.underlying22 info47 rfl (by decide) (by omega) u4 acc ⟨3, v, ⟨#[]⟩⟩ [.int .i64 3, .int .i64 v, .string ⟨#[]⟩] (fun k => b ≤ k) (fun _ => False) rfl rfl ?aP (fun _ hk => hk.elim) (fun k hk => Nat.le_trans HOs.out.le hk) HRt.out HOs.out.bel HOs.out.bel.size HAL.out ?_; (case aP => exact k47_mkM _ _ _ ⟨3, v, ⟨#[]⟩⟩); intro v9 w9 hR9 hB9 hG9 _; have HR9 := Aside0.mk hR9; have HB9 := Aside0.mk hB9; have HG9 := Aside0.mk hG9; clear hR9 hB9 hG9)
        have HO9 := Aside0.mk (show Oq w0 w9 b g _ _ from HOs.out.kept2 (S2 := fun k => u4.ownBlock = some k) ⟨HG9.out.size, fun i hi hn => HG9.out.block i hi (fun he => hn he.symm)⟩ (fun k hk => HRt.out.1 k hk) HB9.out)
        go_roundw
        case rel => exact ⟨m, _, _, _, by first | rfl | (rw [List.length_append, List.length_singleton]; go_num), by rw [List.length_append, List.length_singleton]; omega, HX2, HO9, HR9⟩
        case measure => simp [intOf]; omega
      subst hkz
      have d1 : (t == 1) = false := by simp [t1]
      have d2 : (t == 2) = false := by simp [t2]
      have d3 : (t == 3) = false := by simp [t3]
      clear k0
      have k0 : wa.cell? ⟨gv, 0, none⟩ = some (.int .i64 t) := HK.out.cell 0
      go_upto_region 14 with (fail)
      have HKs := HK
      have HOs := HOa
      have HRs := HRa
      clear HK HOa HRa k0
      have c0 : wa.cell? ⟨gv, 0, none⟩ = some (.int .i64 t) := HKs.out.cell 0
      have c1 : wa.cell? ⟨gv, 1, none⟩ = some (.int .i64 0) := HKs.out.cell 1
      have c2 : wa.cell? ⟨gv, 2, none⟩ = some (.string ⟨#[]⟩) := HKs.out.cell 2
      have hX := HX.out
      rw [gvals_step m acc (.inr rfl) (gval_4 H1.out t1 t2 t3)] at hX
      have HX2 := Aside0.mk hX
      clear hX HX
      have HRt := Aside0.mk (Kd.R_mono (ok' := fun k => b ≤ k) HRs.out (fun k hk => hk.1))
      go_wp2_with ((with_reducible refine gate_builtin (b := .append) (xs := #[.tmp 41, .tmp 43]) rfl ?_); at_builtin; refine Kd.R_append k47 (w0 := w0) w0.heap.size rfl (.tmp 41) (.tmp 43) 22 47 (.agg #[(.int .i64 0), (.int .i64 0), (.string ⟨#[]⟩)]) 32 rfl Tryz.underlying22 info47 rfl (by decide) (by omega) u4 acc ⟨t, 0, ⟨#[]⟩⟩ [.int .i64 t, .int .i64 0, .string ⟨#[]⟩] (fun k => b ≤ k) (fun _ => False) rfl rfl ?aP (fun _ hk => hk.elim) (fun k hk => Nat.le_trans HOs.out.le hk) HRt.out HOs.out.bel HOs.out.bel.size HAL.out ?_; (case aP => exact k47_mkM _ _ _ ⟨t, 0, ⟨#[]⟩⟩); intro v9 w9 hR9 hB9 hG9 _; have HR9 := Aside0.mk hR9; have HB9 := Aside0.mk hB9; have HG9 := Aside0.mk hG9; clear hR9 hB9 hG9)
      have HO9 := Aside0.mk (show Oq w0 w9 b g _ _ from HOs.out.kept2 (S2 := fun k => u4.ownBlock = some k) ⟨HG9.out.size, fun i hi hn => HG9.out.block i hi (fun he => hn he.symm)⟩ (fun k hk => HRt.out.1 k hk) HB9.out)
      go_roundw
      case rel => exact ⟨m, _, _, _, by first | rfl | (rw [List.length_append, List.length_singleton]; go_num), by rw [List.length_append, List.length_singleton]; omega, HX2, HO9, HR9⟩
      case measure => simp [intOf]; omega


end Go.Proofs.YtblaibigjhlblaaGreatDoor.Q
end

section
-- written by hprint.py (a program of these sessions) out of the translation; Lean checks it
namespace Go.Proofs.YtblaibigjhlblaaGreatDoor.Q
open Go.RowKit Go.Proofs.YtblaibigjhlblaaGreatDoorW.Hb Go.Proofs.YtblaibigjhlblaaGreatDoorW.PrintWords Go.Proofs.YtblaibigjhlblaaGreatDoorW.PrintLast Go.Proofs.YtblaibigjhlblaaGreatDoorW.PrintMore
attribute [local go_sem] max2_int min2_int max_two min_two max_three min_three max_four min_four   -- for this text's walks alone
set_option linter.unusedVariables false
set_option linter.unusedSimpArgs false

/-! ### weighhouseref02_Get: function 10, by hand -/
def weighhouseref02_Get.f (k : Nat) (l0 : List Int) : Option (List S47 × Int) := if (l0.all isBb && decide (l0.length ≤ 140737488355328)) = true then (if rDone (getV false l0).2.1 (getV false l0).2.2 = 0 then (weighhouseref02_All.f k (getV false l0).1).bind fun q => some (if q = true then ((getV false l0).1, 0) else ([], 21)) else some ([], 21)) else none
theorem weighhouseref02_Get.mono : ∀ a0 k, LeO (weighhouseref02_Get.f k a0) (weighhouseref02_Get.f (k + 1) a0) := fun a0 k => by
  unfold weighhouseref02_Get.f
  split
  · split
    · exact LeO.bind (weighhouseref02_All.mono _ _) (fun _ => LeO.refl _)
    · exact LeO.refl _
  · exact LeO.refl _
set_option maxRecDepth 100000 in
set_option maxHeartbeats 8000000 in
theorem weighhouseref02_Get.calls (k : Nat) (A0 : Option Addr) (c0 : Nat) (l0 : List Int) (r1 : List S47) (r2 : Int) (w0 : World) (hr0 : Kd.C (Kd.int .u8) w0 A0 l0.length l0) (hc0 : l0.length ≤ c0) (h : weighhouseref02_Get.f k l0 = some (r1, r2)) :
    Calls Tryz.prog 10 #[.slice A0 l0.length c0] w0 fun e w' => ∃ v0_ : Value, e = .returned (.tuple #[v0_, .int .i64 r2]) ∧ Kd.R k47 47 w' w0.heap.size (fun _ => True) v0_ r1 ∧ Below w0.heap.size w0 w' := by
  unfold weighhouseref02_Get.f at h
  split at h
  rotate_left
  · cases h
  rename_i hall
  simp only [Bool.and_eq_true, decide_eq_true_eq] at hall
  have HBB := Aside0.mk (isBb_all hall.1)
  have hll := hall.2
  have hm0 : l0.length ≤ 9223372036854775807 := hr0.2.1
  obtain ⟨v1, x1, e1, h1⟩ : ∃ v x e, rByte l0 0 = (v, x, e) := ⟨_, _, _, rfl⟩
  have hv1 := rByte_in (isBb_all hall.1) h1
  obtain ⟨n, rfl⟩ := Int.eq_ofNat_of_zero_le hv1.1
  have hn255 : n ≤ 255 := by omega
  rw [getV_is h1] at h
  obtain ⟨acc, ys, ee, hG⟩ : ∃ a b c, gvals false n x1 e1 [] = (a, b, c) := ⟨_, _, _, rfl⟩
  rw [hG] at h
  have HG := Aside0.mk hG
  have H1' := Aside0.mk h1
  have HR0 := Aside0.mk hr0
  clear hG h1 hr0 hall hv1
  go_enter Tryz.func10, Tryz.ntmps10
  go_wp2_with (fail)
  with_reducible refine (weighhouseref01_NewReader.calls A0 c0 l0 w0 HR0.out hc0 (by omega) HBB.out).mono ?_
  rintro en w2 ⟨g, rfl, hd2, hg2, hB2⟩
  have HO2 := Aside0.mk (show Oq w0 w2 w2.heap.size g l0 0 from ⟨_, _, 0, hd2, by simp, fun k hk => hk, Nat.le_refl _, hB2, (by obtain ⟨_, _, _, _, q, _⟩ := hd2; exact q)⟩)
  clear hd2 hg2 hB2
  generalize w2.heap.size = b at HO2
  go_wp2_with (fail)
  with_reducible refine (weighhouseref02_From.calls w0 w2 b g l0 0 acc ys ee n x1 e1 HO2.out H1'.out hn255 HG.out).mono ?_
  rintro en w3 ⟨v3, rfl, hR3, hO3⟩
  have HO := Aside0.mk hO3
  obtain ⟨A5, c5, rfl, hc5, hC5⟩ := Kd.R_reads hR3
  have HR := Aside0.mk hR3
  have HC := Aside0.mk hC5
  clear hR3 hO3 hC5 HO2 H1' HG HR0 HBB
  go_wp2_with (fail)
  with_reducible refine (doneZ HO.out).mono ?_
  rintro en w4 ⟨rfl, hb4⟩
  have HB4 := Aside0.mk hb4
  have HBl := Aside0.mk (HO.out.bel.trans (hb4.mono HO.out.bel.size))
  clear hb4
  by_cases hdn : rDone ys ee = 0
  · rw [if_pos hdn] at h
    obtain ⟨q, hq, h⟩ := Option.bind_eq_some_iff.1 h
    have HH := Aside0.mk (Option.some.inj h)
    have HQ := Aside0.mk hq
    have hd1 : (rDone ys ee == 0) = true := by simp [hdn]
    have hd2 : (rDone ys ee != 0) = false := by simp [hdn]
    clear hq h
    go_wp2_with (fail)
    with_reducible refine (weighhouseref02_All.calls k A5 c5 acc q _ (Kd.C_below HC.out HB4.out) hc5 HQ.out).mono ?_
    rintro en w6 ⟨rfl, hb6⟩
    have HB6 := Aside0.mk hb6
    clear hb6
    cases q
    · obtain ⟨rfl, rfl⟩ := Prod.mk.inj (show (([] : List S47), (21 : Int)) = (r1, r2) from HH.out)
      go_wp2_with (fail)
      go_ret2
      exact ⟨_, rfl, Kd.R_nil _ _ _ _ _, HBl.out.trans (HB6.out.mono HBl.out.size)⟩
    · obtain ⟨rfl, rfl⟩ := Prod.mk.inj (show (acc, (0 : Int)) = (r1, r2) from HH.out)
      go_wp2_with (fail)
      go_ret2
      exact ⟨_, rfl, Kd.R_mono (Kd.R_below (Kd.R_below HR.out HB4.out) HB6.out) (fun _ _ => trivial), HBl.out.trans (HB6.out.mono HBl.out.size)⟩
  · rw [if_neg hdn] at h
    obtain ⟨rfl, rfl⟩ := Prod.mk.inj (Option.some.inj h)
    have hd1 : (rDone ys ee == 0) = false := by simp [hdn]
    have hd2 : (rDone ys ee != 0) = true := by simp [hdn]
    clear h
    go_wp2_with (fail)
    go_ret2
    exact ⟨_, rfl, Kd.R_nil _ _ _ _ _, HBl.out⟩


end Go.Proofs.YtblaibigjhlblaaGreatDoor.Q
end

section
-- written by hprint.py (a program of these sessions) out of the translation; Lean checks it
namespace Go.Proofs.YtblaibigjhlblaaGreatDoor.Q
open Go.RowKit Go.Proofs.YtblaibigjhlblaaGreatDoorW.Hb Go.Proofs.YtblaibigjhlblaaGreatDoorW.PrintWords Go.Proofs.YtblaibigjhlblaaGreatDoorW.PrintLast Go.Proofs.YtblaibigjhlblaaGreatDoorW.PrintMore
attribute [local go_sem] max2_int min2_int max_two min_two max_three min_three max_four min_four   -- for this text's walks alone
set_option linter.unusedVariables false
set_option linter.unusedSimpArgs false

/-! ### weighhouselaw02_num: function 11 -/
def weighhouselaw02_num.f (a0 : Int) : Option (Int) := some a0
set_option maxHeartbeats 8000000 in
set_option maxRecDepth 100000 in
theorem weighhouselaw02_num.calls (a0 : Int) (r : Int) (w : World) (h : weighhouselaw02_num.f a0 = some r) :
    Calls Tryz.prog 11 #[.int .i64 a0] w fun e w' => e = .returned (.int .i64 r) ∧ Drawn0 w w' := by
  have H : (some a0) = some r := h
  clear h
  obtain rfl := Option.some.inj H
  go_enter Tryz.func11, Tryz.ntmps11
  go_wp2
  go_ret
  exact ⟨by first | rfl | (simp; done) | (simp [*]; done), by repeat (first | exact Drawn0.refl _ | apply Drawn0.step)⟩

end Go.Proofs.YtblaibigjhlblaaGreatDoor.Q
end

section
-- written by hprint.py (a program of these sessions) out of the translation; Lean checks it
namespace Go.Proofs.YtblaibigjhlblaaGreatDoor.Q
open Go.RowKit Go.Proofs.YtblaibigjhlblaaGreatDoorW.Hb Go.Proofs.YtblaibigjhlblaaGreatDoorW.PrintWords Go.Proofs.YtblaibigjhlblaaGreatDoorW.PrintLast Go.Proofs.YtblaibigjhlblaaGreatDoorW.PrintMore
attribute [local go_sem] max2_int min2_int max_two min_two max_three min_three max_four min_four   -- for this text's walks alone
set_option linter.unusedVariables false
set_option linter.unusedSimpArgs false

/-! ### weighhouselaw02_Same: function 12 -/
def weighhouselaw02_Same.l0 : Nat → List (S47) → List (S47) → Int → Option (Bool)
  | 0, _, _, _ => none
  | k + 1, x0, x1, x5 => if x5 < (x0.length : Int) then (if 0 ≤ x5 then (if x5 < (x1.length : Int) then (if ((rd_T47 x0 x5).f0) = ((rd_T47 x1 x5).f0) then (if ((rd_T47 x0 x5).f1) = ((rd_T47 x1 x5).f1) then (if ((rd_T47 x0 x5).f2).toList = ((rd_T47 x1 x5).f2).toList then (weighhouselaw02_Same.l0 k x0 x1 (wrap64 (x5 + 1))) else (some false)) else (some false)) else (some false)) else (none)) else (none)) else (some true)
def weighhouselaw02_Same.f (k : Nat) (l0 : List (S47)) (l1 : List (S47)) : Option (Bool) := if (l0.length : Int) = (l1.length : Int) then (weighhouselaw02_Same.l0 k l0 l1 0) else (some false)
theorem weighhouselaw02_Same.mono_l : ∀ k, (∀ y0 y1 y2, LeO (weighhouselaw02_Same.l0 k y0 y1 y2) (weighhouselaw02_Same.l0 (k + 1) y0 y1 y2))
  | 0 => fun _ _ _ r h => by simp [weighhouselaw02_Same.l0] at h
  | k + 1 => by
    have ih0 := weighhouselaw02_Same.mono_l k
    · intro y0 y1 y2
      unfold weighhouselaw02_Same.l0
      repeat' first
      | (with_reducible exact ih0 _ _ _)
      | (with_reducible exact LeO.refl _)
      | (with_reducible exact LeO.none _)
      | (with_reducible refine LeO.ite ?_ ?_)
      | (with_reducible refine LeO.bind ?_ (fun _ => ?_))
      | exact ih0 _ _ _
      | exact LeO.none _
      | refine LeO.ite ?_ ?_
      | refine LeO.bind ?_ (fun _ => ?_)
theorem weighhouselaw02_Same.mono : ∀ a0 a1 k, LeO (weighhouselaw02_Same.f k a0 a1) (weighhouselaw02_Same.f (k + 1) a0 a1) := by
  intro a0 a1 k
  have ih0 := weighhouselaw02_Same.mono_l k
  unfold weighhouselaw02_Same.f
  repeat' first
      | (with_reducible exact ih0 _ _ _)
      | (with_reducible exact LeO.refl _)
      | (with_reducible exact LeO.none _)
      | (with_reducible refine LeO.ite ?_ ?_)
      | (with_reducible refine LeO.bind ?_ (fun _ => ?_))
      | exact ih0 _ _ _
      | exact LeO.none _
      | refine LeO.ite ?_ ?_
      | refine LeO.bind ?_ (fun _ => ?_)
set_option maxHeartbeats 8000000 in
set_option maxRecDepth 100000 in
theorem weighhouselaw02_Same.calls (k : Nat) (A0 : Option Addr) (c0 : Nat) (l0 : List (S47)) (A1 : Option Addr) (c1 : Nat) (l1 : List (S47)) (r : Bool) (w : World) (hr0 : Kd.C k47 w A0 l0.length l0) (hc0 : l0.length ≤ c0) (hr1 : Kd.C k47 w A1 l1.length l1) (hc1 : l1.length ≤ c1) (h : weighhouselaw02_Same.f k l0 l1 = some r) :
    Calls Tryz.prog 12 #[.slice A0 l0.length c0, .slice A1 l1.length c1] w fun e w' => e = .returned (.bool r) ∧ Drawn0 w w' := by
  have HR0 := Aside0.mk hr0
  have HC0 := Aside0.mk hc0
  clear hr0 hc0
  have HR1 := Aside0.mk hr1
  have HC1 := Aside0.mk hc1
  clear hr1 hc1
  have H : (if (l0.length : Int) = (l1.length : Int) then (weighhouselaw02_Same.l0 k l0 l1 0) else (some false)) = some r := h
  clear h
  by_cases c3 : (l0.length : Int) = (l1.length : Int)
  · rw [if_pos c3] at H
    have c3b0 : ((l0.length : Int) == (l1.length : Int)) = true := beq_iff_eq.mpr c3
    have c3b1 : ((l0.length : Int) != (l1.length : Int)) = false := bne_eq_false_iff_eq.mpr c3
    have c3b2 : (l0.length == l1.length) = true := by first | simpa using c3 | (simp at c3 ⊢; omega)
    clear c3
    have H' := Aside0.mk H
    clear H
    go_enter Tryz.func12, Tryz.ntmps12
    go_wp2
    repeat (go_quiet (fail); try go_wp2)
    go_loopg [5] k (fun kq v5 w' => ∃ (x5_1 : Int), v5 = .int .i64 x5_1 ∧ Aside0 (weighhouselaw02_Same.l0 kq l0 l1 x5_1 = some r) ∧ Aside0 (kq ≤ k) ∧ Drawn0 w w')
    case atStart => exact ⟨(0), (by first | rfl | (simp; done) | (simp [*]; done)), H', ⟨Nat.le_refl _⟩, by repeat (first | exact Drawn0.refl _ | apply Drawn0.step)⟩
    case round =>
      clear H'
      try clear c1
      try clear p2
      try clear c3
      try clear c3b0
      try clear c3b1
      try clear c3b2
      obtain ⟨x5_1, rfl, HA, HK1, ⟨m1, rfl⟩⟩ := hrel
      cases gk with
      | zero => exact absurd HA.out (by simp [weighhouselaw02_Same.l0])
      | succ k1 =>
        have H := HA.out
        clear HA
        simp only [weighhouselaw02_Same.l0] at H
        by_cases c4 : x5_1 < (l0.length : Int)
        · rw [if_pos c4] at H
          have c4b0 : decide (x5_1 < (l0.length : Int)) = true := decide_eq_true c4
          clear c4
          by_cases c5 : 0 ≤ x5_1
          · rw [if_pos c5] at H
            have c5b0 : decide (0 ≤ x5_1) = true := decide_eq_true c5
            clear c5
            by_cases c6 : x5_1 < (l1.length : Int)
            · rw [if_pos c6] at H
              have c6b0 : decide (x5_1 < (l1.length : Int)) = true := decide_eq_true c6
              clear c6
              by_cases c7 : ((rd_T47 l0 x5_1).f0) = ((rd_T47 l1 x5_1).f0)
              · rw [if_pos c7] at H
                have c7b0 : (((rd_T47 l0 x5_1).f0) == ((rd_T47 l1 x5_1).f0)) = true := beq_iff_eq.mpr c7
                have c7b1 : (((rd_T47 l0 x5_1).f0) != ((rd_T47 l1 x5_1).f0)) = false := bne_eq_false_iff_eq.mpr c7
                clear c7
                by_cases c8 : ((rd_T47 l0 x5_1).f1) = ((rd_T47 l1 x5_1).f1)
                · rw [if_pos c8] at H
                  have c8b0 : (((rd_T47 l0 x5_1).f1) == ((rd_T47 l1 x5_1).f1)) = true := beq_iff_eq.mpr c8
                  have c8b1 : (((rd_T47 l0 x5_1).f1) != ((rd_T47 l1 x5_1).f1)) = false := bne_eq_false_iff_eq.mpr c8
                  clear c8
                  by_cases c9 : ((rd_T47 l0 x5_1).f2).toList = ((rd_T47 l1 x5_1).f2).toList
                  · rw [if_pos c9] at H
                    have c9b0 : (((rd_T47 l0 x5_1).f2).toList == ((rd_T47 l1 x5_1).f2).toList) = true := beq_iff_eq.mpr c9
                    have c9b1 : (((rd_T47 l0 x5_1).f2).toList != ((rd_T47 l1 x5_1).f2).toList) = false := bne_eq_false_iff_eq.mpr c9
                    clear c9
                    have H' := Aside0.mk H
                    clear H
                    have p184 : 0 ≤ (x5_1 : Int) := of_decide_eq_true (by first | (with_reducible assumption) | assumption)
                    have q184 : x5_1 < (l0.length : Int) := of_decide_eq_true (by first | (with_reducible assumption) | assumption)
                    obtain ⟨ad184, e184, hx184_0, hx184_1, hx184_2⟩ := at_T47 HR0.out x5_1 p184 q184
                    cases e184
                    replace p184 := eq_true p184
                    replace q184 := eq_true q184
                    have p185 : 0 ≤ (x5_1 : Int) := of_decide_eq_true (by first | (with_reducible assumption) | assumption)
                    have q185 : x5_1 < (l1.length : Int) := of_decide_eq_true (by first | (with_reducible assumption) | assumption)
                    obtain ⟨ad185, e185, hx185_0, hx185_1, hx185_2⟩ := at_T47 HR1.out x5_1 p185 q185
                    cases e185
                    replace p185 := eq_true p185
                    replace q185 := eq_true q185
                    have p186 : 0 ≤ (x5_1 : Int) := of_decide_eq_true (by first | (with_reducible assumption) | assumption)
                    have q186 : x5_1 < (l0.length : Int) := of_decide_eq_true (by first | (with_reducible assumption) | assumption)
                    obtain ⟨ad186, e186, hx186_0, hx186_1, hx186_2⟩ := at_T47 HR0.out x5_1 p186 q186
                    obtain rfl : ad184 = ad186 := (by injection e186)
                    replace p186 := eq_true p186
                    replace q186 := eq_true q186
                    have p187 : 0 ≤ (x5_1 : Int) := of_decide_eq_true (by first | (with_reducible assumption) | assumption)
                    have q187 : x5_1 < (l1.length : Int) := of_decide_eq_true (by first | (with_reducible assumption) | assumption)
                    obtain ⟨ad187, e187, hx187_0, hx187_1, hx187_2⟩ := at_T47 HR1.out x5_1 p187 q187
                    obtain rfl : ad185 = ad187 := (by injection e187)
                    replace p187 := eq_true p187
                    replace q187 := eq_true q187
                    have p188 : 0 ≤ (x5_1 : Int) := of_decide_eq_true (by first | (with_reducible assumption) | assumption)
                    have q188 : x5_1 < (l0.length : Int) := of_decide_eq_true (by first | (with_reducible assumption) | assumption)
                    obtain ⟨ad188, e188, hx188_0, hx188_1, hx188_2⟩ := at_T47 HR0.out x5_1 p188 q188
                    obtain rfl : ad184 = ad188 := (by injection e188)
                    replace p188 := eq_true p188
                    replace q188 := eq_true q188
                    have p189 : 0 ≤ (x5_1 : Int) := of_decide_eq_true (by first | (with_reducible assumption) | assumption)
                    have q189 : x5_1 < (l1.length : Int) := of_decide_eq_true (by first | (with_reducible assumption) | assumption)
                    obtain ⟨ad189, e189, hx189_0, hx189_1, hx189_2⟩ := at_T47 HR1.out x5_1 p189 q189
                    obtain rfl : ad185 = ad189 := (by injection e189)
                    replace p189 := eq_true p189
                    replace q189 := eq_true q189
                    go_wp2
                    repeat (go_quiet (fail); try go_wp2)
                    go_roundg k1
                    case measure => have := HK1.out; omega
                    case rel => exact ⟨(wrap64 (x5_1 + 1)), (by first | rfl | (simp; done) | (simp [*]; done)), H', ⟨by have := HK1.out; omega⟩, by repeat (first | exact Drawn0.refl _ | apply Drawn0.step)⟩
                  · rw [if_neg c9] at H
                    have c9b0 : (((rd_T47 l0 x5_1).f2).toList == ((rd_T47 l1 x5_1).f2).toList) = false := beq_eq_false_iff_ne.mpr c9
                    have c9b1 : (((rd_T47 l0 x5_1).f2).toList != ((rd_T47 l1 x5_1).f2).toList) = true := bne_iff_ne.mpr c9
                    obtain rfl := Option.some.inj H
                    have p184 : 0 ≤ (x5_1 : Int) := of_decide_eq_true (by first | (with_reducible assumption) | assumption)
                    have q184 : x5_1 < (l0.length : Int) := of_decide_eq_true (by first | (with_reducible assumption) | assumption)
                    obtain ⟨ad184, e184, hx184_0, hx184_1, hx184_2⟩ := at_T47 HR0.out x5_1 p184 q184
                    cases e184
                    replace p184 := eq_true p184
                    replace q184 := eq_true q184
                    have p185 : 0 ≤ (x5_1 : Int) := of_decide_eq_true (by first | (with_reducible assumption) | assumption)
                    have q185 : x5_1 < (l1.length : Int) := of_decide_eq_true (by first | (with_reducible assumption) | assumption)
                    obtain ⟨ad185, e185, hx185_0, hx185_1, hx185_2⟩ := at_T47 HR1.out x5_1 p185 q185
                    cases e185
                    replace p185 := eq_true p185
                    replace q185 := eq_true q185
                    have p186 : 0 ≤ (x5_1 : Int) := of_decide_eq_true (by first | (with_reducible assumption) | assumption)
                    have q186 : x5_1 < (l0.length : Int) := of_decide_eq_true (by first | (with_reducible assumption) | assumption)
                    obtain ⟨ad186, e186, hx186_0, hx186_1, hx186_2⟩ := at_T47 HR0.out x5_1 p186 q186
                    obtain rfl : ad184 = ad186 := (by injection e186)
                    replace p186 := eq_true p186
                    replace q186 := eq_true q186
                    have p187 : 0 ≤ (x5_1 : Int) := of_decide_eq_true (by first | (with_reducible assumption) | assumption)
                    have q187 : x5_1 < (l1.length : Int) := of_decide_eq_true (by first | (with_reducible assumption) | assumption)
                    obtain ⟨ad187, e187, hx187_0, hx187_1, hx187_2⟩ := at_T47 HR1.out x5_1 p187 q187
                    obtain rfl : ad185 = ad187 := (by injection e187)
                    replace p187 := eq_true p187
                    replace q187 := eq_true q187
                    have p188 : 0 ≤ (x5_1 : Int) := of_decide_eq_true (by first | (with_reducible assumption) | assumption)
                    have q188 : x5_1 < (l0.length : Int) := of_decide_eq_true (by first | (with_reducible assumption) | assumption)
                    obtain ⟨ad188, e188, hx188_0, hx188_1, hx188_2⟩ := at_T47 HR0.out x5_1 p188 q188
                    obtain rfl : ad184 = ad188 := (by injection e188)
                    replace p188 := eq_true p188
                    replace q188 := eq_true q188
                    have p189 : 0 ≤ (x5_1 : Int) := of_decide_eq_true (by first | (with_reducible assumption) | assumption)
                    have q189 : x5_1 < (l1.length : Int) := of_decide_eq_true (by first | (with_reducible assumption) | assumption)
                    obtain ⟨ad189, e189, hx189_0, hx189_1, hx189_2⟩ := at_T47 HR1.out x5_1 p189 q189
                    obtain rfl : ad185 = ad189 := (by injection e189)
                    replace p189 := eq_true p189
                    replace q189 := eq_true q189
                    go_wp2
                    repeat (go_quiet (fail); try go_wp2)
                    go_ret
                    exact ⟨by first | rfl | (simp; done) | (simp [*]; done), by repeat (first | exact Drawn0.refl _ | apply Drawn0.step)⟩
                · rw [if_neg c8] at H
                  have c8b0 : (((rd_T47 l0 x5_1).f1) == ((rd_T47 l1 x5_1).f1)) = false := beq_eq_false_iff_ne.mpr c8
                  have c8b1 : (((rd_T47 l0 x5_1).f1) != ((rd_T47 l1 x5_1).f1)) = true := bne_iff_ne.mpr c8
                  obtain rfl := Option.some.inj H
                  have p184 : 0 ≤ (x5_1 : Int) := of_decide_eq_true (by first | (with_reducible assumption) | assumption)
                  have q184 : x5_1 < (l0.length : Int) := of_decide_eq_true (by first | (with_reducible assumption) | assumption)
                  obtain ⟨ad184, e184, hx184_0, hx184_1, hx184_2⟩ := at_T47 HR0.out x5_1 p184 q184
                  cases e184
                  replace p184 := eq_true p184
                  replace q184 := eq_true q184
                  have p185 : 0 ≤ (x5_1 : Int) := of_decide_eq_true (by first | (with_reducible assumption) | assumption)
                  have q185 : x5_1 < (l1.length : Int) := of_decide_eq_true (by first | (with_reducible assumption) | assumption)
                  obtain ⟨ad185, e185, hx185_0, hx185_1, hx185_2⟩ := at_T47 HR1.out x5_1 p185 q185
                  cases e185
                  replace p185 := eq_true p185
                  replace q185 := eq_true q185
                  have p186 : 0 ≤ (x5_1 : Int) := of_decide_eq_true (by first | (with_reducible assumption) | assumption)
                  have q186 : x5_1 < (l0.length : Int) := of_decide_eq_true (by first | (with_reducible assumption) | assumption)
                  obtain ⟨ad186, e186, hx186_0, hx186_1, hx186_2⟩ := at_T47 HR0.out x5_1 p186 q186
                  obtain rfl : ad184 = ad186 := (by injection e186)
                  replace p186 := eq_true p186
                  replace q186 := eq_true q186
                  have p187 : 0 ≤ (x5_1 : Int) := of_decide_eq_true (by first | (with_reducible assumption) | assumption)
                  have q187 : x5_1 < (l1.length : Int) := of_decide_eq_true (by first | (with_reducible assumption) | assumption)
                  obtain ⟨ad187, e187, hx187_0, hx187_1, hx187_2⟩ := at_T47 HR1.out x5_1 p187 q187
                  obtain rfl : ad185 = ad187 := (by injection e187)
                  replace p187 := eq_true p187
                  replace q187 := eq_true q187
                  go_wp2
                  repeat (go_quiet (fail); try go_wp2)
                  go_ret
                  exact ⟨by first | rfl | (simp; done) | (simp [*]; done), by repeat (first | exact Drawn0.refl _ | apply Drawn0.step)⟩
              · rw [if_neg c7] at H
                have c7b0 : (((rd_T47 l0 x5_1).f0) == ((rd_T47 l1 x5_1).f0)) = false := beq_eq_false_iff_ne.mpr c7
                have c7b1 : (((rd_T47 l0 x5_1).f0) != ((rd_T47 l1 x5_1).f0)) = true := bne_iff_ne.mpr c7
                obtain rfl := Option.some.inj H
                have p184 : 0 ≤ (x5_1 : Int) := of_decide_eq_true (by first | (with_reducible assumption) | assumption)
                have q184 : x5_1 < (l0.length : Int) := of_decide_eq_true (by first | (with_reducible assumption) | assumption)
                obtain ⟨ad184, e184, hx184_0, hx184_1, hx184_2⟩ := at_T47 HR0.out x5_1 p184 q184
                cases e184
                replace p184 := eq_true p184
                replace q184 := eq_true q184
                have p185 : 0 ≤ (x5_1 : Int) := of_decide_eq_true (by first | (with_reducible assumption) | assumption)
                have q185 : x5_1 < (l1.length : Int) := of_decide_eq_true (by first | (with_reducible assumption) | assumption)
                obtain ⟨ad185, e185, hx185_0, hx185_1, hx185_2⟩ := at_T47 HR1.out x5_1 p185 q185
                cases e185
                replace p185 := eq_true p185
                replace q185 := eq_true q185
                go_wp2
                repeat (go_quiet (fail); try go_wp2)
                go_ret
                exact ⟨by first | rfl | (simp; done) | (simp [*]; done), by repeat (first | exact Drawn0.refl _ | apply Drawn0.step)⟩
            · rw [if_neg c6] at H
              exact absurd H (by simp)
          · rw [if_neg c5] at H
            exact absurd H (by simp)
        · rw [if_neg c4] at H
          have c4b0 : decide (x5_1 < (l0.length : Int)) = false := decide_eq_false c4
          clear c4
          obtain rfl := Option.some.inj H
          go_wp2
          repeat (go_quiet (fail); try go_wp2)
          go_ret
          exact ⟨by first | rfl | (simp; done) | (simp [*]; done), by repeat (first | exact Drawn0.refl _ | apply Drawn0.step)⟩
  · rw [if_neg c3] at H
    have c3b0 : ((l0.length : Int) == (l1.length : Int)) = false := beq_eq_false_iff_ne.mpr c3
    have c3b1 : ((l0.length : Int) != (l1.length : Int)) = true := bne_iff_ne.mpr c3
    have c3b2 : (l0.length == l1.length) = false := by first | simpa using c3 | (simp at c3 ⊢; omega)
    obtain rfl := Option.some.inj H
    go_enter Tryz.func12, Tryz.ntmps12
    go_wp2
    repeat (go_quiet (fail); try go_wp2)
    go_ret
    exact ⟨by first | rfl | (simp; done) | (simp [*]; done), by repeat (first | exact Drawn0.refl _ | apply Drawn0.step)⟩

end Go.Proofs.YtblaibigjhlblaaGreatDoor.Q
end

section
-- written by hprint.py (a program of these sessions) out of the translation; Lean checks it
namespace Go.Proofs.YtblaibigjhlblaaGreatDoor.Q
open Go.RowKit Go.Proofs.YtblaibigjhlblaaGreatDoorW.Hb Go.Proofs.YtblaibigjhlblaaGreatDoorW.PrintWords Go.Proofs.YtblaibigjhlblaaGreatDoorW.PrintLast Go.Proofs.YtblaibigjhlblaaGreatDoorW.PrintMore
attribute [local go_sem] max2_int min2_int max_two min_two max_three min_three max_four min_four   -- for this text's walks alone
set_option linter.unusedVariables false
set_option linter.unusedSimpArgs false

/-! ### strings_Builder_WriteByte: function 65, by hand -/
theorem bdC_blocks {w w1 : World} {k : IntKind} {A : Option Addr} {xs : List Int} (h : (Kd.int k).C w A xs.length xs) (hb : ∀ ad, A = some ad → w1.heap[ad.block]? = w.heap[ad.block]?) : (Kd.int k).C w1 A xs.length xs := by
  refine ⟨h.1, h.2.1, fun hp => ?_⟩
  obtain ⟨ad, e, hc⟩ := h.2.2 hp
  refine ⟨ad, e, fun j p hj => ?_⟩
  obtain ⟨cs, h1, h2, h3⟩ := hc j p hj
  refine ⟨cs, h1, h2, fun i u hu => ?_⟩
  have hbl : (ad.add (j * (Kd.int k).sz + i)).block = ad.block := by unfold Addr.add; split <;> rfl
  rw [← h3 i u hu]
  exact World.cell?_of_block (by rw [hbl]; exact hb ad e)
/-- A Builder that has been written to: its own blocks are S. -/
def Bd (w : World) (S : Nat → Prop) (g : Nat) (l : List Int) : Prop := ∃ v, Blk w g 98 #[.pointer (some ⟨g, 0, none⟩), v] ∧ S g ∧ (Kd.int .u8).R 5 w 0 (fun k => S k ∧ k ≠ g) v l
def BdS (S : Nat → Prop) (w w' : World) (k : Nat) : Prop := S k ∨ w.heap.size ≤ k ∧ k < w'.heap.size
set_option maxRecDepth 100000 in
set_option maxHeartbeats 1000000 in
theorem strings_Builder_WriteByte.calls (S : Nat → Prop) (g : Nat) (l : List Int) (c : Int) (w : World) (hW : Bd w S g l) (hl : l.length + 1 ≤ 140737488355328) :
    Calls Tryz.prog 65 #[.pointer (some ⟨g, 0, none⟩), .int .u8 c] w fun e w' => e = .returned .nilIface ∧ Bd w' (BdS S w w') g (l ++ [c]) ∧ Below 0 w w' ∧ Kept w w' S := by
  obtain ⟨v, hb, hS, hR⟩ := hW
  obtain ⟨Av, cv, rfl, hcv, _⟩ := Kd.R_reads hR
  have HB := Aside0.mk hb
  have HR := Aside0.mk (Kd.R_mono (ok' := fun k => (S k ∨ w.heap.size ≤ k) ∧ k ≠ g) hR (fun k hk => ⟨.inl hk.1, hk.2⟩))
  have hg := hb.lt
  have h0 : w.cell? ⟨g, 0, none⟩ = some (.pointer (some ⟨g, 0, none⟩)) := hb.cell 0
  have h1 : w.cell? ⟨g, 1, none⟩ = some (.slice Av l.length cv) := hb.cell 1
  have f1 : w.frozen? ⟨g, 1, none⟩ = false := hb.frozen 1
  have HL := Aside0.mk (show (l.length + 1) * 1 ≤ 140737488355328 by omega)
  have HRa := Aside0.mk (Kd.R_alloc HR.out (.cells #[.int .u8 c] 5))
  have HBa := Aside0.mk ((Below.refl 0 w).alloc (Nat.zero_le _) (.cells #[.int .u8 c] 5))
  have HCC := Aside0.mk (show Calls Tryz.prog 80 #[.pointer (some ⟨g, 0, none⟩)] w fun e w' => e = .returned (.tuple #[]) ∧ w' = w from Go.Proofs.Any.Builder_copyCheck_used Tryz.lays240 Tryz.Builder_X72_240 g w h0)
  clear hb hR hl
  go_enter Tryz.func65, Tryz.ntmps65
  go_wp2_with (first | ((with_reducible refine gate_builtin (b := .append) (xs := #[.tmp 11, .tmp 13]) rfl ?_); at_builtin; refine Kd.R_append (Kd.int .u8) (w0 := w) (W := w) 0 rfl (.tmp 11) (.tmp 13) 23 5 (.int .u8 0) 1 rfl Tryz.underlying23 info5 rfl (by decide) (by omega) (.slice Av l.length cv) l c [.int .u8 c] (fun k => (S k ∨ w.heap.size ≤ k) ∧ k ≠ g) (fun _ => False) rfl rfl rfl (fun _ hk => hk.elim) (fun k hk => ⟨.inr hk, by omega⟩) HR.out (Below.refl 0 w) (Nat.zero_le _) HL.out ?_; intro v3 w3 hR3 hB3 hG3 hA3; obtain ⟨A3, c3, rfl⟩ := Kd.R_slice hR3; have hgv : some g ≠ (Value.slice Av l.length cv).ownBlock := (fun he => (HR.out.1 g he.symm).2 rfl); have hb3 : Blk w3 g 98 #[.pointer (some ⟨g, 0, none⟩), .slice Av l.length cv] := (hG3.block g hg hgv).trans HB.out; have h3 : w3.cell? ⟨g, 1, none⟩ = some (.slice Av l.length cv) := hb3.cell 1; have f3 : w3.frozen? ⟨g, 1, none⟩ = false := hb3.frozen 1; have HR3 := Aside0.mk hR3; have HB3 := Aside0.mk hb3; have HD3 := Aside0.mk hB3; have HG3 := Aside0.mk hG3; clear hR3 hB3 hG3 hA3 hb3) | (go_at_call 80; (with_reducible refine HCC.out.mono ?_); rintro e w9 ⟨rfl, hw9⟩; subst w9))
  go_ret
  refine ⟨rfl, ⟨.slice A3 (l ++ [c]).length c3, by simpa using HB3.out.set_ 1 (.slice A3 (l ++ [c]).length c3), .inl hS, ?_⟩, HD3.out.setCell (Nat.zero_le _) _, Kept.setCell (Kept.of_grown HG3.out (Kept.refl w S) (fun k hk => ?_)) (.inl hS) _⟩
  · refine Kd.R_far (p := ⟨g, 1, none⟩) ?_ (fun k hk => hk.2) _
    refine Kd.R_mono (Kd.R_bound HR3.out) (fun k hk => ⟨hk.1.1.elim .inl (fun h => .inr ⟨h, ?_⟩), hk.1.2⟩)
    simpa [World.setCell] using hk.2.2.1
  · exact (HR.out.1 k hk).1
theorem Bd.of {w : World} {B b : Nat} {l : List Int} (h : Lib.BuilderAt 98 5 B b (.pointer (some ⟨b, 0, none⟩)) (l.map (Value.int .u8)) w) : ∃ S, Bd w S b l ∧ ∀ k, S k → B ≤ k ∧ k < w.heap.size := by
  have hlt := h.lt
  obtain ⟨hB, v, hb, ho, hne⟩ := h
  rw [List.length_map] at ho
  have hR : (Kd.int .u8).R 5 w B (fun k => v.ownBlock = some k) v l := Kd.R_of_own ho (fun _ hk => hk)
  refine ⟨fun k => k = b ∨ v.ownBlock = some k, ⟨v, hb, .inl rfl, Kd.R_lower (Kd.R_mono hR (fun k hk => ⟨.inr hk, fun he => hne (by rw [hk, he])⟩)) (Nat.zero_le _)⟩, fun k hk => ?_⟩
  rcases hk with rfl | hk
  · exact ⟨hB, hlt⟩
  · exact ⟨Kd.R_base hR k hk, Kd.R_lt hR k hk⟩
theorem Bd.to {w : World} {S : Nat → Prop} {B g : Nat} {l : List Int} (h : Bd w S g l) (hS : ∀ k, S k → B ≤ k) : Lib.BuilderAt 98 5 B g (.pointer (some ⟨g, 0, none⟩)) (l.map (Value.int .u8)) w := by
  obtain ⟨v, hb, hg, hR⟩ := h
  have ho := Kd.own_of_R hR
  refine ⟨hS g hg, v, hb, ?_, fun he => (hR.1 g he).2 rfl⟩
  rw [List.length_map]
  obtain ⟨hl, h2⟩ := ho
  refine ⟨hl, h2.imp id ?_⟩
  rintro ⟨g', cap, cur, hv, _, hr⟩
  exact ⟨g', cap, cur, hv, hS g' (hR.1 g' (by rw [hv]; rfl)).1, hr⟩


end Go.Proofs.YtblaibigjhlblaaGreatDoor.Q
end

section
-- written by hprint.py (a program of these sessions) out of the translation; Lean checks it
namespace Go.Proofs.YtblaibigjhlblaaGreatDoor.Q
open Go.RowKit Go.Proofs.YtblaibigjhlblaaGreatDoorW.Hb Go.Proofs.YtblaibigjhlblaaGreatDoorW.PrintWords Go.Proofs.YtblaibigjhlblaaGreatDoorW.PrintLast Go.Proofs.YtblaibigjhlblaaGreatDoorW.PrintMore
attribute [local go_sem] max2_int min2_int max_two min_two max_three min_three max_four min_four   -- for this text's walks alone
set_option linter.unusedVariables false
set_option linter.unusedSimpArgs false

/-! ### value_text: function 40, by hand -/
def hexC (n : Nat) : UInt8 := if n < 10 then (48 + n).toUInt8 else (87 + n).toUInt8
def hexU (l : List UInt8) : List UInt8 := l.flatMap (fun c => [hexC (c.toNat / 16), hexC (c.toNat % 16)])
def nat8 (l : List UInt8) : List Int := l.map fun b => (b.toNat : Int)
def textU (b : ByteArray) : List UInt8 := 120 :: 39 :: (hexU b.data.toList ++ [39])
theorem Bd.below {w w' : World} {S : Nat → Prop} {g : Nat} {l : List Int} (h : Bd w S g l) (hb : Below w.heap.size w w') : Bd w' S g l := by
  obtain ⟨v, h1, h2, h3⟩ := h
  exact ⟨v, h1.after hb, h2, Kd.R_below h3 hb⟩
theorem hexAt (n : Nat) (h : n < 16) : (({ data := #[48, 49, 50, 51, 52, 53, 54, 55, 56, 57, 97, 98, 99, 100, 101, 102] } : ByteArray)[n]'(by show n < 16; exact h)).toNat = (hexC n).toNat := by
  match n, h with
  | 0, _ => rfl
  | 1, _ => rfl
  | 2, _ => rfl
  | 3, _ => rfl
  | 4, _ => rfl
  | 5, _ => rfl
  | 6, _ => rfl
  | 7, _ => rfl
  | 8, _ => rfl
  | 9, _ => rfl
  | 10, _ => rfl
  | 11, _ => rfl
  | 12, _ => rfl
  | 13, _ => rfl
  | 14, _ => rfl
  | 15, _ => rfl
  | n + 16, h => exact absurd h (by omega)
theorem bdBelow {w w' : World} {S : Nat → Prop} {B : Nat} (hb : Below 0 w w') (hk : Kept w w' S) (hB : B ≤ w.heap.size) (hS : ∀ k, S k → B ≤ k) : Below B w w' :=
  ⟨hb.os, hb.tape, hb.output, hb.size, fun k hlt => hk.2 k (by omega) (fun h => by have := hS k h; omega)⟩
theorem hexU_len (l : List UInt8) : (hexU l).length = 2 * l.length := by
  unfold hexU
  induction l with
  | nil => rfl
  | cons a t ih => rw [List.flatMap_cons, List.length_append, ih, List.length_cons, List.length_cons, List.length_cons, List.length_nil]; omega
def value_text.f (a0 a1 : Int) (a2 : ByteArray) : Option ByteArray := if a0 = 1 then (if -9223372036854775808 ≤ a1 ∧ a1 ≤ 9223372036854775807 then some ⟨(Lib.itoa a1).toArray⟩ else none) else if a0 = 3 then some ⟨(Lib.formatBool (a1 == 1)).toArray⟩ else if a2.size * 2 + 3 ≤ 140737488355328 then some ⟨(textU a2).toArray⟩ else none
set_option maxRecDepth 100000 in
set_option maxHeartbeats 4000000 in
theorem value_text.calls (a0 a1 : Int) (a2 : ByteArray) (r : ByteArray) (w : World) (h : value_text.f a0 a1 a2 = some r) (hV : VarsOk w) :
    Calls Tryz.prog 40 #[.agg #[.int .i64 a0, .int .i64 a1, .string a2]] w fun e w' => e = .returned (.string r) ∧ Below w.heap.size w w' := by
  unfold value_text.f at h
  have HV := Aside0.mk hV
  clear hV
  have HB1 := Aside0.mk ((Below.refl w.heap.size w).alloc (Nat.le_refl _) (.cells #[.int .i64 a0, .int .i64 a1, .string a2] 47))
  by_cases h1 : a0 = 1
  · rw [if_pos h1] at h
    by_cases hr : -9223372036854775808 ≤ a1 ∧ a1 ≤ 9223372036854775807
    · rw [if_pos hr] at h
      obtain rfl := Option.some.inj h
      subst h1
      have HI := Aside0.mk (itoaV a1 hr.1 hr.2 _ (HV.out.below HB1.out))
      clear h hr
      go_enter Tryz.func40, Tryz.ntmps40
      go_wp2_with (go_at_call 62; (with_reducible refine HI.out.mono ?_); rintro e w2 ⟨rfl, hb⟩; have HB2 := Aside0.mk hb; clear hb)
      go_ret
      exact ⟨rfl, HB1.out.trans (HB2.out.mono (by simp))⟩
    · rw [if_neg hr] at h
      cases h
  rw [if_neg h1] at h
  have d1 : (a0 == 1) = false := by simpa using h1
  by_cases h3 : a0 = 3
  · rw [if_pos h3] at h
    obtain rfl := Option.some.inj h
    subst h3
    obtain ⟨b, hb⟩ : ∃ b, (a1 == 1) = b := ⟨_, rfl⟩
    have HI := Aside0.mk (Tryz.strconv_FormatBool b (w.alloc (.cells #[.int .i64 3, .int .i64 a1, .string a2] 47)))
    rw [hb]
    clear h h1
    go_enter Tryz.func40, Tryz.ntmps40
    go_wp2_with (go_at_call 63; (with_reducible refine HI.out.mono ?_); rintro e w2 ⟨rfl, rfl⟩)
    go_ret
    exact ⟨rfl, HB1.out⟩
  rw [if_neg h3] at h
  have d3 : (a0 == 3) = false := by simpa using h3
  by_cases hsz : a2.size * 2 + 3 ≤ 140737488355328
  · rw [if_pos hsz] at h
    obtain rfl := Option.some.inj h
    clear h h1 h3
    obtain ⟨b, hb⟩ : ∃ b, b = bytesOf a2 := ⟨_, rfl⟩
    have hbl : b.length = a2.size := by rw [hb, bytesOf_length]
    have HSZ := Aside0.mk (show b.length * 2 + 3 ≤ 140737488355328 by omega)
    have HBY := Aside0.mk hb
    have hbm : b.length ≤ 9223372036854775807 := by omega
    clear hsz
    obtain ⟨gc, bw, hbw, hbc, kb⟩ : ∃ (gc : World → Nat) (bw : World → World), (∀ W, Below W.heap.size W (bw W)) ∧ (∀ W, (Kd.int .u8).C (bw W) (some ⟨W.heap.size, 0, none⟩) b.length b) ∧ ∀ W, (convert 9 23 (.string a2)).run Tryz.prog W = .ok (.slice (some ⟨W.heap.size, 0, none⟩) b.length (gc W)) (bw W) := by
      refine ⟨fun W => grownCap W a2.size 0 5, fun W => Lib.bytesWorld W 5 a2, fun W => bytes_below (Below.refl _ _) (Nat.le_refl _) _ _, fun W => ?_, fun W => ?_⟩
      · have := bytes_reads W 5 a2 (by omega)
        rw [← hb, ← hbl] at this
        exact Kd.C_of_reads (d := (0 : Int)) (h1 := fun _ => rfl) this
      · rw [hbl]
        exact print_bytes (P := Tryz.prog) 9 23 5 Tryz.underlying9 Tryz.underlying23 Tryz.underlying5 a2 W
    have HBW := Aside0.mk hbw
    have HBC := Aside0.mk hbc
    clear hbw hbc hb hbl
    go_enter Tryz.func40, Tryz.ntmps40
    go_upto_region 7 with (fail)
    obtain ⟨w1, hw1⟩ : ∃ w1, w1 = w.alloc (.cells #[.int .i64 a0, .int .i64 a1, .string a2] 47) := ⟨_, rfl⟩
    have hs1 : w.heap.size + 1 = w1.heap.size := by rw [hw1]; simp
    have kc : w1.cell? ⟨w.heap.size, 2, none⟩ = some (.string a2) := by rw [hw1]; exact (Blk.new w 47 #[.int .i64 a0, .int .i64 a1, .string a2]).cell 2
    rw [← hw1, hs1]
    rw [← hw1] at HB1
    have HC1 := Aside0.mk kc
    have HWS := Aside0.mk (Tryz.Builder_WriteString w1.heap.size w1.heap.size [] ⟨#[120, 39]⟩ _ (Lib.fresh_isBuilder 98 5 w1) (by decide) (by simp))
    clear hw1 hs1 kc
    go_upto_region 8 with (go_at_call 64; (with_reducible refine HWS.out.mono ?_); rintro e w2 ⟨rfl, hb2, hB2⟩; have HB2 := Aside0.mk hB2; have HBD := Aside0.mk (Bd.of (l := nat8 [120, 39]) hb2); clear hb2 hB2)
    clear HWS
    obtain ⟨S2, hS2, hS2b⟩ := HBD.out
    obtain ⟨gb, hgb⟩ : ∃ gb, w1.heap.size = gb := ⟨_, rfl⟩
    rw [hgb] at HB2 hS2 hS2b ⊢
    have HG := Aside0.mk hgb
    have HB1a := HB1.out.alloc HB1.out.size (.cells #[.pointer none, .slice none 0 0] 98)
    have HB12 := Aside0.mk (HB1a.trans (HB2.out.mono (by have := HB1.out.size; omega)))
    have hlt1 : w.heap.size < w1.heap.size := World.block_lt_of_cell? w1 _ HC1.out
    have kc2 : w2.cell? ⟨w.heap.size, 2, none⟩ = some (.string a2) := (HB2.out.cell (by show w.heap.size < gb; omega)).trans (((Below.refl w1.heap.size w1).alloc (Nat.le_refl _) _).cell hlt1 |>.trans HC1.out)
    clear HB1a
    have HS2 := Aside0.mk hS2
    have HS2B := Aside0.mk hS2b
    clear hS2 hS2b HBD hgb HC1
    have HBa := Aside0.mk (Bd.below HS2.out (HBW.out w2))
    have HSa := Aside0.mk (show ¬ S2 w2.heap.size ∧ ∀ k, S2 k → gb ≤ k from ⟨fun h => by have := (HS2B.out _ h).2; omega, fun k hk => (HS2B.out k hk).1⟩)
    have HCa := Aside0.mk (HBC.out w2)
    have HWa := Aside0.mk ((HBW.out w2).mono (B := w2.heap.size) (B' := gb) (by have := HS2B.out gb (by obtain ⟨_, _, h, _⟩ := HS2.out; exact h); omega))
    have hlen : a2.data.toList.length = b.length := by rw [HBY.out, bytesOf_length]; rfl
    have HLE := Aside0.mk hlen
    clear hlen HS2B HS2
    go_wp2
    go_loopw [5, 24] (fun _ v24 wl => ∃ (j : Nat) (S : Nat → Prop), j ≤ b.length ∧ v24 = .int .i64 j ∧ Aside0 (Bd wl S gb (nat8 (120 :: 39 :: hexU (a2.data.toList.take j)))) ∧ Aside0 (¬ S w2.heap.size ∧ ∀ k, S k → gb ≤ k) ∧ Aside0 ((Kd.int .u8).C wl (some ⟨w2.heap.size, 0, none⟩) b.length b) ∧ Aside0 (Below gb w2 wl)) (fun _ v _ => b.length - (intOf v).toNat)
    case atStart => exact ⟨0, S2, Nat.zero_le _, rfl, HBa, HSa, HCa, HWa⟩
    case round =>
      clear HBa HSa HCa HWa kc2
      obtain ⟨j, S, hj, rfl, HBr, HSr, HCr, HWr⟩ := hrel
      by_cases hlt : j < b.length
      · obtain ⟨ad, e, hc⟩ := at_intN HCr.out j hlt
        cases e
        obtain ⟨u, hu⟩ : ∃ u, a2.data.toList[j]? = some u := ⟨_, List.getElem?_eq_getElem (by rw [HLE.out]; exact hlt)⟩
        have hbj : b[j] = (u.toNat : Int) := by
          have h1 : b[j]? = some (u.toNat : Int) := by rw [HBY.out]; unfold bytesOf; rw [List.getElem?_map, hu]; rfl
          rw [List.getElem?_eq_getElem hlt] at h1
          exact Option.some.inj h1
        rw [hbj, Addr.add_lit, Nat.zero_add] at hc
        have hu8 := u.toNat_lt
        obtain ⟨x, hx⟩ : ∃ x, u.toNat = x := ⟨_, rfl⟩
        rw [hx] at hc hu8
        have hlti : (j : Int) < (b.length : Int) := by omega
        have hRlt := World.block_lt_of_cell? wr _ hc
        have HRLT := Aside0.mk (show w2.heap.size < wr.heap.size from hRlt)
        have HGLT := Aside0.mk (show gb < wr.heap.size by obtain ⟨_, h, _⟩ := HBr.out; exact h.lt)
        obtain ⟨L, hL⟩ : ∃ L, nat8 (120 :: 39 :: hexU (a2.data.toList.take j)) = L := ⟨_, rfl⟩
        rw [hL] at HBr
        have HLL := Aside0.mk (show L.length = 2 + 2 * j by rw [← hL]; simp only [nat8, List.length_map, List.length_cons, hexU_len, List.length_take, HLE.out]; omega)
        have HNX := Aside0.mk (show nat8 (120 :: 39 :: hexU (a2.data.toList.take (j + 1))) = L ++ [((hexC (x / 16)).toNat : Int)] ++ [((hexC (x % 16)).toNat : Int)] by
          rw [← hL, List.take_add_one, hu, ← hx]
          simp [hexU, nat8])
        clear hbj hRlt hL hu hx
        go_upto_region 13 with (first | (go_at_call 65; (with_reducible refine (strings_Builder_WriteByte.calls S gb L _ wr HBr.out (by have := HLL.out; have := HSZ.out; omega)).mono ?_); rintro e w4 ⟨rfl, hb4, hB4, hk4⟩; rw [hexAt (x / 16) (by omega)] at hb4; have HB4 := Aside0.mk hb4; have HD4 := Aside0.mk hB4; have HK4 := Aside0.mk hk4; clear hb4 hB4 hk4) | (go_at_call 65; (with_reducible refine (strings_Builder_WriteByte.calls (BdS S wr w4) gb _ _ w4 HB4.out (by have := HLL.out; have := HSZ.out; rw [List.length_append, List.length_singleton]; omega)).mono ?_); rintro e w5 ⟨rfl, hb5, hB5, hk5⟩; have HB5 := Aside0.mk hb5; have HD5 := Aside0.mk hB5; have HK5 := Aside0.mk hk5; clear hb5 hB5 hk5))
        have hb5 := HB5.out
        rw [hexAt (x % 16) (by omega), ← HNX.out] at hb5
        have HB6 := Aside0.mk hb5
        have HKa := HK4.out.1
        have HKb := HK5.out.1
        have HSn := Aside0.mk (show ¬ BdS (BdS S wr w4) w4 w5 w2.heap.size ∧ ∀ k, BdS (BdS S wr w4) w4 w5 k → gb ≤ k from ⟨fun h => by
          have h1 := HRLT.out
          rcases h with (h | h) | h
          · exact HSr.out.1 h
          · omega
          · omega, fun k h => by
          have h1 := HGLT.out
          rcases h with (h | h) | h
          · exact HSr.out.2 k h
          · omega
          · omega⟩)
        have HCn := Aside0.mk (show (Kd.int .u8).C w5 (some ⟨w2.heap.size, 0, none⟩) b.length b from bdC_blocks HCr.out (fun ad e => by
          cases e
          have h1 := HRLT.out
          show w5.heap[w2.heap.size]? = wr.heap[w2.heap.size]?
          rw [HK5.out.2 _ (by omega) (fun h => by
            rcases h with h | h
            · exact HSr.out.1 h
            · omega), HK4.out.2 _ h1 HSr.out.1]))
        have HWn := Aside0.mk (show Below gb w2 w5 from (HWr.out.trans (bdBelow HD4.out HK4.out (by have := HGLT.out; omega) HSr.out.2)).trans (bdBelow HD5.out HK5.out (by have := HGLT.out; omega) (fun k h => by
          have h1 := HGLT.out
          rcases h with h | h
          · exact HSr.out.2 k h
          · omega)))
        clear hb5 HB5 HD4 HD5 HK4 HK5 HNX HKa HKb HCr HBr HSr HWr hc
        go_wp2
        go_roundw
        case rel => exact ⟨j + 1, _, by omega, by go_num, HB6, HSn, HCn, HWn⟩
        case measure => simp [intOf]; omega
      · have hj' : j = b.length := by omega
        have hall : a2.data.toList.take j = a2.data.toList := List.take_of_length_le (by rw [HLE.out]; omega)
        rw [hall] at HBr
        obtain ⟨L, hL⟩ : ∃ L, nat8 (120 :: 39 :: hexU a2.data.toList) = L := ⟨_, rfl⟩
        rw [hL] at HBr
        have HLL := Aside0.mk (show L.length = 2 + 2 * b.length by rw [← hL]; simp only [nat8, List.length_map, List.length_cons, hexU_len, HLE.out]; omega)
        have HNX := Aside0.mk (show (L ++ [39]).map (Value.int .u8) = Lib.byteCells (textU a2) by
          rw [← hL]
          simp [textU, nat8, Lib.byteCells])
        have hlti : ¬ (j : Int) < (b.length : Int) := by omega
        have HGLT := Aside0.mk (show gb < wr.heap.size by obtain ⟨_, h, _⟩ := HBr.out; exact h.lt)
        clear hall hL hj'
        go_wp2_with (first | (go_at_call 65; (with_reducible refine (strings_Builder_WriteByte.calls S gb L 39 wr HBr.out (by have := HLL.out; have := HSZ.out; omega)).mono ?_); rintro e w4 ⟨rfl, hb4, hB4, hk4⟩; have hq4 := Bd.to (B := gb) hb4 (fun k h => by have h1 := HGLT.out; rcases h with h | h; exact HSr.out.2 k h; omega); rw [HNX.out] at hq4; have HB4 := Aside0.mk (show Lib.IsBuilder 98 5 gb gb (Lib.byteCells (textU a2)) w4 from .inr hq4); have HW4 := Aside0.mk (HWr.out.trans (bdBelow hB4 hk4 (by have := HGLT.out; omega) HSr.out.2)); have HZ4 := Aside0.mk (show gb ≤ w4.heap.size by have := hk4.1; have := HGLT.out; omega); clear hb4 hB4 hk4 hq4) | (go_at_call 66; (with_reducible refine (Tryz.Builder_String_any gb gb (textU a2) w4 HB4.out HZ4.out).mono ?_); rintro e w5 ⟨rfl, hB5⟩; have HB5 := Aside0.mk hB5; clear hB5))
        go_ret
        refine ⟨rfl, HB12.out.trans ((HW4.out.trans HB5.out).mono ?_)⟩
        have h1 := HB1.out.size
        have h2 := HG.out
        omega
  · rw [if_neg hsz] at h
    cases h


end Go.Proofs.YtblaibigjhlblaaGreatDoor.Q
end

section
-- written by hprint.py (a program of these sessions) out of the translation; Lean checks it
namespace Go.Proofs.YtblaibigjhlblaaGreatDoor.Q
open Go.RowKit Go.Proofs.YtblaibigjhlblaaGreatDoorW.Hb Go.Proofs.YtblaibigjhlblaaGreatDoorW.PrintWords Go.Proofs.YtblaibigjhlblaaGreatDoorW.PrintLast Go.Proofs.YtblaibigjhlblaaGreatDoorW.PrintMore
attribute [local go_sem] max2_int min2_int max_two min_two max_three min_three max_four min_four   -- for this text's walks alone
set_option linter.unusedVariables false
set_option linter.unusedSimpArgs false

/-! ### value_word: function 39, by hand -/
def digU : List UInt8 := [48, 49, 50, 51, 52, 53, 54, 55, 56, 57, 97, 98, 99, 100, 101, 102]
def ixB (c : UInt8) : Int := Lib.indexByte digU c
def unhexU : List UInt8 → List UInt8 → Option (List UInt8)
  | a :: b :: r, acc => if ixB a < 0 ∨ ixB b < 0 then none else unhexU r (acc ++ [(ixB a * 16 + ixB b).toNat.toUInt8])
  | _, acc => some acc
theorem extract_two (x : ByteArray) : (x.extract 2 x.size).data.toList = x.data.toList.drop 2 := by
  simp only [ByteArray.data_extract, Array.toList_extract, List.extract_eq_drop_take']
  rw [List.take_of_length_le (Nat.le_of_eq (Lib.size_eq x).symm)]
theorem ix_lt (l : List UInt8) (c : UInt8) : Lib.indexByte l c < (l.length : Int) ∧ -1 ≤ Lib.indexByte l c := by
  induction l with
  | nil => exact ⟨by simp [Lib.indexByte], by simp [Lib.indexByte]⟩
  | cons b l ih =>
    unfold Lib.indexByte
    rw [List.length_cons]
    split
    · omega
    · split
      · omega
      · omega
theorem strOf8 (l : List UInt8) : strOfNums (l.map fun b => (b.toNat : Int)) = ⟨l.toArray⟩ := by
  unfold strOfNums
  rw [List.map_map]
  congr 2
  conv => rhs; rw [← List.map_id l]
  refine List.map_congr_left (fun b _ => ?_)
  simp
theorem two_bytes (x : ByteArray) (h0 : 0 < x.size) (h1 : 1 < x.size) : x.data.toList = (x[0]'h0) :: (x[1]'h1) :: x.data.toList.drop 2 := by
  have e0 : x.data.toList.length = x.size := by rw [Lib.size_eq]
  have a0 : x.data.toList[0]'(by omega) = x[0]'h0 := rfl
  have a1 : x.data.toList[1]'(by omega) = x[1]'h1 := rfl
  rw [← a0, ← a1]
  rw [← List.drop_eq_getElem_cons (by omega), ← List.drop_eq_getElem_cons (by omega), List.drop_zero]
theorem or16 : ∀ n : Fin 16, ∀ m : Fin 16, Go.bits .or .i64 ((n.val : Int) * 16) (m.val : Int) = ((n.val * 16 + m.val : Nat) : Int) := by decide +kernel
def strSz : Value → Nat
  | .string s => s.size
  | _ => 0
def trueV (s : ByteArray) : Int := if (s.toList == [116, 114, 117, 101]) = true then 1 else 0
def preV (s : ByteArray) : (Int × Int × ByteArray) × Bool := if Lib.hasPrefix s.data.toList [120, 39] = true then (match unhexU (Lib.trimPrefix s.data.toList [120, 39]) [] with | none => ((3, trueV s, ⟨#[]⟩), true) | some l => ((2, 0, ⟨l.toArray⟩), false)) else (match Lib.atoiAll s.data.toList with | .ok n => ((1, n, ⟨#[]⟩), false) | _ => ((3, trueV s, ⟨#[]⟩), false))
def value_word.f (s : ByteArray) : Option (Int × Int × ByteArray × Bool) := if 281474976710656 < s.size then none else if (preV s).2 = true then some ((preV s).1.1, (preV s).1.2.1, (preV s).1.2.2, false) else (value_Right.f (preV s).1.1 (preV s).1.2.1 (preV s).1.2.2).bind fun q => if q = true then (value_text.f (preV s).1.1 (preV s).1.2.1 (preV s).1.2.2).bind fun t => some ((preV s).1.1, (preV s).1.2.1, (preV s).1.2.2, t.toList == s.toList) else some ((preV s).1.1, (preV s).1.2.1, (preV s).1.2.2, false)
set_option maxRecDepth 100000 in
set_option maxHeartbeats 4000000 in
/-- The end: the value is looked at, and its text. -/
theorem value_word.calls (s : ByteArray) (r1 : Int) (r2 : Int) (r3 : ByteArray) (r4 : Bool) (w : World) (h : value_word.f s = some (r1, r2, r3, r4)) (hV : VarsOk w) :
    Calls Tryz.prog 39 #[.string s] w fun e w' => e = .returned (.tuple #[.agg #[.int .i64 r1, .int .i64 r2, .string r3], .bool r4]) ∧ Below w.heap.size w w' := by
  unfold value_word.f at h
  by_cases hbig : 281474976710656 < s.size
  · rw [if_pos hbig] at h
    cases h
  rw [if_neg hbig] at h
  have hs : s.size ≤ 281474976710656 := by omega
  clear hbig
  have HV := Aside0.mk hV
  have H := Aside0.mk h
  clear hV h
  obtain ⟨tb, htb⟩ : ∃ tb, (s.toList == [116, 114, 117, 101]) = tb := ⟨_, rfl⟩
  have HTB := Aside0.mk htb
  have HT := Aside0.mk (value_Truth.calls tb 3 (if tb = true then 1 else 0) ⟨#[]⟩ (w.alloc (.cells #[.int .i64 0, .int .i64 0, .string ⟨#[]⟩] 47)) rfl)
  obtain ⟨tv, htv⟩ : ∃ tv : Int, (if tb = true then 1 else 0) = tv := ⟨_, rfl⟩
  rw [htv] at HT
  have HTV := Aside0.mk (show trueV s = tv by unfold trueV; rw [htb]; exact htv)
  have HBa := Aside0.mk ((Below.refl w.heap.size w).alloc (Nat.le_refl _) (.cells #[.int .i64 0, .int .i64 0, .string ⟨#[]⟩] 47))
  have HK2 := Aside0.mk (Blk.new w 47 #[.int .i64 0, .int .i64 0, .string ⟨#[]⟩])
  clear htv
  go_enter Tryz.func39, Tryz.ntmps39
  go_upto_region 2 with (go_at_call 36; (with_reducible refine HT.out.mono ?_); rintro e w2 ⟨rfl, hb⟩; have HB2 := Aside0.mk hb; clear hb)
  obtain ⟨w4, hw4⟩ : ∃ w4, w4 = w2.alloc (.cells #[.int .i64 3, .int .i64 tv, .string ⟨#[]⟩] 47) := ⟨_, rfl⟩
  obtain ⟨g4, hg4⟩ : ∃ g4, g4 = w2.heap.size := ⟨_, rfl⟩
  obtain ⟨g2, hg2⟩ : ∃ g2, g2 = w.heap.size := ⟨_, rfl⟩
  have HS2 := Aside0.mk (HBa.out.trans (HB2.out.mono HBa.out.size)).size
  have HB4 := Aside0.mk (show Below w.heap.size w w4 by rw [hw4]; exact (HBa.out.trans (HB2.out.mono HBa.out.size)).alloc (HBa.out.trans (HB2.out.mono HBa.out.size)).size _)
  have HK22 := Aside0.mk (HK2.out.after HB2.out)
  have HKc := Aside0.mk (show Blk w4 g2 47 #[.int .i64 0, .int .i64 0, .string ⟨#[]⟩] by rw [hw4, hg2]; exact HK22.out.alloc _)
  have HKd := Aside0.mk (show Blk w4 g4 47 #[.int .i64 3, .int .i64 tv, .string ⟨#[]⟩] by rw [hw4, hg4]; exact Blk.new w2 _ _)
  have HNE := Aside0.mk (show g2 ≠ g4 ∧ w.heap.size ≤ g2 ∧ w.heap.size ≤ g4 by have := HK22.out.lt; have := HS2.out; omega)
  rw [← hw4, ← hg4, ← hg2]
  clear hw4 hg4 HT HK2 HBa HB2 HK22 HS2 hg2
  obtain ⟨pb, hpb⟩ : ∃ pb, Lib.hasPrefix s.data.toList [120, 39] = pb := ⟨_, rfl⟩
  obtain ⟨inn, hinn⟩ : ∃ inn : ByteArray, (⟨(Lib.trimPrefix s.data.toList [120, 39]).toArray⟩ : ByteArray) = inn := ⟨_, rfl⟩
  have HCP := Aside0.mk (show ∀ W : World, Calls Tryz.prog 59 #[.string s, .string ⟨#[120, 39]⟩] W fun e w' => e = .returned (.tuple #[.string inn, .bool pb]) ∧ w' = W from fun W => by
    have := Tryz.strings_CutPrefix s ⟨#[120, 39]⟩ W
    rw [← hpb, ← hinn]
    exact this)
  have HPB := Aside0.mk hpb
  have HINN := Aside0.mk (show Lib.trimPrefix s.data.toList [120, 39] = inn.data.toList by rw [← hinn])
  clear hpb hinn
  go_upto_if 20 with (go_at_call 59; (with_reducible refine (HCP.out _).mono ?_); rintro e w5 ⟨rfl, hw5⟩; subst w5)
  clear HCP
  go_cut [5] from 5 (fun v5 wc => ∃ (f0 f1 : Int) (f2 : ByteArray), Aside0 (Blk wc g4 47 #[.int .i64 f0, .int .i64 f1, .string f2]) ∧ Aside0 (Blk wc g2 47 #[.int .i64 0, .int .i64 0, .string ⟨#[]⟩]) ∧ Aside0 (Below w.heap.size w wc) ∧ Aside0 (preV s = ((f0, f1, f2), false)))
  case first =>
    cases pb
    · have HAT := Aside0.mk (atoiV s hs w4 (HV.out.below HB4.out))
      go_upto_region 13 with (go_at_call 61; (with_reducible refine HAT.out.mono ?_); rintro e w6 ⟨v, ev, rfl, hcase, hb⟩; have HCS := Aside0.mk hcase; have HK4 := Aside0.mk (HKd.out.after hb); have HK2 := Aside0.mk (HKc.out.after hb); have HB6 := Aside0.mk (HB4.out.trans (hb.mono HB4.out.size)); clear hb hcase)
      rcases HCS.out with ⟨rfl, ha⟩ | ⟨⟨te, pe, rfl⟩, hn⟩
      · have HP := Aside0.mk (show preV s = ((1, v, ⟨#[]⟩), false) by unfold preV; rw [HPB.out, if_neg (by decide), ha])
        have z0 : w6.cell? ⟨g4, 0, none⟩ = some (.int .i64 3) := HK4.out.cell 0
        have z1 : w6.cell? ⟨g4, 1, none⟩ = some (.int .i64 tv) := HK4.out.cell 1
        have z2 : w6.cell? ⟨g4, 2, none⟩ = some (.string ⟨#[]⟩) := HK4.out.cell 2
        have y0 : w6.frozen? ⟨g4, 0, none⟩ = false := HK4.out.frozen 0
        have y1 : w6.frozen? ⟨g4, 1, none⟩ = false := HK4.out.frozen 1
        have y2 : w6.frozen? ⟨g4, 2, none⟩ = false := HK4.out.frozen 2
        clear HCS ha
        go_wp2_with (go_at_call 34; (with_reducible refine (value_Number.calls v 1 v ⟨#[]⟩ w6 rfl).mono ?_); rintro e w7 ⟨rfl, hb⟩; have HK47 := Aside0.mk (HK4.out.after hb); have HK27 := Aside0.mk (HK2.out.after hb); have HB7 := Aside0.mk (HB6.out.trans (hb.mono HB6.out.size)); have u0 : w7.cell? ⟨g4, 0, none⟩ = some (.int .i64 3) := HK47.out.cell 0; have u1 : w7.cell? ⟨g4, 1, none⟩ = some (.int .i64 tv) := HK47.out.cell 1; have u2 : w7.cell? ⟨g4, 2, none⟩ = some (.string ⟨#[]⟩) := HK47.out.cell 2; have v0 : w7.frozen? ⟨g4, 0, none⟩ = false := HK47.out.frozen 0; have v1 : w7.frozen? ⟨g4, 1, none⟩ = false := HK47.out.frozen 1; have v2 : w7.frozen? ⟨g4, 2, none⟩ = false := HK47.out.frozen 2; clear hb)
        go_meet
        case rel => exact ⟨1, v, ⟨#[]⟩, ⟨by simpa using ((HK47.out.set_ 0 (.int .i64 1)).set_ 1 (.int .i64 v)).set_ 2 (.string ⟨#[]⟩)⟩, ⟨((HK27.out.far (p := ⟨g4, 0, none⟩) HNE.out.1 _).far (p := ⟨g4, 1, none⟩) HNE.out.1 _).far (p := ⟨g4, 2, none⟩) HNE.out.1 _⟩, ⟨((HB7.out.setCell (by exact HNE.out.2.2) _).setCell (by exact HNE.out.2.2) _).setCell (by exact HNE.out.2.2) _⟩, HP⟩
      · have HP := Aside0.mk (show preV s = ((3, tv, ⟨#[]⟩), false) by
          unfold preV
          rw [HPB.out, if_neg (by decide), HTV.out]
          cases ha : Lib.atoiAll s.data.toList with
          | ok v' => exact absurd ha (hn v')
          | range => rfl
          | _ => rfl)
        clear HCS hn
        go_wp2
        go_meet
        case rel => exact ⟨3, tv, ⟨#[]⟩, HK4, HK2, HB6, HP⟩
    · have HAL := Aside0.mk (show inn.data.toList.length ≤ s.size by
        rw [← HINN.out]
        unfold Lib.trimPrefix
        split
        · rw [List.length_drop, Lib.size_eq]; omega
        · rw [Lib.size_eq]; omega)
      go_wp2
      go_loopw [5, 7] (fun v5 v7 wl => ∃ (x : ByteArray) (acc : List UInt8), v5 = .string x ∧ Aside0 (unhexU x.data.toList acc = unhexU inn.data.toList []) ∧ Aside0 (2 * acc.length + x.size ≤ inn.size) ∧ Aside0 ((Kd.int .u8).R 5 wl w4.heap.size (fun _ => True) v7 (nat8 acc)) ∧ Aside0 (Below w4.heap.size w4 wl)) (fun v5 _ _ => strSz v5)
      case atStart => exact ⟨inn, [], rfl, ⟨rfl⟩, ⟨by simp⟩, ⟨Kd.R_nil _ _ _ _ _⟩, ⟨Below.refl _ _⟩⟩
      case round =>
        obtain ⟨x, acc, rfl, HU, HA, HO, HBl⟩ := hrel
        have HK4 := Aside0.mk (HKd.out.after HBl.out)
        have HK2 := Aside0.mk (HKc.out.after HBl.out)
        have HB6 := Aside0.mk (HB4.out.trans (HBl.out.mono HB4.out.size))
        have hx63 : x.size ≤ 9223372036854775807 := by
          have h1 := HA.out
          have h2 := HAL.out
          have h3 := Lib.size_eq inn
          omega
        by_cases hx1 : 1 < x.size
        · have hx0 : 0 < x.size := by omega
          obtain ⟨a, ha⟩ : ∃ a, x[0]'hx0 = a := ⟨_, rfl⟩
          obtain ⟨b, hb⟩ : ∃ b, x[1]'hx1 = b := ⟨_, rfl⟩
          obtain ⟨ia, hia⟩ : ∃ ia, ixB a = ia := ⟨_, rfl⟩
          obtain ⟨ib, hib⟩ : ∃ ib, ixB b = ib := ⟨_, rfl⟩
          have HIA := Aside0.mk (show ∀ W : World, Calls Tryz.prog 60 #[.string ⟨#[48, 49, 50, 51, 52, 53, 54, 55, 56, 57, 97, 98, 99, 100, 101, 102]⟩, .int .u8 (a.toNat : Int)] W fun e w' => e = .returned (.int .i64 ia) ∧ w' = W from fun W => by
            have := Tryz.strings_IndexByte ⟨#[48, 49, 50, 51, 52, 53, 54, 55, 56, 57, 97, 98, 99, 100, 101, 102]⟩ (a.toNat : Int) W
            rw [← hia]
            simpa [ixB, digU] using this)
          have HIB := Aside0.mk (show ∀ W : World, Calls Tryz.prog 60 #[.string ⟨#[48, 49, 50, 51, 52, 53, 54, 55, 56, 57, 97, 98, 99, 100, 101, 102]⟩, .int .u8 (b.toNat : Int)] W fun e w' => e = .returned (.int .i64 ib) ∧ w' = W from fun W => by
            have := Tryz.strings_IndexByte ⟨#[48, 49, 50, 51, 52, 53, 54, 55, 56, 57, 97, 98, 99, 100, 101, 102]⟩ (b.toNat : Int) W
            rw [← hib]
            simpa [ixB, digU] using this)
          have HUX := Aside0.mk (show unhexU x.data.toList acc = if ia < 0 ∨ ib < 0 then none else unhexU (x.extract 2 x.size).data.toList (acc ++ [(ia * 16 + ib).toNat.toUInt8]) by
            rw [two_bytes x hx0 hx1, ha, hb, unhexU, hia, hib, extract_two])
          have hla := ix_lt digU a
          have hlb := ix_lt digU b
          have hia2 : Lib.indexByte digU a = ia := hia
          have hib2 : Lib.indexByte digU b = ib := hib
          rw [hia2] at hla
          rw [hib2] at hlb
          have HLA := Aside0.mk (show ia < 16 ∧ -1 ≤ ia from ⟨hla.1, hla.2⟩)
          have HLB := Aside0.mk (show ib < 16 ∧ -1 ≤ ib from ⟨hlb.1, hlb.2⟩)
          have hx1b : decide (1 < (x.size : Int)) = true := decide_eq_true (by omega)
          have hx1i : (1 : Int) < (x.size : Int) := by omega
          have hx0i : (0 : Int) < (x.size : Int) := by omega
          clear hia hib hla hlb hia2 hib2
          have z0 : wr.cell? ⟨g4, 0, none⟩ = some (.int .i64 3) := HK4.out.cell 0
          have z1 : wr.cell? ⟨g4, 1, none⟩ = some (.int .i64 tv) := HK4.out.cell 1
          have z2 : wr.cell? ⟨g4, 2, none⟩ = some (.string ⟨#[]⟩) := HK4.out.cell 2
          have y0 : wr.cell? ⟨g2, 0, none⟩ = some (.int .i64 0) := HK2.out.cell 0
          have y1 : wr.cell? ⟨g2, 1, none⟩ = some (.int .i64 0) := HK2.out.cell 1
          have y2 : wr.cell? ⟨g2, 2, none⟩ = some (.string ⟨#[]⟩) := HK2.out.cell 2
          have q0 : wr.frozen? ⟨g2, 0, none⟩ = false := HK2.out.frozen 0
          have q1 : wr.frozen? ⟨g2, 1, none⟩ = false := HK2.out.frozen 1
          have q2 : wr.frozen? ⟨g2, 2, none⟩ = false := HK2.out.frozen 2
          by_cases hbad : ia < 0 ∨ ib < 0
          · have HPF := Aside0.mk (show preV s = ((3, tv, ⟨#[]⟩), true) by
              unfold preV
              rw [HPB.out, if_pos rfl, HINN.out, ← HU.out, HUX.out, if_pos hbad, HTV.out])
            have hend : ∀ W, Blk W g2 47 #[.int .i64 0, .int .i64 0, .string ⟨#[]⟩] → True := fun _ _ => trivial
            clear hend HUX HU
            have hh := H.out
            rw [HPF.out, if_pos rfl] at hh
            simp only [Option.some.injEq, Prod.mk.injEq] at hh
            obtain ⟨rfl, rfl, rfl, rfl⟩ := hh
            clear H HPF
            have HK2d := Aside0.mk HK2.out.drew
            have HB6d := Aside0.mk HB6.out.drew
            clear z0 z1 z2 y0 y1 y2 q0 q1 q2
            by_cases hn : ia < 0
            · have da : decide (ia < 0) = true := decide_eq_true hn
              clear hn hbad
              have z0 : wr.drew.cell? ⟨g4, 0, none⟩ = some (.int .i64 3) := HK4.out.cell 0
              have z1 : wr.drew.cell? ⟨g4, 1, none⟩ = some (.int .i64 tv) := HK4.out.cell 1
              have z2 : wr.drew.cell? ⟨g4, 2, none⟩ = some (.string ⟨#[]⟩) := HK4.out.cell 2
              have y0 : wr.drew.cell? ⟨g2, 0, none⟩ = some (.int .i64 0) := HK2.out.cell 0
              have y1 : wr.drew.cell? ⟨g2, 1, none⟩ = some (.int .i64 0) := HK2.out.cell 1
              have y2 : wr.drew.cell? ⟨g2, 2, none⟩ = some (.string ⟨#[]⟩) := HK2.out.cell 2
              have q0 : wr.drew.frozen? ⟨g2, 0, none⟩ = false := HK2.out.frozen 0
              have q1 : wr.drew.frozen? ⟨g2, 1, none⟩ = false := HK2.out.frozen 1
              have q2 : wr.drew.frozen? ⟨g2, 2, none⟩ = false := HK2.out.frozen 2
              go_upto_region 7 with (fail)
              refine start_ (n := 8) (S := fun w' => True) (ds := []) #[false, false, false, false, false, false, false, false] (by kernel_rfl) rfl rfl trivial (fun hHeld => ?_)
              generalize wr.drew = wd at HK2d HB6d z0 z1 z2 y0 y1 y2 q0 q1 q2 hHeld ⊢
              refine pure_ (i := 0) (N := some 26) (v := ?_) (a' := ?_) #[true, false, false, false, false, false, false, false] rfl rfl (by kernel_rfl) (fun _ _ _ h => h) (Or.inl ⟨by rfl, ?_⟩) ?_ ?_
              rotate_left
              · intro w'
                go_simp
                with_reducible rfl
              rotate_left
              · simp only [Act.put, List.setIfInBounds_toArray, List.set_cons_zero, List.set_cons_succ, i64_w, i32_w]
                rfl
              refine pure_ (i := 3) (N := some 29) (v := ?_) (a' := ?_) #[true, false, false, true, false, false, false, false] rfl rfl (by kernel_rfl) (fun _ _ _ h => h) (Or.inl ⟨by rfl, ?_⟩) ?_ ?_
              rotate_left
              · intro w'
                go_simp
                with_reducible rfl
              rotate_left
              · simp only [Act.put, List.setIfInBounds_toArray, List.set_cons_zero, List.set_cons_succ, i64_w, i32_w]
                rfl
              refine take_ (i := 1) (N := some 27) (v := ?_) (a' := ?_) #[true, true, false, true, false, false, false, false] rfl rfl (by kernel_rfl) (fun _ _ _ h => h) (Or.inl ⟨by rfl, ?_⟩) hHeld ?_ ?_
              rotate_left
              · intro w' _
                go_simp
                with_reducible rfl
              rotate_left
              · simp only [Act.put, List.setIfInBounds_toArray, List.set_cons_zero, List.set_cons_succ, i64_w, i32_w]
                rfl
              refine take_ (i := 4) (N := some 30) (v := ?_) (a' := ?_) #[true, true, false, true, true, false, false, false] rfl rfl (by kernel_rfl) (fun _ _ _ h => h) (Or.inl ⟨by rfl, ?_⟩) hHeld ?_ ?_
              rotate_left
              · intro w' _
                go_simp
                with_reducible rfl
              rotate_left
              · simp only [Act.put, List.setIfInBounds_toArray, List.set_cons_zero, List.set_cons_succ, i64_w, i32_w]
                rfl
              refine one_ (i := 2) (N := some 28) #[true, true, true, true, true, false, false, false] rfl rfl (by kernel_rfl) (by decide) (fun K hK => ?_)
              refine goes_ Tryz.func60 (by kernel_rfl) rfl #[.string ⟨#[48, 49, 50, 51, 52, 53, 54, 55, 56, 57, 97, 98, 99, 100, 101, 102]⟩, .int .u8 (a.toNat : Int)] (by rfl) rfl rfl (by simp only [List.map_toArray, List.map_cons, List.map_nil]; rfl) ?_
              with_reducible refine (HIA.out wd).mono ?_
              rintro e w8 ⟨rfl, hw8⟩
              refine ⟨_, rfl, ?_⟩
              subst w8
              refine hK.out _ _ trivial (fun hHeld => ?_)
              clear hK K
              refine norm_ (a' := ?_) ?_ ?_
              rotate_left
              · show Act.put _ (some 28) _ = _
                simp only [Act.put, List.setIfInBounds_toArray, List.set_cons_zero, List.set_cons_succ, i64_w, i32_w]
                rfl
              refine one_ (i := 5) (N := some 31) #[true, true, true, true, true, true, false, false] rfl rfl (by kernel_rfl) (by decide) (fun K hK => ?_)
              refine goes_ Tryz.func60 (by kernel_rfl) rfl #[.string ⟨#[48, 49, 50, 51, 52, 53, 54, 55, 56, 57, 97, 98, 99, 100, 101, 102]⟩, .int .u8 (b.toNat : Int)] (by rfl) rfl rfl (by simp only [List.map_toArray, List.map_cons, List.map_nil]; rfl) ?_
              with_reducible refine (HIB.out wd).mono ?_
              rintro e w8 ⟨rfl, hw8⟩
              refine ⟨_, rfl, ?_⟩
              subst w8
              refine hK.out _ _ trivial (fun hHeld => ?_)
              clear hK K
              refine norm_ (a' := ?_) ?_ ?_
              rotate_left
              · show Act.put _ (some 31) _ = _
                simp only [Act.put, List.setIfInBounds_toArray, List.set_cons_zero, List.set_cons_succ, i64_w, i32_w]
                rfl
              refine pure_ (i := 6) (N := some 8) (v := ?_) (a' := ?_) #[true, true, true, true, true, true, true, false] rfl rfl (by kernel_rfl) (fun _ _ _ h => h) (Or.inl ⟨by rfl, ?_⟩) ?_ ?_
              rotate_left
              · intro w'
                go_simp
                with_reducible rfl
              rotate_left
              · simp only [Act.put, List.setIfInBounds_toArray, List.set_cons_zero, List.set_cons_succ, i64_w, i32_w]
                rfl
              refine pure_ (i := 7) (N := some 9) (v := ?_) (a' := ?_) #[true, true, true, true, true, true, true, true] rfl rfl (by kernel_rfl) (fun _ _ _ h => h) (Or.inl ⟨by rfl, ?_⟩) ?_ ?_
              rotate_left
              · intro w'
                go_simp
                with_reducible rfl
              rotate_left
              · simp only [Act.put, List.setIfInBounds_toArray, List.set_cons_zero, List.set_cons_succ, i64_w, i32_w]
                rfl
              refine done_ (by kernel_rfl) ?_
              clear hHeld
              go_wp2
              refine bodyPost_ret (results_ct rfl _ _ g2 47 #[.int .i64 3, .int .i64 tv, .string ⟨#[]⟩] (0, 0) _ rfl (show Blk _ g2 47 #[.int .i64 3, .int .i64 tv, .string ⟨#[]⟩] from by simpa using ((HK2d.out.set_ 0 (.int .i64 3)).set_ 1 (.int .i64 tv)).set_ 2 (.string ⟨#[]⟩)) Tryz.underlying47 rfl (by kernel_rfl)) rfl ?_
              exact ⟨rfl, ((HB6d.out.setCell (by exact HNE.out.2.1) _).setCell (by exact HNE.out.2.1) _).setCell (by exact HNE.out.2.1) _⟩
            · have da : decide (ia < 0) = false := decide_eq_false hn
              have db : decide (ib < 0) = true := decide_eq_true (by omega)
              clear hn hbad
              have z0 : wr.drew.cell? ⟨g4, 0, none⟩ = some (.int .i64 3) := HK4.out.cell 0
              have z1 : wr.drew.cell? ⟨g4, 1, none⟩ = some (.int .i64 tv) := HK4.out.cell 1
              have z2 : wr.drew.cell? ⟨g4, 2, none⟩ = some (.string ⟨#[]⟩) := HK4.out.cell 2
              have y0 : wr.drew.cell? ⟨g2, 0, none⟩ = some (.int .i64 0) := HK2.out.cell 0
              have y1 : wr.drew.cell? ⟨g2, 1, none⟩ = some (.int .i64 0) := HK2.out.cell 1
              have y2 : wr.drew.cell? ⟨g2, 2, none⟩ = some (.string ⟨#[]⟩) := HK2.out.cell 2
              have q0 : wr.drew.frozen? ⟨g2, 0, none⟩ = false := HK2.out.frozen 0
              have q1 : wr.drew.frozen? ⟨g2, 1, none⟩ = false := HK2.out.frozen 1
              have q2 : wr.drew.frozen? ⟨g2, 2, none⟩ = false := HK2.out.frozen 2
              go_upto_region 7 with (fail)
              refine start_ (n := 8) (S := fun w' => True) (ds := []) #[false, false, false, false, false, false, false, false] (by kernel_rfl) rfl rfl trivial (fun hHeld => ?_)
              generalize wr.drew = wd at HK2d HB6d z0 z1 z2 y0 y1 y2 q0 q1 q2 hHeld ⊢
              refine pure_ (i := 0) (N := some 26) (v := ?_) (a' := ?_) #[true, false, false, false, false, false, false, false] rfl rfl (by kernel_rfl) (fun _ _ _ h => h) (Or.inl ⟨by rfl, ?_⟩) ?_ ?_
              rotate_left
              · intro w'
                go_simp
                with_reducible rfl
              rotate_left
              · simp only [Act.put, List.setIfInBounds_toArray, List.set_cons_zero, List.set_cons_succ, i64_w, i32_w]
                rfl
              refine pure_ (i := 3) (N := some 29) (v := ?_) (a' := ?_) #[true, false, false, true, false, false, false, false] rfl rfl (by kernel_rfl) (fun _ _ _ h => h) (Or.inl ⟨by rfl, ?_⟩) ?_ ?_
              rotate_left
              · intro w'
                go_simp
                with_reducible rfl
              rotate_left
              · simp only [Act.put, List.setIfInBounds_toArray, List.set_cons_zero, List.set_cons_succ, i64_w, i32_w]
                rfl
              refine take_ (i := 1) (N := some 27) (v := ?_) (a' := ?_) #[true, true, false, true, false, false, false, false] rfl rfl (by kernel_rfl) (fun _ _ _ h => h) (Or.inl ⟨by rfl, ?_⟩) hHeld ?_ ?_
              rotate_left
              · intro w' _
                go_simp
                with_reducible rfl
              rotate_left
              · simp only [Act.put, List.setIfInBounds_toArray, List.set_cons_zero, List.set_cons_succ, i64_w, i32_w]
                rfl
              refine take_ (i := 4) (N := some 30) (v := ?_) (a' := ?_) #[true, true, false, true, true, false, false, false] rfl rfl (by kernel_rfl) (fun _ _ _ h => h) (Or.inl ⟨by rfl, ?_⟩) hHeld ?_ ?_
              rotate_left
              · intro w' _
                go_simp
                with_reducible rfl
              rotate_left
              · simp only [Act.put, List.setIfInBounds_toArray, List.set_cons_zero, List.set_cons_succ, i64_w, i32_w]
                rfl
              refine one_ (i := 2) (N := some 28) #[true, true, true, true, true, false, false, false] rfl rfl (by kernel_rfl) (by decide) (fun K hK => ?_)
              refine goes_ Tryz.func60 (by kernel_rfl) rfl #[.string ⟨#[48, 49, 50, 51, 52, 53, 54, 55, 56, 57, 97, 98, 99, 100, 101, 102]⟩, .int .u8 (a.toNat : Int)] (by rfl) rfl rfl (by simp only [List.map_toArray, List.map_cons, List.map_nil]; rfl) ?_
              with_reducible refine (HIA.out wd).mono ?_
              rintro e w8 ⟨rfl, hw8⟩
              refine ⟨_, rfl, ?_⟩
              subst w8
              refine hK.out _ _ trivial (fun hHeld => ?_)
              clear hK K
              refine norm_ (a' := ?_) ?_ ?_
              rotate_left
              · show Act.put _ (some 28) _ = _
                simp only [Act.put, List.setIfInBounds_toArray, List.set_cons_zero, List.set_cons_succ, i64_w, i32_w]
                rfl
              refine one_ (i := 5) (N := some 31) #[true, true, true, true, true, true, false, false] rfl rfl (by kernel_rfl) (by decide) (fun K hK => ?_)
              refine goes_ Tryz.func60 (by kernel_rfl) rfl #[.string ⟨#[48, 49, 50, 51, 52, 53, 54, 55, 56, 57, 97, 98, 99, 100, 101, 102]⟩, .int .u8 (b.toNat : Int)] (by rfl) rfl rfl (by simp only [List.map_toArray, List.map_cons, List.map_nil]; rfl) ?_
              with_reducible refine (HIB.out wd).mono ?_
              rintro e w8 ⟨rfl, hw8⟩
              refine ⟨_, rfl, ?_⟩
              subst w8
              refine hK.out _ _ trivial (fun hHeld => ?_)
              clear hK K
              refine norm_ (a' := ?_) ?_ ?_
              rotate_left
              · show Act.put _ (some 31) _ = _
                simp only [Act.put, List.setIfInBounds_toArray, List.set_cons_zero, List.set_cons_succ, i64_w, i32_w]
                rfl
              refine pure_ (i := 6) (N := some 8) (v := ?_) (a' := ?_) #[true, true, true, true, true, true, true, false] rfl rfl (by kernel_rfl) (fun _ _ _ h => h) (Or.inl ⟨by rfl, ?_⟩) ?_ ?_
              rotate_left
              · intro w'
                go_simp
                with_reducible rfl
              rotate_left
              · simp only [Act.put, List.setIfInBounds_toArray, List.set_cons_zero, List.set_cons_succ, i64_w, i32_w]
                rfl
              refine pure_ (i := 7) (N := some 9) (v := ?_) (a' := ?_) #[true, true, true, true, true, true, true, true] rfl rfl (by kernel_rfl) (fun _ _ _ h => h) (Or.inl ⟨by rfl, ?_⟩) ?_ ?_
              rotate_left
              · intro w'
                go_simp
                with_reducible rfl
              rotate_left
              · simp only [Act.put, List.setIfInBounds_toArray, List.set_cons_zero, List.set_cons_succ, i64_w, i32_w]
                rfl
              refine done_ (by kernel_rfl) ?_
              clear hHeld
              go_wp2
              refine bodyPost_ret (results_ct rfl _ _ g2 47 #[.int .i64 3, .int .i64 tv, .string ⟨#[]⟩] (0, 0) _ rfl (show Blk _ g2 47 #[.int .i64 3, .int .i64 tv, .string ⟨#[]⟩] from by simpa using ((HK2d.out.set_ 0 (.int .i64 3)).set_ 1 (.int .i64 tv)).set_ 2 (.string ⟨#[]⟩)) Tryz.underlying47 rfl (by kernel_rfl)) rfl ?_
              exact ⟨rfl, ((HB6d.out.setCell (by exact HNE.out.2.1) _).setCell (by exact HNE.out.2.1) _).setCell (by exact HNE.out.2.1) _⟩
          · have da : decide (ia < 0) = false := decide_eq_false (by omega)
            have db : decide (ib < 0) = false := decide_eq_false (by omega)
            obtain ⟨n, rfl⟩ := Int.eq_ofNat_of_zero_le (show 0 ≤ ia by omega)
            obtain ⟨m, rfl⟩ := Int.eq_ofNat_of_zero_le (show 0 ≤ ib by omega)
            have hn16 : n < 16 := by have := HLA.out; omega
            have hm16 : m < 16 := by have := HLB.out; omega
            have hor : Go.bits .or .i64 ((n : Int) * 16) (m : Int) = ((n * 16 + m : Nat) : Int) := or16 ⟨n, hn16⟩ ⟨m, hm16⟩
            have HU2 := Aside0.mk (show unhexU (x.extract 2 x.size).data.toList (acc ++ [(n * 16 + m).toUInt8]) = unhexU inn.data.toList [] by
              rw [← HU.out, HUX.out, if_neg (by omega)]
              rfl)
            clear HUX HU hbad HLA HLB z0 z1 z2 y0 y1 y2 q0 q1 q2
            have HOd := Aside0.mk (Kd.R_drew HO.out)
            have HBd := Aside0.mk HBl.out.drew
            have HNL := Aside0.mk (show nat8 (acc ++ [(n * 16 + m).toUInt8]) = nat8 acc ++ [((n * 16 + m : Nat) : Int)] by
              unfold nat8
              rw [List.map_append]
              congr 1
              simp
              omega)
            have HAL2 := Aside0.mk (show ((nat8 acc).length + 1) * 1 ≤ 140737488355328 by
              have h1 := HA.out
              have h2 := HAL.out
              have h3 := Lib.size_eq inn
              unfold nat8
              rw [List.length_map]
              omega)
            go_upto_region 7 with (fail)
            refine start_ (n := 8) (S := fun w' => True) (ds := []) #[false, false, false, false, false, false, false, false] (by kernel_rfl) rfl rfl trivial (fun hHeld => ?_)
            generalize wr.drew = wd at HOd HBd hHeld ⊢
            refine pure_ (i := 0) (N := some 26) (v := ?_) (a' := ?_) #[true, false, false, false, false, false, false, false] rfl rfl (by kernel_rfl) (fun _ _ _ h => h) (Or.inl ⟨by rfl, ?_⟩) ?_ ?_
            rotate_left
            · intro w'
              go_simp
              with_reducible rfl
            rotate_left
            · simp only [Act.put, List.setIfInBounds_toArray, List.set_cons_zero, List.set_cons_succ, i64_w, i32_w]
              rfl
            refine pure_ (i := 3) (N := some 29) (v := ?_) (a' := ?_) #[true, false, false, true, false, false, false, false] rfl rfl (by kernel_rfl) (fun _ _ _ h => h) (Or.inl ⟨by rfl, ?_⟩) ?_ ?_
            rotate_left
            · intro w'
              go_simp
              with_reducible rfl
            rotate_left
            · simp only [Act.put, List.setIfInBounds_toArray, List.set_cons_zero, List.set_cons_succ, i64_w, i32_w]
              rfl
            refine take_ (i := 1) (N := some 27) (v := ?_) (a' := ?_) #[true, true, false, true, false, false, false, false] rfl rfl (by kernel_rfl) (fun _ _ _ h => h) (Or.inl ⟨by rfl, ?_⟩) hHeld ?_ ?_
            rotate_left
            · intro w' _
              go_simp
              with_reducible rfl
            rotate_left
            · simp only [Act.put, List.setIfInBounds_toArray, List.set_cons_zero, List.set_cons_succ, i64_w, i32_w]
              rfl
            refine take_ (i := 4) (N := some 30) (v := ?_) (a' := ?_) #[true, true, false, true, true, false, false, false] rfl rfl (by kernel_rfl) (fun _ _ _ h => h) (Or.inl ⟨by rfl, ?_⟩) hHeld ?_ ?_
            rotate_left
            · intro w' _
              go_simp
              with_reducible rfl
            rotate_left
            · simp only [Act.put, List.setIfInBounds_toArray, List.set_cons_zero, List.set_cons_succ, i64_w, i32_w]
              rfl
            refine one_ (i := 2) (N := some 28) #[true, true, true, true, true, false, false, false] rfl rfl (by kernel_rfl) (by decide) (fun K hK => ?_)
            refine goes_ Tryz.func60 (by kernel_rfl) rfl #[.string ⟨#[48, 49, 50, 51, 52, 53, 54, 55, 56, 57, 97, 98, 99, 100, 101, 102]⟩, .int .u8 (a.toNat : Int)] (by rfl) rfl rfl (by simp only [List.map_toArray, List.map_cons, List.map_nil]; rfl) ?_
            with_reducible refine (HIA.out wd).mono ?_
            rintro e w8 ⟨rfl, hw8⟩
            refine ⟨_, rfl, ?_⟩
            subst w8
            refine hK.out _ _ trivial (fun hHeld => ?_)
            clear hK K
            refine norm_ (a' := ?_) ?_ ?_
            rotate_left
            · show Act.put _ (some 28) _ = _
              simp only [Act.put, List.setIfInBounds_toArray, List.set_cons_zero, List.set_cons_succ, i64_w, i32_w]
              rfl
            refine one_ (i := 5) (N := some 31) #[true, true, true, true, true, true, false, false] rfl rfl (by kernel_rfl) (by decide) (fun K hK => ?_)
            refine goes_ Tryz.func60 (by kernel_rfl) rfl #[.string ⟨#[48, 49, 50, 51, 52, 53, 54, 55, 56, 57, 97, 98, 99, 100, 101, 102]⟩, .int .u8 (b.toNat : Int)] (by rfl) rfl rfl (by simp only [List.map_toArray, List.map_cons, List.map_nil]; rfl) ?_
            with_reducible refine (HIB.out wd).mono ?_
            rintro e w8 ⟨rfl, hw8⟩
            refine ⟨_, rfl, ?_⟩
            subst w8
            refine hK.out _ _ trivial (fun hHeld => ?_)
            clear hK K
            refine norm_ (a' := ?_) ?_ ?_
            rotate_left
            · show Act.put _ (some 31) _ = _
              simp only [Act.put, List.setIfInBounds_toArray, List.set_cons_zero, List.set_cons_succ, i64_w, i32_w]
              rfl
            refine pure_ (i := 6) (N := some 8) (v := ?_) (a' := ?_) #[true, true, true, true, true, true, true, false] rfl rfl (by kernel_rfl) (fun _ _ _ h => h) (Or.inl ⟨by rfl, ?_⟩) ?_ ?_
            rotate_left
            · intro w'
              go_simp
              with_reducible rfl
            rotate_left
            · simp only [Act.put, List.setIfInBounds_toArray, List.set_cons_zero, List.set_cons_succ, i64_w, i32_w]
              rfl
            refine pure_ (i := 7) (N := some 9) (v := ?_) (a' := ?_) #[true, true, true, true, true, true, true, true] rfl rfl (by kernel_rfl) (fun _ _ _ h => h) (Or.inl ⟨by rfl, ?_⟩) ?_ ?_
            rotate_left
            · intro w'
              go_simp
              with_reducible rfl
            rotate_left
            · simp only [Act.put, List.setIfInBounds_toArray, List.set_cons_zero, List.set_cons_succ, i64_w, i32_w]
              rfl
            refine done_ (by kernel_rfl) ?_
            clear hHeld
            go_upto_region 6 with ((with_reducible refine gate_builtin (b := .append) (xs := #[.tmp 39, .tmp 45]) rfl ?_); at_builtin; refine Kd.R_append (Kd.int .u8) (w0 := w4) (W := wd) w4.heap.size rfl (.tmp 39) (.tmp 45) 23 5 (.int .u8 0) 1 rfl Tryz.underlying23 info5 rfl (by decide) (by omega) _ (nat8 acc) ((n * 16 + m : Nat) : Int) [.int .u8 ((n * 16 + m : Nat) : Int)] (fun _ => True) (fun _ => False) rfl rfl rfl (fun _ hk => hk.elim) (fun _ _ => trivial) HOd.out HBd.out HBd.out.size HAL2.out ?_; intro v5 w5 hR5 hB5 _ _; rw [← HNL.out] at hR5; have HR5 := Aside0.mk hR5; have HB5 := Aside0.mk hB5; clear hR5 hB5)
            have HSZ := Aside0.mk (show (x.extract 2 x.size).size = x.size - 2 by
              have h1 := congrArg List.length (extract_two x)
              rw [List.length_drop, ← Lib.size_eq, ← Lib.size_eq] at h1
              exact h1)
            clear hor ha hb
            go_wp2
            go_roundw
            case rel => exact ⟨x.extract 2 x.size, acc ++ [(n * 16 + m).toUInt8], rfl, HU2, ⟨by have h1 := HA.out; have h2 := HSZ.out; rw [List.length_append, List.length_singleton]; omega⟩, HR5, HB5⟩
            case measure => have h2 := HSZ.out; simp [strSz]; omega
        · have hx1b : decide (1 < (x.size : Int)) = false := decide_eq_false (by omega)
          have hx1i : ¬ (1 : Int) < (x.size : Int) := by omega
          have HUE := Aside0.mk (show unhexU x.data.toList acc = some acc by
            have h1 : x.data.toList.length ≤ 1 := by rw [← Lib.size_eq]; omega
            match hh : x.data.toList, h1 with
            | [], _ => rfl
            | [a], _ => rfl
            | a :: b :: r, h1 => simp at h1)
          have HP := Aside0.mk (show preV s = ((2, 0, ⟨acc.toArray⟩), false) by
            unfold preV
            rw [HPB.out, if_pos rfl, HINN.out, ← HU.out, HUE.out])
          obtain ⟨A7, c7, rfl, hc7, hC7⟩ := Kd.R_reads HO.out
          have hcv := fun W (hW : (Kd.int .u8).C W A7 (nat8 acc).length (nat8 acc)) => Kd.C_string (P := Tryz.prog) (src := 23) (dst := 9) (e := 5) (c := c7) Tryz.underlying23 Tryz.underlying5 Tryz.underlying9 hW
          have hcv1 := hcv wr hC7
          rw [show strOfNums (nat8 acc) = ⟨acc.toArray⟩ from strOf8 acc] at hcv1
          clear hcv hC7 HU HUE HO HA hx1 hx63
          go_wp2_with (go_at_call 35; (with_reducible refine (value_Text.calls ⟨acc.toArray⟩ 2 0 ⟨acc.toArray⟩ wr rfl).mono ?_); rintro e w7 ⟨rfl, hb⟩; have HK47 := Aside0.mk (HK4.out.after hb); have HK27 := Aside0.mk (HK2.out.after hb); have HB7 := Aside0.mk (HB6.out.trans (hb.mono HB6.out.size)); have u0 : w7.cell? ⟨g4, 0, none⟩ = some (.int .i64 3) := HK47.out.cell 0; have u1 : w7.cell? ⟨g4, 1, none⟩ = some (.int .i64 tv) := HK47.out.cell 1; have u2 : w7.cell? ⟨g4, 2, none⟩ = some (.string ⟨#[]⟩) := HK47.out.cell 2; have v0 : w7.frozen? ⟨g4, 0, none⟩ = false := HK47.out.frozen 0; have v1 : w7.frozen? ⟨g4, 1, none⟩ = false := HK47.out.frozen 1; have v2 : w7.frozen? ⟨g4, 2, none⟩ = false := HK47.out.frozen 2; clear hb)
          go_meet
          case rel => exact ⟨2, 0, ⟨acc.toArray⟩, ⟨by simpa using ((HK47.out.set_ 0 (.int .i64 2)).set_ 1 (.int .i64 0)).set_ 2 (.string ⟨acc.toArray⟩)⟩, ⟨((HK27.out.far (p := ⟨g4, 0, none⟩) HNE.out.1 _).far (p := ⟨g4, 1, none⟩) HNE.out.1 _).far (p := ⟨g4, 2, none⟩) HNE.out.1 _⟩, ⟨((HB7.out.setCell (by exact HNE.out.2.2) _).setCell (by exact HNE.out.2.2) _).setCell (by exact HNE.out.2.2) _⟩, HP⟩
  case rest =>
    obtain ⟨f0, f1, f2, HK4, HK2, HB, HP⟩ := hcut
    clear HKc HKd HB4
    have h := H.out
    rw [HP.out] at h
    dsimp only at h
    rw [if_neg (by decide)] at h
    obtain ⟨q, hq, h⟩ := Option.bind_eq_some_iff.1 h
    have HQ := Aside0.mk hq
    clear hq H
    go_upto_region 15 with (fail)
    have HK4d := Aside0.mk HK4.out.drew
    have HK2d := Aside0.mk HK2.out.drew
    have HBd := Aside0.mk HB.out.drew
    have x0 : wc.drew.cell? ⟨g4, 0, none⟩ = some (.int .i64 f0) := HK4d.out.cell 0
    have x1 : wc.drew.cell? ⟨g4, 1, none⟩ = some (.int .i64 f1) := HK4d.out.cell 1
    have x2 : wc.drew.cell? ⟨g4, 2, none⟩ = some (.string f2) := HK4d.out.cell 2
    clear HK4 HK2 HB
    cases q
    · rw [if_neg (by decide)] at h
      have HH := Aside0.mk h
      clear h
      refine start_ (n := 11) (S := fun w' => w'.cell? ⟨g4, 0, none⟩ = some (.int .i64 f0) ∧ w'.cell? ⟨g4, 1, none⟩ = some (.int .i64 f1) ∧ w'.cell? ⟨g4, 2, none⟩ = some (.string f2)) (ds := [9]) #[false, false, false, false, false, false, false, false, false, false, false] (by kernel_rfl) rfl rfl ⟨x0, x1, x2⟩ (fun hHeld => ?_)
      generalize wc.drew = wd at HK4d HK2d HBd x0 x1 x2 hHeld ⊢
      refine take_ (i := 0) (N := some 59) (v := ?_) (a' := ?_) #[true, false, false, false, false, false, false, false, false, false, false] rfl rfl (by kernel_rfl) (fun _ _ _ h => h) (Or.inl ⟨by rfl, ?_⟩) hHeld ?_ ?_
      rotate_left
      · rintro w' ⟨s0, s1, s2⟩
        go_simp
        with_reducible rfl
      rotate_left
      · simp only [Act.put, List.setIfInBounds_toArray, List.set_cons_zero, List.set_cons_succ, i64_w, i32_w]
        rfl
      refine take_ (i := 1) (N := some 60) (v := ?_) (a' := ?_) #[true, true, false, false, false, false, false, false, false, false, false] rfl rfl (by kernel_rfl) (fun _ _ _ h => h) (Or.inl ⟨by rfl, ?_⟩) hHeld ?_ ?_
      rotate_left
      · rintro w' ⟨s0, s1, s2⟩
        go_simp
        with_reducible rfl
      rotate_left
      · simp only [Act.put, List.setIfInBounds_toArray, List.set_cons_zero, List.set_cons_succ, i64_w, i32_w]
        rfl
      refine one_ (i := 2) (N := some 61) #[true, true, true, false, false, false, false, false, false, false, false] rfl rfl (by kernel_rfl) (by decide) (fun K hK => ?_)
      refine goes_ Tryz.func37 (by kernel_rfl) rfl #[.agg #[.int .i64 f0, .int .i64 f1, .string f2]] (by rfl) rfl rfl (by simp only [List.map_toArray, List.map_cons, List.map_nil]; rfl) ?_
      with_reducible refine (value_Right.calls f0 f1 f2 false wd HQ.out).mono ?_
      rintro e w6 ⟨rfl, hb6⟩
      refine ⟨_, rfl, ?_⟩
      have HK46 := Aside0.mk (HK4d.out.after hb6)
      have HK26 := Aside0.mk (HK2d.out.after hb6)
      have HB6 := Aside0.mk (HBd.out.trans (hb6.mono HBd.out.size))
      have z0 : w6.cell? ⟨g2, 0, none⟩ = some (.int .i64 0) := HK26.out.cell 0
      have z1 : w6.cell? ⟨g2, 1, none⟩ = some (.int .i64 0) := HK26.out.cell 1
      have z2 : w6.cell? ⟨g2, 2, none⟩ = some (.string ⟨#[]⟩) := HK26.out.cell 2
      have y0 : w6.frozen? ⟨g2, 0, none⟩ = false := HK26.out.frozen 0
      have y1 : w6.frozen? ⟨g2, 1, none⟩ = false := HK26.out.frozen 1
      have y2 : w6.frozen? ⟨g2, 2, none⟩ = false := HK26.out.frozen 2
      clear hb6
      refine hK.out _ _ ⟨(HK46.out.cell 0), (HK46.out.cell 1), (HK46.out.cell 2)⟩ (fun hHeld => ?_)
      clear hK K
      refine norm_ (a' := ?_) ?_ ?_
      rotate_left
      · show Act.put _ (some 61) _ = _
        simp only [Act.put, List.setIfInBounds_toArray, List.set_cons_zero, List.set_cons_succ, i64_w, i32_w]
        rfl
      refine pure_ (i := 3) (N := some 62) (v := ?_) (a' := ?_) #[true, true, true, true, false, false, false, false, false, false, false] rfl rfl (by kernel_rfl) (fun _ _ _ h => h) (Or.inl ⟨by rfl, ?_⟩) ?_ ?_
      rotate_left
      · intro w'
        go_simp
        with_reducible rfl
      rotate_left
      · simp only [Act.put, List.setIfInBounds_toArray, List.set_cons_zero, List.set_cons_succ, i64_w, i32_w]
        rfl
      refine pure_ (i := 4) (N := some 63) (v := undef) (a' := ?_) #[true, true, true, true, true, false, false, false, false, false, false] rfl rfl (by kernel_rfl) (fun _ _ _ h => h) (Or.inr ⟨by rfl, rfl⟩) ?_ ?_
      rotate_left
      · simp only [Act.put, List.setIfInBounds_toArray, List.set_cons_zero, List.set_cons_succ, i64_w, i32_w]
        rfl
      refine pure_ (i := 5) (N := some 64) (v := undef) (a' := ?_) #[true, true, true, true, true, true, false, false, false, false, false] rfl rfl (by kernel_rfl) (fun _ _ _ h => h) (Or.inr ⟨by rfl, rfl⟩) ?_ ?_
      rotate_left
      · simp only [Act.put, List.setIfInBounds_toArray, List.set_cons_zero, List.set_cons_succ, i64_w, i32_w]
        rfl
      refine pure_ (i := 6) (N := some 65) (v := undef) (a' := ?_) #[true, true, true, true, true, true, true, false, false, false, false] rfl rfl (by kernel_rfl) (fun _ _ _ h => h) (Or.inr ⟨by rfl, rfl⟩) ?_ ?_
      rotate_left
      · simp only [Act.put, List.setIfInBounds_toArray, List.set_cons_zero, List.set_cons_succ, i64_w, i32_w]
        rfl
      refine pure_ (i := 7) (N := some 66) (v := undef) (a' := ?_) #[true, true, true, true, true, true, true, true, false, false, false] rfl rfl (by kernel_rfl) (fun _ _ _ h => h) (Or.inr ⟨by rfl, rfl⟩) ?_ ?_
      rotate_left
      · simp only [Act.put, List.setIfInBounds_toArray, List.set_cons_zero, List.set_cons_succ, i64_w, i32_w]
        rfl
      refine pure_ (i := 8) (N := some 67) (v := ?_) (a' := ?_) #[true, true, true, true, true, true, true, true, true, false, false] rfl rfl (by kernel_rfl) (fun _ _ _ h => h) (Or.inl ⟨by rfl, ?_⟩) ?_ ?_
      rotate_left
      · intro w'
        go_simp
        with_reducible rfl
      rotate_left
      · simp only [Act.put, List.setIfInBounds_toArray, List.set_cons_zero, List.set_cons_succ, i64_w, i32_w]
        rfl
      refine last_ (i := 9) (N := none) #[true, true, true, true, true, true, true, true, true, true, false] rfl rfl (by kernel_rfl) (by decide) (fun K hK => ?_)
      refine skip_ (w1 := ?_) (by rfl) rfl ?_ ?_
      rotate_left
      · go_simp
        rfl
      refine hK.out _ _ ?_
      clear hK K
      refine pure_ (i := 10) (N := some 3) (v := ?_) (a' := ?_) #[true, true, true, true, true, true, true, true, true, true, true] rfl rfl (by kernel_rfl) (fun _ _ _ h => h) (Or.inl ⟨by rfl, ?_⟩) ?_ ?_
      rotate_left
      · intro w'
        go_simp
        with_reducible rfl
      rotate_left
      · simp only [Act.put, List.setIfInBounds_toArray, List.set_cons_zero, List.set_cons_succ, i64_w, i32_w]
        rfl
      refine done_ (by kernel_rfl) ?_
      clear hHeld
      go_wp2
      have hh := HH.out
      simp only [Option.some.injEq, Prod.mk.injEq] at hh
      obtain ⟨rfl, rfl, rfl, rfl⟩ := hh
      refine bodyPost_ret (results_ct rfl _ _ g2 47 #[.int .i64 f0, .int .i64 f1, .string f2] (0, 0) _ rfl (show Blk _ g2 47 #[.int .i64 f0, .int .i64 f1, .string f2] from by simpa using ((HK26.out.set_ 0 (.int .i64 f0)).set_ 1 (.int .i64 f1)).set_ 2 (.string f2)) Tryz.underlying47 rfl (by kernel_rfl)) rfl ?_
      exact ⟨rfl, ((HB6.out.setCell (by exact HNE.out.2.1) _).setCell (by exact HNE.out.2.1) _).setCell (by exact HNE.out.2.1) _⟩
    · rw [if_pos rfl] at h
      obtain ⟨t, ht, h⟩ := Option.bind_eq_some_iff.1 h
      have HX := Aside0.mk ht
      have HH := Aside0.mk h
      clear ht h
      refine start_ (n := 11) (S := fun w' => w'.cell? ⟨g4, 0, none⟩ = some (.int .i64 f0) ∧ w'.cell? ⟨g4, 1, none⟩ = some (.int .i64 f1) ∧ w'.cell? ⟨g4, 2, none⟩ = some (.string f2)) (ds := [9]) #[false, false, false, false, false, false, false, false, false, false, false] (by kernel_rfl) rfl rfl ⟨x0, x1, x2⟩ (fun hHeld => ?_)
      generalize wc.drew = wd at HK4d HK2d HBd x0 x1 x2 hHeld ⊢
      refine take_ (i := 0) (N := some 59) (v := ?_) (a' := ?_) #[true, false, false, false, false, false, false, false, false, false, false] rfl rfl (by kernel_rfl) (fun _ _ _ h => h) (Or.inl ⟨by rfl, ?_⟩) hHeld ?_ ?_
      rotate_left
      · rintro w' ⟨s0, s1, s2⟩
        go_simp
        with_reducible rfl
      rotate_left
      · simp only [Act.put, List.setIfInBounds_toArray, List.set_cons_zero, List.set_cons_succ, i64_w, i32_w]
        rfl
      refine take_ (i := 1) (N := some 60) (v := ?_) (a' := ?_) #[true, true, false, false, false, false, false, false, false, false, false] rfl rfl (by kernel_rfl) (fun _ _ _ h => h) (Or.inl ⟨by rfl, ?_⟩) hHeld ?_ ?_
      rotate_left
      · rintro w' ⟨s0, s1, s2⟩
        go_simp
        with_reducible rfl
      rotate_left
      · simp only [Act.put, List.setIfInBounds_toArray, List.set_cons_zero, List.set_cons_succ, i64_w, i32_w]
        rfl
      refine one_ (i := 2) (N := some 61) #[true, true, true, false, false, false, false, false, false, false, false] rfl rfl (by kernel_rfl) (by decide) (fun K hK => ?_)
      refine goes_ Tryz.func37 (by kernel_rfl) rfl #[.agg #[.int .i64 f0, .int .i64 f1, .string f2]] (by rfl) rfl rfl (by simp only [List.map_toArray, List.map_cons, List.map_nil]; rfl) ?_
      with_reducible refine (value_Right.calls f0 f1 f2 true wd HQ.out).mono ?_
      rintro e w6 ⟨rfl, hb6⟩
      refine ⟨_, rfl, ?_⟩
      have HK46 := Aside0.mk (HK4d.out.after hb6)
      have HK26 := Aside0.mk (HK2d.out.after hb6)
      have HB6 := Aside0.mk (HBd.out.trans (hb6.mono HBd.out.size))
      clear hb6
      refine hK.out _ _ ⟨(HK46.out.cell 0), (HK46.out.cell 1), (HK46.out.cell 2)⟩ (fun hHeld => ?_)
      clear hK K
      refine norm_ (a' := ?_) ?_ ?_
      rotate_left
      · show Act.put _ (some 61) _ = _
        simp only [Act.put, List.setIfInBounds_toArray, List.set_cons_zero, List.set_cons_succ, i64_w, i32_w]
        rfl
      refine pure_ (i := 3) (N := some 62) (v := ?_) (a' := ?_) #[true, true, true, true, false, false, false, false, false, false, false] rfl rfl (by kernel_rfl) (fun _ _ _ h => h) (Or.inl ⟨by rfl, ?_⟩) ?_ ?_
      rotate_left
      · intro w'
        go_simp
        with_reducible rfl
      rotate_left
      · simp only [Act.put, List.setIfInBounds_toArray, List.set_cons_zero, List.set_cons_succ, i64_w, i32_w]
        rfl
      refine pure_ (i := 6) (N := some 65) (v := ?_) (a' := ?_) #[true, true, true, true, false, false, true, false, false, false, false] rfl rfl (by kernel_rfl) (fun _ _ _ h => h) (Or.inl ⟨by rfl, ?_⟩) ?_ ?_
      rotate_left
      · intro w'
        go_simp
        with_reducible rfl
      rotate_left
      · simp only [Act.put, List.setIfInBounds_toArray, List.set_cons_zero, List.set_cons_succ, i64_w, i32_w]
        rfl
      refine take_ (i := 4) (N := some 63) (v := ?_) (a' := ?_) #[true, true, true, true, true, false, true, false, false, false, false] rfl rfl (by kernel_rfl) (fun _ _ _ h => h) (Or.inl ⟨by rfl, ?_⟩) hHeld ?_ ?_
      rotate_left
      · rintro w' ⟨s0, s1, s2⟩
        go_simp
        with_reducible rfl
      rotate_left
      · simp only [Act.put, List.setIfInBounds_toArray, List.set_cons_zero, List.set_cons_succ, i64_w, i32_w]
        rfl
      refine one_ (i := 5) (N := some 64) #[true, true, true, true, true, true, true, false, false, false, false] rfl rfl (by kernel_rfl) (by decide) (fun K hK => ?_)
      refine goes_ Tryz.func40 (by kernel_rfl) rfl #[.agg #[.int .i64 f0, .int .i64 f1, .string f2]] (by rfl) rfl rfl (by simp only [List.map_toArray, List.map_cons, List.map_nil]; rfl) ?_
      with_reducible refine (value_text.calls f0 f1 f2 t w6 HX.out (HV.out.below HB6.out)).mono ?_
      rintro e w7 ⟨rfl, hb7⟩
      refine ⟨_, rfl, ?_⟩
      have HK27 := Aside0.mk (HK26.out.after hb7)
      have HK47 := Aside0.mk (HK46.out.after hb7)
      have HB7 := Aside0.mk (HB6.out.trans (hb7.mono HB6.out.size))
      have z0 : w7.cell? ⟨g2, 0, none⟩ = some (.int .i64 0) := HK27.out.cell 0
      have z1 : w7.cell? ⟨g2, 1, none⟩ = some (.int .i64 0) := HK27.out.cell 1
      have z2 : w7.cell? ⟨g2, 2, none⟩ = some (.string ⟨#[]⟩) := HK27.out.cell 2
      have y0 : w7.frozen? ⟨g2, 0, none⟩ = false := HK27.out.frozen 0
      have y1 : w7.frozen? ⟨g2, 1, none⟩ = false := HK27.out.frozen 1
      have y2 : w7.frozen? ⟨g2, 2, none⟩ = false := HK27.out.frozen 2
      clear hb7
      refine hK.out _ _ ⟨(HK47.out.cell 0), (HK47.out.cell 1), (HK47.out.cell 2)⟩ (fun hHeld => ?_)
      clear hK K
      refine norm_ (a' := ?_) ?_ ?_
      rotate_left
      · show Act.put _ (some 64) _ = _
        simp only [Act.put, List.setIfInBounds_toArray, List.set_cons_zero, List.set_cons_succ, i64_w, i32_w]
        rfl
      refine pure_ (i := 7) (N := some 66) (v := ?_) (a' := ?_) #[true, true, true, true, true, true, true, true, false, false, false] rfl rfl (by kernel_rfl) (fun _ _ _ h => h) (Or.inl ⟨by rfl, ?_⟩) ?_ ?_
      rotate_left
      · intro w'
        go_simp
        with_reducible rfl
      rotate_left
      · simp only [Act.put, List.setIfInBounds_toArray, List.set_cons_zero, List.set_cons_succ, i64_w, i32_w]
        rfl
      refine pure_ (i := 8) (N := some 67) (v := ?_) (a' := ?_) #[true, true, true, true, true, true, true, true, true, false, false] rfl rfl (by kernel_rfl) (fun _ _ _ h => h) (Or.inl ⟨by rfl, ?_⟩) ?_ ?_
      rotate_left
      · intro w'
        go_simp
        with_reducible rfl
      rotate_left
      · simp only [Act.put, List.setIfInBounds_toArray, List.set_cons_zero, List.set_cons_succ, i64_w, i32_w]
        rfl
      refine last_ (i := 9) (N := none) #[true, true, true, true, true, true, true, true, true, true, false] rfl rfl (by kernel_rfl) (by decide) (fun K hK => ?_)
      refine skip_ (w1 := ?_) (by rfl) rfl ?_ ?_
      rotate_left
      · go_simp
        rfl
      refine hK.out _ _ ?_
      clear hK K
      refine pure_ (i := 10) (N := some 3) (v := ?_) (a' := ?_) #[true, true, true, true, true, true, true, true, true, true, true] rfl rfl (by kernel_rfl) (fun _ _ _ h => h) (Or.inl ⟨by rfl, ?_⟩) ?_ ?_
      rotate_left
      · intro w'
        go_simp
        with_reducible rfl
      rotate_left
      · simp only [Act.put, List.setIfInBounds_toArray, List.set_cons_zero, List.set_cons_succ, i64_w, i32_w]
        rfl
      refine done_ (by kernel_rfl) ?_
      clear hHeld
      go_wp2
      have hh := HH.out
      simp only [Option.some.injEq, Prod.mk.injEq] at hh
      obtain ⟨rfl, rfl, rfl, rfl⟩ := hh
      refine bodyPost_ret (results_ct rfl _ _ g2 47 #[.int .i64 f0, .int .i64 f1, .string f2] (0, 0) _ rfl (show Blk _ g2 47 #[.int .i64 f0, .int .i64 f1, .string f2] from by simpa using ((HK27.out.set_ 0 (.int .i64 f0)).set_ 1 (.int .i64 f1)).set_ 2 (.string f2)) Tryz.underlying47 rfl (by kernel_rfl)) rfl ?_
      exact ⟨rfl, ((HB7.out.setCell (by exact HNE.out.2.1) _).setCell (by exact HNE.out.2.1) _).setCell (by exact HNE.out.2.1) _⟩


end Go.Proofs.YtblaibigjhlblaaGreatDoor.Q
end

section
-- written by hprint.py (a program of these sessions) out of the translation; Lean checks it
namespace Go.Proofs.YtblaibigjhlblaaGreatDoor.Q
open Go.RowKit Go.Proofs.YtblaibigjhlblaaGreatDoorW.Hb Go.Proofs.YtblaibigjhlblaaGreatDoorW.PrintWords Go.Proofs.YtblaibigjhlblaaGreatDoorW.PrintLast Go.Proofs.YtblaibigjhlblaaGreatDoorW.PrintMore
attribute [local go_sem] max2_int min2_int max_two min_two max_three min_three max_four min_four   -- for this text's walks alone
set_option linter.unusedVariables false
set_option linter.unusedSimpArgs false

/-! ### value_Parse: function 15, by hand -/
def parseL : List ByteArray → List S47 → Option (List S47 × Int)
  | [], acc => some (acc, 0)
  | s :: r, acc => (value_word.f s).bind fun v => if v.2.2.2 = true then parseL r (acc ++ [⟨v.1, v.2.1, v.2.2.1⟩]) else some ([], 21)
def spB (s : ByteArray) : List ByteArray := Lib.splitB ⟨#[32]⟩ 0 (Lib.countB s ⟨#[32]⟩) s
theorem at_strP {w : World} {A : Option Addr} {n : Nat} {xs : List ByteArray} (h : Kd.string.C w A n xs) (i : Nat) (hi : i < xs.length) : ∃ ad, A = some ad ∧ w.cell? (ad.add i) = some (.string xs[i]) := by
  obtain ⟨ad, e, hc⟩ := Kd.at_string h i (by omega) (by have := h.1; omega)
  refine ⟨ad, e, ?_⟩
  rw [Int.toNat_natCast] at hc
  rw [hc]
  simp [rdOf, List.getD_eq_getElem?_getD, hi]
theorem parseC (w : World) (P : List ByteArray) (hP : P.length ≤ 9223372036854775807) : Kd.string.C (w.alloc (.cells (P.map Value.string).toArray 9)) (some ⟨w.heap.size, 0, none⟩) P.length P := by
  refine ⟨rfl, hP, fun _ => ⟨_, rfl, fun j p hj => ⟨[.string p], rfl, rfl, fun i u hu => ?_⟩⟩⟩
  have hi : i = 0 := by
    rcases i with _ | i
    · rfl
    · simp at hu
  subst hi
  obtain rfl : Value.string p = u := by simpa using hu
  have e : j * Kd.string.sz + 0 = j := by show j * 1 + 0 = j; omega
  rw [e, Addr.add_lit, Nat.zero_add, (Blk.new w 9 (P.map Value.string).toArray).cell j]
  simp [hj]
def value_Parse.f (s : ByteArray) : Option (List S47 × Int) := if s.size = 0 then some ([], 0) else if 4294967281 ≤ s.size then none else if (spB s).length = Lib.countB s ⟨#[32]⟩ + 1 ∧ (spB s).length * 32 ≤ 140737488355328 then parseL (spB s) [] else none
set_option maxRecDepth 100000 in
set_option maxHeartbeats 4000000 in
theorem value_Parse.calls (s : ByteArray) (r1 : List S47) (r2 : Int) (w : World) (h : value_Parse.f s = some (r1, r2)) (hV : VarsOk w) :
    Calls Tryz.prog 15 #[.string s] w fun e w' => ∃ v0_ : Value, e = .returned (.tuple #[v0_, .int .i64 r2]) ∧ Kd.R k47 47 w' w.heap.size (fun _ => True) v0_ r1 ∧ Below w.heap.size w w' := by
  unfold value_Parse.f at h
  by_cases h0 : s.size = 0
  · rw [if_pos h0] at h
    simp only [Option.some.injEq, Prod.mk.injEq] at h
    obtain ⟨rfl, rfl⟩ := h
    have hs : s = ⟨#[]⟩ := by
      have : s.data.toList = [] := List.eq_nil_of_length_eq_zero (by rw [← Lib.size_eq]; exact h0)
      cases s with
      | mk d => simpa using this
    subst hs
    clear h0
    go_enter Tryz.func15, Tryz.ntmps15
    go_wp2
    go_ret2
    exact ⟨_, rfl, Kd.R_nil _ _ _ _ _, Below.refl _ _⟩
  rw [if_neg h0] at h
  by_cases hbig : 4294967281 ≤ s.size
  · rw [if_pos hbig] at h
    cases h
  rw [if_neg hbig] at h
  by_cases hsp : (spB s).length = Lib.countB s ⟨#[32]⟩ + 1 ∧ (spB s).length * 32 ≤ 140737488355328
  rotate_left
  · rw [if_neg hsp] at h
    cases h
  rw [if_pos hsp] at h
  have H0 := Aside0.mk h
  have HV := Aside0.mk hV
  have hne : (s.toList == []) = false := by
    have : s.toList ≠ [] := by
      intro he
      rw [ByteArray.toList_eq] at he
      exact h0 (by rw [Lib.size_eq, he]; rfl)
    simpa using this
  have HSP := Aside0.mk (splitV s ⟨#[32]⟩ (by omega) (by decide) w hV)
  obtain ⟨P, hP⟩ : ∃ P, spB s = P := ⟨_, rfl⟩
  rw [show Lib.splitB ⟨#[32]⟩ 0 (Lib.countB s ⟨#[32]⟩) s = P from hP, ← hsp.1, hP] at HSP
  rw [hP] at H0
  have HPL := Aside0.mk (show P.length * 32 ≤ 140737488355328 by rw [← hP]; exact hsp.2)
  have HPC := Aside0.mk (show Kd.string.C (w.alloc (.cells (P.map Value.string).toArray 9)) (some ⟨w.heap.size, 0, none⟩) P.length P from parseC w P (by rw [← hP]; have := hsp.2; omega))
  have HB1 := Aside0.mk ((Below.refl w.heap.size w).alloc (Nat.le_refl _) (.cells (P.map Value.string).toArray 9))
  have hPm : P.length ≤ 9223372036854775807 := by rw [← hP]; have := hsp.2; omega
  clear h hV h0 hbig hsp hP
  go_enter Tryz.func15, Tryz.ntmps15
  go_wp2_with (go_at_call 38; (with_reducible refine HSP.out.mono ?_); rintro e w1 ⟨rfl, rfl⟩)
  obtain ⟨w1, hw1⟩ : ∃ w1, w1 = w.alloc (.cells (P.map Value.string).toArray 9) := ⟨_, rfl⟩
  rw [← hw1] at HPC HB1 ⊢
  clear hw1 HSP hne
  go_loopw [4, 14] (fun v4 v14 wl => ∃ (j : Nat) (acc : List S47), j ≤ P.length ∧ v14 = .int .i64 j ∧ Aside0 (parseL (P.drop j) acc = some (r1, r2)) ∧ Aside0 (acc.length ≤ j) ∧ Aside0 (Kd.R k47 47 wl w1.heap.size (fun _ => True) v4 acc) ∧ Aside0 (Below w1.heap.size w1 wl)) (fun _ v _ => P.length - (intOf v).toNat)
  case atStart => exact ⟨0, [], Nat.zero_le _, rfl, H0, ⟨Nat.le_refl _⟩, ⟨Kd.R_nil _ _ _ _ _⟩, ⟨Below.refl _ _⟩⟩
  case round =>
    clear H0
    obtain ⟨j, acc, hj, rfl, HU, HA, HO, HBl⟩ := hrel
    have HB := Aside0.mk (HB1.out.trans (HBl.out.mono HB1.out.size))
    by_cases hlt : j < P.length
    · obtain ⟨ad, e, hc⟩ := at_strP (Kd.C_below HPC.out HBl.out) j hlt
      cases e
      obtain ⟨x, hx⟩ : ∃ x, P[j] = x := ⟨_, rfl⟩
      have h := HU.out
      rw [List.drop_eq_getElem_cons hlt, parseL] at h
      rw [hx] at hc h
      obtain ⟨⟨a, b, c, ok⟩, hwd, h⟩ := Option.bind_eq_some_iff.1 h
      dsimp only at h
      have HW := Aside0.mk (value_word.calls x a b c ok wr hwd (HV.out.below HB.out))
      have hlti : (j : Int) < (P.length : Int) := by omega
      have HAL := Aside0.mk (show (acc.length + 1) * 32 ≤ 140737488355328 by have := HA.out; have := HPL.out; omega)
      rw [Addr.add_lit, Nat.zero_add] at hc
      clear hwd hx HU
      cases ok
      · rw [if_neg (by decide)] at h
        simp only [Option.some.injEq, Prod.mk.injEq] at h
        obtain ⟨rfl, rfl⟩ := h
        go_wp2_with (go_at_call 39; (with_reducible refine HW.out.mono ?_); rintro e w4 ⟨rfl, hb4⟩; have HB4 := Aside0.mk (HB.out.trans (hb4.mono HB.out.size)); clear hb4)
        go_ret2
        exact ⟨_, rfl, Kd.R_nil _ _ _ _ _, HB4.out.alloc HB4.out.size _⟩
      · rw [if_pos rfl] at h
        have HU2 := Aside0.mk h
        clear h
        go_upto_region 10 with (go_at_call 39; (with_reducible refine HW.out.mono ?_); rintro e w4 ⟨rfl, hb4⟩; have HBl4 := Aside0.mk ((HBl.out.trans (hb4.mono HBl.out.size)).alloc (HBl.out.trans (hb4.mono HBl.out.size)).size (.cells #[.int .i64 a, .int .i64 b, .string c] 47)); have HB4 := Aside0.mk (HB1.out.trans (HBl4.out.mono HB1.out.size)); have HO4 := Aside0.mk (Kd.R_alloc (Kd.R_below HO.out hb4) (.cells #[.int .i64 a, .int .i64 b, .string c] 47)); clear hb4)
        have k0 : (w4.alloc (.cells #[.int .i64 a, .int .i64 b, .string c] 47)).cell? ⟨w4.heap.size, 0, none⟩ = some (.int .i64 a) := (Blk.new w4 47 #[.int .i64 a, .int .i64 b, .string c]).cell 0
        have k1 : (w4.alloc (.cells #[.int .i64 a, .int .i64 b, .string c] 47)).cell? ⟨w4.heap.size, 1, none⟩ = some (.int .i64 b) := (Blk.new w4 47 #[.int .i64 a, .int .i64 b, .string c]).cell 1
        have k2 : (w4.alloc (.cells #[.int .i64 a, .int .i64 b, .string c] 47)).cell? ⟨w4.heap.size, 2, none⟩ = some (.string c) := (Blk.new w4 47 #[.int .i64 a, .int .i64 b, .string c]).cell 2
        generalize w4.alloc (.cells #[.int .i64 a, .int .i64 b, .string c] 47) = w6 at HBl4 HB4 HO4 k0 k1 k2 ⊢
        go_wp2_with ((with_reducible refine gate_builtin (b := .append) (xs := #[.tmp 25, .tmp 27]) rfl ?_); at_builtin; refine Kd.R_append k47 (w0 := w1) w1.heap.size rfl (.tmp 25) (.tmp 27) 22 47 (.agg #[(.int .i64 0), (.int .i64 0), (.string ⟨#[]⟩)]) 32 rfl Tryz.underlying22 info47 rfl (by decide) (by omega) _ acc ⟨a, b, c⟩ [.int .i64 a, .int .i64 b, .string c] (fun _ => True) (fun _ => False) rfl rfl ?aP (fun _ hk => hk.elim) (fun _ _ => trivial) HO4.out HBl4.out HBl4.out.size HAL.out ?_; (case aP => exact k47_mkM _ _ _ ⟨a, b, c⟩); intro v5 w5 hR5 hB5 _ _; have HR5 := Aside0.mk hR5; have HB5 := Aside0.mk hB5; clear hR5 hB5)
        go_roundw
        case rel => exact ⟨j + 1, _, by omega, by go_num, HU2, ⟨by have := HA.out; rw [List.length_append, List.length_singleton]; omega⟩, HR5, HB5⟩
        case measure => simp [intOf]; omega
    · have hdr : P.drop j = [] := List.drop_eq_nil_of_le (by omega)
      have h := HU.out
      rw [hdr, parseL] at h
      simp only [Option.some.injEq, Prod.mk.injEq] at h
      obtain ⟨rfl, rfl⟩ := h
      have hlti : ¬ (j : Int) < (P.length : Int) := by omega
      clear hdr HU
      go_wp2
      go_ret2
      exact ⟨_, rfl, Kd.R_lower HO.out HB1.out.size, HB.out⟩


end Go.Proofs.YtblaibigjhlblaaGreatDoor.Q
end

section
-- written by hprint.py (a program of these sessions) out of the translation; Lean checks it
namespace Go.Proofs.YtblaibigjhlblaaGreatDoor.Q
open Go.RowKit Go.Proofs.YtblaibigjhlblaaGreatDoorW.Hb Go.Proofs.YtblaibigjhlblaaGreatDoorW.PrintWords Go.Proofs.YtblaibigjhlblaaGreatDoorW.PrintLast Go.Proofs.YtblaibigjhlblaaGreatDoorW.PrintMore
attribute [local go_sem] max2_int min2_int max_two min_two max_three min_three max_four min_four   -- for this text's walks alone
set_option linter.unusedVariables false
set_option linter.unusedSimpArgs false

/-! ### value_Print: function 16, by hand -/
def textsOf : List S47 → Option (List ByteArray)
  | [] => some []
  | v :: r => (value_text.f v.f0 v.f1 v.f2).bind fun t => (textsOf r).bind fun ts => some (t :: ts)
theorem textsOf_at : ∀ {l : List S47} {ts : List ByteArray}, textsOf l = some ts → ts.length = l.length ∧ ∀ (j : Nat) (v : S47), l[j]? = some v → ∃ t, ts[j]? = some t ∧ value_text.f v.f0 v.f1 v.f2 = some t
  | [], ts, h => by
    obtain rfl := Option.some.inj h
    exact ⟨rfl, fun j v hv => by simp at hv⟩
  | v :: r, ts, h => by
    obtain ⟨t, h1, h⟩ := Option.bind_eq_some_iff.1 h
    obtain ⟨ts', h2, h⟩ := Option.bind_eq_some_iff.1 h
    obtain rfl := Option.some.inj h
    obtain ⟨i1, i2⟩ := textsOf_at h2
    refine ⟨by rw [List.length_cons, List.length_cons, i1], fun j v' hv => ?_⟩
    cases j with
    | zero => obtain rfl : v = v' := by simpa using hv
              exact ⟨t, rfl, h1⟩
    | succ j => exact i2 j v' (by simpa using hv)
def joinB (ts : List ByteArray) : List UInt8 := Lib.join (ts.map (·.data.toList)) [32]
def value_Print.f (k : Nat) (l0 : List S47) : Option ByteArray := (value_all.f k l0).bind fun q => if q = true then (textsOf l0).bind fun ts => (if (l0.length + 1) * 16 ≤ 140737488355328 ∧ (joinB ts).length ≤ 140737488355328 then some ⟨(joinB ts).toArray⟩ else none) else some ⟨#[]⟩
theorem value_Print.mono : ∀ a0 k, LeO (value_Print.f k a0) (value_Print.f (k + 1) a0) := fun a0 k => LeO.bind (value_all.mono _ _) (fun _ => LeO.refl _)
set_option maxRecDepth 100000 in
set_option maxHeartbeats 4000000 in
theorem value_Print.calls (k : Nat) (A0 : Option Addr) (c0 : Nat) (l0 : List S47) (r : ByteArray) (w : World) (hr0 : Kd.C k47 w A0 l0.length l0) (hc0 : l0.length ≤ c0) (h : value_Print.f k l0 = some r) (hV : VarsOk w) :
    Calls Tryz.prog 16 #[.slice A0 l0.length c0] w fun e w' => e = .returned (.string r) ∧ Below w.heap.size w w' := by
  unfold value_Print.f at h
  obtain ⟨q, hq, h⟩ := Option.bind_eq_some_iff.1 h
  have HR := Aside0.mk hr0
  have HV := Aside0.mk hV
  have HQ := Aside0.mk (value_all.calls k A0 c0 l0 q w hr0 hc0 hq)
  have hm := hr0.2.1
  clear hr0 hV hq
  cases q
  · rw [if_neg (by decide)] at h
    obtain rfl := Option.some.inj h
    clear h
    go_enter Tryz.func16, Tryz.ntmps16
    go_wp2_with (go_at_call 17; (with_reducible refine HQ.out.mono ?_); rintro e w1 ⟨rfl, hb⟩; have HB1 := Aside0.mk hb; clear hb)
    go_ret
    exact ⟨rfl, HB1.out⟩
  · rw [if_pos rfl] at h
    obtain ⟨ts, hts, h⟩ := Option.bind_eq_some_iff.1 h
    by_cases hsz : (l0.length + 1) * 16 ≤ 140737488355328 ∧ (joinB ts).length ≤ 140737488355328
    · rw [if_pos hsz] at h
      obtain rfl := Option.some.inj h
      have HSZ := Aside0.mk hsz
      have HTS := Aside0.mk (textsOf_at hts)
      clear h hsz hts
      go_enter Tryz.func16, Tryz.ntmps16
      go_upto_region 3 with (go_at_call 17; (with_reducible refine HQ.out.mono ?_); rintro e w1 ⟨rfl, hb⟩; have HB1 := Aside0.mk hb; clear hb)
      clear HQ
      go_wp2
      go_loopw [3, 11] (fun v3 v11 wl => ∃ j : Nat, j ≤ l0.length ∧ v11 = .int .i64 j ∧ Aside0 (Kd.string.R 9 wl w.heap.size (fun _ => True) v3 (ts.take j)) ∧ Aside0 (Below w.heap.size w wl)) (fun _ v _ => l0.length - (intOf v).toNat)
      case atStart => exact ⟨0, Nat.zero_le _, rfl, ⟨Kd.R_nil _ _ _ _ _⟩, HB1⟩
      case round =>
        clear HB1
        obtain ⟨j, hj, rfl, HO, HB⟩ := hrel
        by_cases hlt : j < l0.length
        · obtain ⟨ad, e, x0, x1, x2⟩ := at_T47 (Kd.C_below HR.out HB.out) (j : Int) (by omega) (by omega)
          cases e
          obtain ⟨v, hv⟩ : ∃ v, l0[j]? = some v := ⟨_, List.getElem?_eq_getElem hlt⟩
          have hrd : rd_T47 l0 (j : Int) = v := by unfold rd_T47; rw [Int.toNat_natCast, List.getD_eq_getElem?_getD, hv]; rfl
          rw [hrd, Int.toNat_natCast] at x0 x1 x2
          obtain ⟨t, ht, htx⟩ := HTS.out.2 j v hv
          obtain ⟨f0, f1, f2⟩ := v
          dsimp only at x0 x1 x2 htx
          have HBa := Aside0.mk (HB.out.alloc HB.out.size (.cells #[.int .i64 f0, .int .i64 f1, .string f2] 47))
          have HTX := Aside0.mk (value_text.calls f0 f1 f2 t (wr.alloc (.cells #[.int .i64 f0, .int .i64 f1, .string f2] 47)) htx (HV.out.below HBa.out))
          have HOa := Aside0.mk (Kd.R_alloc HO.out (.cells #[.int .i64 f0, .int .i64 f1, .string f2] 47))
          have HTK := Aside0.mk (show ts.take (j + 1) = ts.take j ++ [t] by rw [List.take_add_one, ht]; rfl)
          have HTL := Aside0.mk (show ((ts.take j).length + 1) * 16 ≤ 140737488355328 by have := HSZ.out.1; rw [List.length_take]; have := HTS.out.1; omega)
          have hlti : (j : Int) < (l0.length : Int) := by omega
          clear hv hrd ht htx HO
          go_wp2_with (first | (go_at_call 40; (with_reducible refine HTX.out.mono ?_); rintro e w4 ⟨rfl, hb4⟩; have HO4 := Aside0.mk (Kd.R_below HOa.out hb4); have HB4 := Aside0.mk (HBa.out.trans (hb4.mono HBa.out.size)); clear hb4) | ((with_reducible refine gate_builtin (b := .append) (xs := #[.tmp 15, .tmp 18]) rfl ?_); at_builtin; refine Kd.R_append Kd.string (w0 := w) w.heap.size rfl (.tmp 15) (.tmp 18) 63 9 (.string ⟨#[]⟩) 16 rfl Tryz.underlying63 info9 rfl (by decide) (by omega) _ (ts.take j) t [.string t] (fun _ => True) (fun _ => False) rfl rfl rfl (fun _ hk => hk.elim) (fun _ _ => trivial) HO4.out HB4.out HB4.out.size HTL.out ?_; intro v5 w5 hR5 hB5 _ _; rw [← HTK.out] at hR5; have HR5 := Aside0.mk hR5; have HB5 := Aside0.mk hB5; clear hR5 hB5))
          go_roundw
          case rel => exact ⟨j + 1, by omega, by go_num, HR5, HB5⟩
          case measure => simp [intOf]; omega
        · have hlti : ¬ (j : Int) < (l0.length : Int) := by omega
          have hall : ts.take j = ts := List.take_of_length_le (by rw [HTS.out.1]; omega)
          rw [hall] at HO
          obtain ⟨A3, c3, rfl, hc3, hC3⟩ := Kd.R_reads HO.out
          have HJ : Aside0 (Calls Tryz.prog 41 #[.slice A3 ts.length c3, .string ⟨#[32]⟩] wr fun e w' => e = .returned (.string ⟨(joinB ts).toArray⟩) ∧ Below wr.heap.size wr w') := ⟨by
            by_cases h0 : ts = []
            · subst h0
              refine (Tryz.strings_Join_none A3 c3 ⟨#[32]⟩ wr).mono ?_
              rintro e w' ⟨rfl, rfl⟩
              exact ⟨rfl, Below.refl _ _⟩
            · obtain ⟨g, cap, hv, _, hlt', _⟩ := Kd.R_form HO.out (by rcases ts with _ | _; exact absurd rfl h0; simp)
              injection hv with h1 h2 h3
              subst h1 h3
              refine Tryz.strings_Join g 0 c3 ts ⟨#[32]⟩ wr (fun i x hx => ?_) hlt' (by have := HSZ.out.1; rw [HTS.out.1]; omega) hc3 HSZ.out.2
              have hi : i < ts.length := (List.getElem?_eq_some_iff.1 hx).1
              have hcel := (Kd.R_celln (⟨#[]⟩ : ByteArray) HO.out (i : Int) (by omega) (by omega)).1
              rw [Int.toNat_natCast] at hcel
              rw [Nat.zero_add, hcel]
              unfold rdOf
              rw [Int.toNat_natCast, List.getD_eq_getElem?_getD, hx]
              rfl⟩
          clear hC3 hall HO
          go_wp2_with (go_at_call 41; (with_reducible refine HJ.out.mono ?_); rintro e w4 ⟨rfl, hb4⟩; have HB4 := Aside0.mk hb4; clear hb4)
          go_ret
          exact ⟨rfl, HB.out.trans (HB4.out.mono HB.out.size)⟩
    · rw [if_neg hsz] at h
      cases h


end Go.Proofs.YtblaibigjhlblaaGreatDoor.Q
end
