/- texts of one claim, merged: each in a section of its own -/
import Derived.Test.YtlmlkcobkmhmbaaMMessageRecords3
section
-- written by hprint.py (a program of these sessions) out of the translation; Lean checks it
namespace Go.Proofs.Ytlmlkcobkmhmbaa.Q
open Go.RowKit Go.Proofs.YtlmlkcobkmhmbaaW.Hb Go.Proofs.YtlmlkcobkmhmbaaW.PrintWords Go.Proofs.YtlmlkcobkmhmbaaW.PrintLast Go.Proofs.YtlmlkcobkmhmbaaW.PrintMore
attribute [local go_sem] max2_int min2_int max_two min_two max_three min_three max_four min_four   -- for this text's walks alone
set_option linter.unusedVariables false
set_option linter.unusedSimpArgs false

/-! ### message_Fold: function 8, by hand -/
abbrev St := S25
abbrev Rec := S49
def rightR (r : Rec) : Bool := decide (1 ≤ r.f0) && decide (r.f0 ≤ 3) && (decide (r.f0 = 2) || decide (r.f4.length = 0)) && !([r.f1, r.f2, r.f3].any outR) && entB r.f4
theorem rightR_f (r : Rec) : message_RightRecord.f r.f0 r.f1 r.f2 r.f3 r.f4 = some (rightR r) := by
  unfold message_RightRecord.f rightR message_numbers.f message_entries.f
  by_cases h1 : r.f0 ≥ 1
  · by_cases h2 : r.f0 ≤ 3
    · have h1' : decide (1 ≤ r.f0) = true := decide_eq_true h1
      have h2' : decide (r.f0 ≤ 3) = true := decide_eq_true h2
      rw [if_pos h1, if_pos h2, h1', h2']
      by_cases h3 : r.f0 = 2
      · rw [if_pos h3]
        simp only [h3, decide_true, Bool.true_or, Bool.true_and, Option.bind_some]
        cases hn : [r.f1, r.f2, r.f3].any outR <;> simp
      · rw [if_neg h3]
        have h3' : decide (r.f0 = 2) = false := decide_eq_false h3
        rw [h3']
        by_cases h4 : r.f4.length = 0
        · rw [if_pos (by omega)]
          simp only [h4, decide_true, Bool.or_true, Bool.true_and, Option.bind_some]
          cases hn : [r.f1, r.f2, r.f3].any outR <;> simp
        · rw [if_neg (by omega)]
          simp [h4]
    · rw [if_pos h1, if_neg h2]
      simp [h2]
  · rw [if_neg h1]
    have : ¬ 1 ≤ r.f0 := h1
    simp [this]
theorem rightR_f3 {r : Rec} (h : rightR r = true) : 0 ≤ r.f3 ∧ r.f3 ≤ 1099511627776 := by
  simp only [rightR, List.any_cons, List.any_nil, outR, Bool.and_eq_true, Bool.not_eq_true', Bool.or_eq_false_iff, decide_eq_false_iff_not, decide_eq_true_eq] at h
  omega
theorem rightR_k3 {r : Rec} (h : rightR r = true) (h1 : ¬ r.f0 = 1) (h2 : ¬ r.f0 = 2) : r.f0 = 3 := by
  simp only [rightR, Bool.and_eq_true, decide_eq_true_eq] at h
  omega
def fstep (s : St) (r : Rec) : Option St :=
  if rightR r = false then none
  else if r.f0 = 1 then (if r.f1 < s.f0 ∨ r.f1 < r.f2 then none else some ⟨r.f1, r.f2, s.f2, s.f3⟩)
  else if r.f0 = 2 then (if (s.f3.length : Int) < r.f3 ∨ 2048 - r.f3 < (r.f4.length : Int) then none else some ⟨s.f0, s.f1, s.f2, s.f3.take r.f3.toNat ++ r.f4⟩)
  else (if (s.f3.length : Int) < r.f3 ∨ r.f3 < s.f2 then none else some ⟨s.f0, s.f1, r.f3, s.f3⟩)
def foldR (l : List Rec) : Option St := l.foldlM fstep z25
theorem foldR_none (l : List Rec) (k : Nat) (s : St) (hk : k < l.length) (h : foldR (l.take k) = some s) (hs : fstep s l[k] = none) : foldR l = none := by
  have e : l = l.take k ++ l[k] :: l.drop (k + 1) := by rw [List.getElem_cons_drop, List.take_append_drop]
  unfold foldR at h ⊢
  rw [e, List.foldlM_append, h]
  show List.foldlM fstep s (l[k] :: List.drop (k + 1) l) = none
  rw [List.foldlM_cons, hs]
  rfl
theorem foldR_some (l : List Rec) (k : Nat) (s s' : St) (hk : k < l.length) (h : foldR (l.take k) = some s) (hs : fstep s l[k] = some s') : foldR (l.take (k + 1)) = some s' := by
  unfold foldR at h ⊢
  rw [List.take_succ_eq_append_getElem hk, List.foldlM_append, h]
  simp [hs]
def fres (l : List Rec) : St × Bool := match foldR l with | some s => (s, true) | none => (z25, false)
def message_Fold.f (l0 : List Rec) : Option (Int × Int × Int × List S74 × Bool) := some ((fres l0).1.f0, (fres l0).1.f1, (fres l0).1.f2, (fres l0).1.f3, (fres l0).2)
/-- What Fold hands back. -/
def FoldRes (w : World) (s : St) (b : Bool) (e : Ending) (w' : World) : Prop := ∃ v3_ : Value, e = .returned (.tuple #[.agg #[.int .i64 s.f0, .int .i64 s.f1, .int .i64 s.f2, v3_], .bool b]) ∧ Kd.R k74 74 w' w.heap.size (fun _ => True) v3_ s.f3 ∧ Below w.heap.size w w'
theorem at_RecN {w : World} {A : Option Addr} {n : Nat} {xs : List Rec} (h : Kd.C k49 w A n xs) (i : Nat) (hi : i < xs.length) :
    ∃ ad A4 c4, A = some ad ∧ w.cell? (ad.add (i * 5)) = some (.int .i64 xs[i].f0) ∧ w.cell? ⟨(ad.add (i * 5)).block, (ad.add (i * 5)).off + 1, none⟩ = some (.int .i64 xs[i].f1) ∧ w.cell? ⟨(ad.add (i * 5)).block, (ad.add (i * 5)).off + 2, none⟩ = some (.int .i64 xs[i].f2) ∧ w.cell? ⟨(ad.add (i * 5)).block, (ad.add (i * 5)).off + 3, none⟩ = some (.int .i64 xs[i].f3) ∧ w.cell? ⟨(ad.add (i * 5)).block, (ad.add (i * 5)).off + 4, none⟩ = some (.slice A4 xs[i].f4.length c4) ∧ xs[i].f4.length ≤ c4 ∧ Kd.C k74 w A4 xs[i].f4.length xs[i].f4 := by
  obtain ⟨ad, A4, c4, e, h0, h1, h2, h3, h4, h5, h6⟩ := at_T49 h i (by omega) (by have := h.1; omega)
  rw [Int.toNat_natCast] at h0 h1 h2 h3 h4
  have e2 : rd_T49 xs i = xs[i] := by simp [rd_T49, List.getD_eq_getElem?_getD, hi]
  rw [e2] at h0 h1 h2 h3 h4 h5 h6
  exact ⟨ad, A4, c4, e, h0, h1, h2, h3, h4, h5, h6⟩
theorem fold_facts {wr w1 : World} {g : Nat} {a b c v r0 r1 r2 r3 r4 : Value} (hS : Blk wr g 25 #[a, b, c, v]) (hb : Below (wr.alloc (.cells #[r0, r1, r2, r3, r4] 49)).heap.size (wr.alloc (.cells #[r0, r1, r2, r3, r4] 49)) w1) :
    w1.cell? ⟨wr.heap.size, 0, none⟩ = some r0 ∧ w1.cell? ⟨wr.heap.size, 1, none⟩ = some r1 ∧ w1.cell? ⟨wr.heap.size, 2, none⟩ = some r2 ∧ w1.cell? ⟨wr.heap.size, 3, none⟩ = some r3 ∧ w1.cell? ⟨wr.heap.size, 4, none⟩ = some r4 ∧
    w1.cell? ⟨g, 0, none⟩ = some a ∧ w1.cell? ⟨g, 1, none⟩ = some b ∧ w1.cell? ⟨g, 2, none⟩ = some c ∧ w1.cell? ⟨g, 3, none⟩ = some v ∧
    w1.frozen? ⟨g, 0, none⟩ = false ∧ w1.frozen? ⟨g, 1, none⟩ = false ∧ w1.frozen? ⟨g, 2, none⟩ = false ∧ w1.frozen? ⟨g, 3, none⟩ = false ∧ Aside0 (Blk w1 g 25 #[a, b, c, v]) := by
  have h1 := (hS.alloc (.cells #[r0, r1, r2, r3, r4] 49)).after hb
  have h2 := (Blk.new wr 49 #[r0, r1, r2, r3, r4]).after hb
  exact ⟨h2.cell 0, h2.cell 1, h2.cell 2, h2.cell 3, h2.cell 4, h1.cell 0, h1.cell 1, h1.cell 2, h1.cell 3, h1.frozen 0, h1.frozen 1, h1.frozen 2, h1.frozen 3, ⟨h1⟩⟩
theorem fold_ret {R : Ending → World → Prop} {a : Act} {W : World} {g : Nat} {c0 c1 c2 c3 : Value} {b : Bool} (hB : Blk W g 25 #[c0, c1, c2, c3]) (h2 : a.tmps[2]? = some (.pointer (some ⟨g, 0, none⟩))) (h3 : a.tmps[3]? = some (.bool b)) (hd : a.defers = []) (hR : R (.returned (.tuple #[.agg #[c0, c1, c2, c3], .bool b])) W) :
    bodyPost Try.prog Try.f8 R Exit.ret a W := by
  have q0 : W.cell? ⟨g, 0, none⟩ = some c0 := hB.cell 0
  have q1 : W.cell? ⟨g, 1, none⟩ = some c1 := hB.cell 1
  have q2 : W.cell? ⟨g, 2, none⟩ = some c2 := hB.cell 2
  have q3 : W.cell? ⟨g, 3, none⟩ = some c3 := hB.cell 3
  exact bodyPost_ret (v := .tuple #[.agg #[c0, c1, c2, c3], .bool b]) (by simp [results, Try.results8, go_sem, q0, q1, q2, q3, h2, h3]) hd hR
theorem fres_none {l : List Rec} (h : foldR l = none) : fres l = (z25, false) := by simp [fres, h]
theorem fres_some {l : List Rec} {s : St} (h : foldR l = some s) : fres l = (s, true) := by simp [fres, h]
theorem fold_zero {w W : World} {l0 : List Rec} (h : foldR l0 = none) (hW : Below w.heap.size w W) : FoldRes w (fres l0).1 (fres l0).2 (.returned (.tuple #[.agg #[.int .i64 0, .int .i64 0, .int .i64 0, .slice none 0 0], .bool false])) W := by
  rw [fres_none h]
  exact ⟨_, rfl, Kd.R_nil _ _ _ _ _, hW⟩
set_option maxRecDepth 100000 in
set_option maxHeartbeats 1000000 in
theorem message_Fold.walk (A0 : Option Addr) (c0 : Nat) (l0 : List Rec) (w : World) (hr0 : Kd.C k49 w A0 l0.length l0) (hc0 : l0.length ≤ c0) :
    Calls Try.prog 8 #[.slice A0 l0.length c0] w (FoldRes w (fres l0).1 (fres l0).2) := by
  have HR := Aside0.mk hr0
  clear hr0
  have hm : l0.length ≤ 9223372036854775807 := HR.out.2.1
  go_enter Try.func8, Try.ntmps8
  go_wp2
  go_loopw [3, 10] (fun ok i wr => ∃ (k : Nat) (s : St) (v : Value), k ≤ l0.length ∧ i = .int .i64 k ∧ ok = .bool false ∧ Aside0 (foldR (l0.take k) = some s) ∧ Aside0 (Blk wr w.heap.size 25 #[.int .i64 s.f0, .int .i64 s.f1, .int .i64 s.f2, v]) ∧ Aside0 (Kd.R k74 74 wr w.heap.size (fun _ => True) v s.f3) ∧ Aside0 (Below w.heap.size w wr)) (fun _ i _ => l0.length - (intOf i).toNat)
  case atStart => exact ⟨0, z25, .slice none 0 0, Nat.zero_le _, rfl, rfl, ⟨rfl⟩, ⟨Blk.new _ _ _⟩, ⟨Kd.R_nil _ _ _ _ _⟩, ⟨(Below.refl _ _).alloc (Nat.le_refl _) _⟩⟩
  case round =>
    obtain ⟨k, s, v, hk, rfl, rfl, HF, HS, HV, HB⟩ := hrel
    by_cases hlt : k < l0.length
    · obtain ⟨ad, A4, c4, e, h0, h1, h2, h3, h4, h5, h6⟩ := at_RecN HR.out k hlt
      cases e
      obtain ⟨r, hr⟩ : ∃ r, r = l0[k] := ⟨_, rfl⟩
      rw [← hr] at h0 h1 h2 h3 h4 h5 h6
      have HN := Aside0.mk (show fstep s r = none → foldR l0 = none from fun h => foldR_none l0 k s hlt HF.out (by rw [← hr]; exact h))
      have HY := Aside0.mk (show ∀ s', fstep s r = some s' → foldR (l0.take (k + 1)) = some s' from fun s' h => foldR_some l0 k s s' hlt HF.out (by rw [← hr]; exact h))
      clear hr
      replace h0 := (HB.out.cell (World.block_lt_of_cell? w _ h0)).trans h0
      replace h1 := (HB.out.cell (World.block_lt_of_cell? w _ h1)).trans h1
      replace h2 := (HB.out.cell (World.block_lt_of_cell? w _ h2)).trans h2
      replace h3 := (HB.out.cell (World.block_lt_of_cell? w _ h3)).trans h3
      replace h4 := (HB.out.cell (World.block_lt_of_cell? w _ h4)).trans h4
      have HC := Aside0.mk (Kd.C_below h6 HB.out)
      clear h6
      have hv : ∃ A3 c3, v = .slice A3 s.f3.length c3 ∧ s.f3.length ≤ c3 := by
        obtain ⟨A3, c3, e3, hl3, _⟩ := Kd.R_reads HV.out
        exact ⟨A3, c3, e3, hl3⟩
      obtain ⟨A3, c3, rfl, hl3⟩ := hv
      have hs3 : wr.cell? ⟨w.heap.size, 3, none⟩ = some (.slice A3 s.f3.length c3) := HS.out.cell 3
      have hlw : w.heap.size < wr.heap.size := HS.out.lt
      have HRF := Aside0.mk (rightR_f r)
      cases hb : rightR r with
      | false =>
        rw [hb] at HRF
        have HZ := Aside0.mk (HN.out (by simp [fstep, hb]))
        clear hb HN HY
        by_cases k1 : r.f0 = 1
        · have k1b : (r.f0 == 1) = true := beq_iff_eq.mpr k1
          clear k1
          go_wp2_with (go_at_call 21; (with_reducible refine (message_RightRecord.calls r.f0 r.f1 r.f2 r.f3 A4 c4 r.f4 false _ (Kd.C_alloc HC.out _) h5 HRF.out).mono ?_); rintro e w1 ⟨rfl, hb1⟩; obtain ⟨r0, r1, r2, r3, r4, s0, s1, s2, s3, f0, f1, f2, f3, HS1⟩ := fold_facts HS.out hb1; have HV1 := Aside0.mk (Kd.R_below (Kd.R_alloc HV.out _) hb1); have HC1 := Aside0.mk (Kd.C_below (Kd.C_alloc HC.out _) hb1); have HB1 := Aside0.mk ((HB.out.alloc HB.out.size _).trans (hb1.mono (by simp; omega))); clear hb1)
          go_region
          go_wp2
          with_reducible refine fold_ret (g := w.heap.size) (b := false) ((((((HS1.out.set_ 0 _).set_ 1 _).set_ 0 _).set_ 1 _).set_ 2 _).set_ 3 _).drew ?_ ?_ ?_ ?_
          · rfl
          · rfl
          · rfl
          · exact fold_zero HZ.out (((((((HB1.out.setCell (Nat.le_refl _) _).setCell (Nat.le_refl _) _).setCell (Nat.le_refl _) _).setCell (Nat.le_refl _) _).setCell (Nat.le_refl _) _).setCell (Nat.le_refl _) _).drew)
        · have k1b : (r.f0 == 1) = false := beq_eq_false_iff_ne.mpr k1
          by_cases k2 : r.f0 = 2
          · have k2b : (r.f0 == 2) = true := beq_iff_eq.mpr k2
            clear k1 k2
            go_wp2_with (go_at_call 21; (with_reducible refine (message_RightRecord.calls r.f0 r.f1 r.f2 r.f3 A4 c4 r.f4 false _ (Kd.C_alloc HC.out _) h5 HRF.out).mono ?_); rintro e w1 ⟨rfl, hb1⟩; obtain ⟨r0, r1, r2, r3, r4, s0, s1, s2, s3, f0, f1, f2, f3, HS1⟩ := fold_facts HS.out hb1; have HV1 := Aside0.mk (Kd.R_below (Kd.R_alloc HV.out _) hb1); have HC1 := Aside0.mk (Kd.C_below (Kd.C_alloc HC.out _) hb1); have HB1 := Aside0.mk ((HB.out.alloc HB.out.size _).trans (hb1.mono (by simp; omega))); clear hb1)
            with_reducible refine fold_ret (g := w.heap.size) (b := false) ((((HS1.out.set_ 0 _).set_ 1 _).set_ 2 _).set_ 3 _) ?_ ?_ ?_ ?_
            · rfl
            · rfl
            · rfl
            · exact fold_zero HZ.out ((((HB1.out.setCell (Nat.le_refl _) _).setCell (Nat.le_refl _) _).setCell (Nat.le_refl _) _).setCell (Nat.le_refl _) _)
          · have k2b : (r.f0 == 2) = false := beq_eq_false_iff_ne.mpr k2
            by_cases k3 : r.f0 = 3
            · have k3b : (r.f0 == 3) = true := beq_iff_eq.mpr k3
              clear k1 k2 k3
              go_wp2_with (go_at_call 21; (with_reducible refine (message_RightRecord.calls r.f0 r.f1 r.f2 r.f3 A4 c4 r.f4 false _ (Kd.C_alloc HC.out _) h5 HRF.out).mono ?_); rintro e w1 ⟨rfl, hb1⟩; obtain ⟨r0, r1, r2, r3, r4, s0, s1, s2, s3, f0, f1, f2, f3, HS1⟩ := fold_facts HS.out hb1; have HV1 := Aside0.mk (Kd.R_below (Kd.R_alloc HV.out _) hb1); have HC1 := Aside0.mk (Kd.C_below (Kd.C_alloc HC.out _) hb1); have HB1 := Aside0.mk ((HB.out.alloc HB.out.size _).trans (hb1.mono (by simp; omega))); clear hb1)
              with_reducible refine fold_ret (g := w.heap.size) (b := false) (((((HS1.out.set_ 2 _).set_ 0 _).set_ 1 _).set_ 2 _).set_ 3 _) ?_ ?_ ?_ ?_
              · rfl
              · rfl
              · rfl
              · exact fold_zero HZ.out (((((HB1.out.setCell (Nat.le_refl _) _).setCell (Nat.le_refl _) _).setCell (Nat.le_refl _) _).setCell (Nat.le_refl _) _).setCell (Nat.le_refl _) _)
            · have k3b : (r.f0 == 3) = false := beq_eq_false_iff_ne.mpr k3
              clear k1 k2 k3
              go_wp2_with (go_at_call 21; (with_reducible refine (message_RightRecord.calls r.f0 r.f1 r.f2 r.f3 A4 c4 r.f4 false _ (Kd.C_alloc HC.out _) h5 HRF.out).mono ?_); rintro e w1 ⟨rfl, hb1⟩; obtain ⟨r0, r1, r2, r3, r4, s0, s1, s2, s3, f0, f1, f2, f3, HS1⟩ := fold_facts HS.out hb1; have HV1 := Aside0.mk (Kd.R_below (Kd.R_alloc HV.out _) hb1); have HC1 := Aside0.mk (Kd.C_below (Kd.C_alloc HC.out _) hb1); have HB1 := Aside0.mk ((HB.out.alloc HB.out.size _).trans (hb1.mono (by simp; omega))); clear hb1)
              with_reducible refine fold_ret (g := w.heap.size) (b := false) ((((HS1.out.set_ 0 _).set_ 1 _).set_ 2 _).set_ 3 _) ?_ ?_ ?_ ?_
              · rfl
              · rfl
              · rfl
              · exact fold_zero HZ.out ((((HB1.out.setCell (Nat.le_refl _) _).setCell (Nat.le_refl _) _).setCell (Nat.le_refl _) _).setCell (Nat.le_refl _) _)
      | true =>
        rw [hb] at HRF
        have Hb := Aside0.mk hb
        clear hb
        by_cases k1 : r.f0 = 1
        · have k1b : (r.f0 == 1) = true := beq_iff_eq.mpr k1
          have HE := Aside0.mk (show fstep s r = if r.f1 < s.f0 ∨ r.f1 < r.f2 then none else some ⟨r.f1, r.f2, s.f2, s.f3⟩ by simp [fstep, Hb.out, k1])
          clear k1
          by_cases a1 : r.f1 < s.f0
          · have HZ := Aside0.mk (HN.out (by rw [HE.out, if_pos (.inl a1)]))
            have d1 : decide (r.f1 < s.f0) = true := decide_eq_true a1
            go_wp2_with (go_at_call 21; (with_reducible refine (message_RightRecord.calls r.f0 r.f1 r.f2 r.f3 A4 c4 r.f4 true _ (Kd.C_alloc HC.out _) h5 HRF.out).mono ?_); rintro e w1 ⟨rfl, hb1⟩; obtain ⟨r0, r1, r2, r3, r4, s0, s1, s2, s3, f0, f1, f2, f3, HS1⟩ := fold_facts HS.out hb1; have HV1 := Aside0.mk (Kd.R_below (Kd.R_alloc HV.out _) hb1); have HC1 := Aside0.mk (Kd.C_below (Kd.C_alloc HC.out _) hb1); have HB1 := Aside0.mk ((HB.out.alloc HB.out.size _).trans (hb1.mono (by simp; omega))); clear hb1)
            go_region
            go_wp2
            with_reducible refine fold_ret (g := w.heap.size) (b := false) ((((((HS1.out.set_ 0 _).set_ 1 _).set_ 0 _).set_ 1 _).set_ 2 _).set_ 3 _).drew ?_ ?_ ?_ ?_
            · rfl
            · rfl
            · rfl
            · exact fold_zero HZ.out (((((((HB1.out.setCell (Nat.le_refl _) _).setCell (Nat.le_refl _) _).setCell (Nat.le_refl _) _).setCell (Nat.le_refl _) _).setCell (Nat.le_refl _) _).setCell (Nat.le_refl _) _).drew)
          · have d1 : decide (r.f1 < s.f0) = false := decide_eq_false a1
            by_cases a2 : r.f1 < r.f2
            · have HZ := Aside0.mk (HN.out (by rw [HE.out, if_pos (.inr a2)]))
              have d2 : decide (r.f1 < r.f2) = true := decide_eq_true a2
              go_wp2_with (go_at_call 21; (with_reducible refine (message_RightRecord.calls r.f0 r.f1 r.f2 r.f3 A4 c4 r.f4 true _ (Kd.C_alloc HC.out _) h5 HRF.out).mono ?_); rintro e w1 ⟨rfl, hb1⟩; obtain ⟨r0, r1, r2, r3, r4, s0, s1, s2, s3, f0, f1, f2, f3, HS1⟩ := fold_facts HS.out hb1; have HV1 := Aside0.mk (Kd.R_below (Kd.R_alloc HV.out _) hb1); have HC1 := Aside0.mk (Kd.C_below (Kd.C_alloc HC.out _) hb1); have HB1 := Aside0.mk ((HB.out.alloc HB.out.size _).trans (hb1.mono (by simp; omega))); clear hb1)
              go_region
              go_wp2
              with_reducible refine fold_ret (g := w.heap.size) (b := false) ((((((HS1.out.set_ 0 _).set_ 1 _).set_ 0 _).set_ 1 _).set_ 2 _).set_ 3 _).drew ?_ ?_ ?_ ?_
              · rfl
              · rfl
              · rfl
              · exact fold_zero HZ.out (((((((HB1.out.setCell (Nat.le_refl _) _).setCell (Nat.le_refl _) _).setCell (Nat.le_refl _) _).setCell (Nat.le_refl _) _).setCell (Nat.le_refl _) _).setCell (Nat.le_refl _) _).drew)
            · have d2 : decide (r.f1 < r.f2) = false := decide_eq_false a2
              have HG := Aside0.mk (HY.out _ (by rw [HE.out, if_neg (by omega)]))
              go_wp2_with (go_at_call 21; (with_reducible refine (message_RightRecord.calls r.f0 r.f1 r.f2 r.f3 A4 c4 r.f4 true _ (Kd.C_alloc HC.out _) h5 HRF.out).mono ?_); rintro e w1 ⟨rfl, hb1⟩; obtain ⟨r0, r1, r2, r3, r4, s0, s1, s2, s3, f0, f1, f2, f3, HS1⟩ := fold_facts HS.out hb1; have HV1 := Aside0.mk (Kd.R_below (Kd.R_alloc HV.out _) hb1); have HC1 := Aside0.mk (Kd.C_below (Kd.C_alloc HC.out _) hb1); have HB1 := Aside0.mk ((HB.out.alloc HB.out.size _).trans (hb1.mono (by simp; omega))); clear hb1)
              go_region
              go_wp2
              go_roundw
              case rel => exact ⟨k + 1, ⟨r.f1, r.f2, s.f2, s.f3⟩, _, by omega, by go_num, rfl, HG, ⟨((HS1.out.set_ 0 _).set_ 1 _).drew⟩, ⟨Kd.R_drew (Kd.R_set (Kd.R_set HV1.out HS1.out (by decide) 0 _) (HS1.out.set_ 0 _) (by decide) 1 _)⟩, ⟨((HB1.out.setCell (Nat.le_refl _) _).setCell (Nat.le_refl _) _).drew⟩⟩
              case measure => simp [intOf]; omega
        · have k1b : (r.f0 == 1) = false := beq_eq_false_iff_ne.mpr k1
          by_cases k2 : r.f0 = 2
          · have k2b : (r.f0 == 2) = true := beq_iff_eq.mpr k2
            have HE := Aside0.mk (show fstep s r = (if (s.f3.length : Int) < r.f3 ∨ 2048 - r.f3 < (r.f4.length : Int) then none else some ⟨s.f0, s.f1, s.f2, s.f3.take r.f3.toNat ++ r.f4⟩) by simp [fstep, Hb.out, k2])
            clear k1 k2
            obtain ⟨hr3a, hr3b⟩ := rightR_f3 Hb.out
            by_cases a1 : (s.f3.length : Int) < r.f3
            · have HZ := Aside0.mk (HN.out (by rw [HE.out, if_pos (.inl a1)]))
              go_wp2_with (go_at_call 21; (with_reducible refine (message_RightRecord.calls r.f0 r.f1 r.f2 r.f3 A4 c4 r.f4 true _ (Kd.C_alloc HC.out _) h5 HRF.out).mono ?_); rintro e w1 ⟨rfl, hb1⟩; obtain ⟨r0, r1, r2, r3, r4, s0, s1, s2, s3, f0, f1, f2, f3, HS1⟩ := fold_facts HS.out hb1; have HV1 := Aside0.mk (Kd.R_below (Kd.R_alloc HV.out _) hb1); have HC1 := Aside0.mk (Kd.C_below (Kd.C_alloc HC.out _) hb1); have HB1 := Aside0.mk ((HB.out.alloc HB.out.size _).trans (hb1.mono (by simp; omega))); clear hb1)
              with_reducible refine fold_ret (g := w.heap.size) (b := false) ((((HS1.out.set_ 0 _).set_ 1 _).set_ 2 _).set_ 3 _) ?_ ?_ ?_ ?_
              · rfl
              · rfl
              · rfl
              · exact fold_zero HZ.out ((((HB1.out.setCell (Nat.le_refl _) _).setCell (Nat.le_refl _) _).setCell (Nat.le_refl _) _).setCell (Nat.le_refl _) _)
            · by_cases a2 : 2048 - r.f3 < (r.f4.length : Int)
              · have HZ := Aside0.mk (HN.out (by rw [HE.out, if_pos (.inr a2)]))
                go_wp2_with (go_at_call 21; (with_reducible refine (message_RightRecord.calls r.f0 r.f1 r.f2 r.f3 A4 c4 r.f4 true _ (Kd.C_alloc HC.out _) h5 HRF.out).mono ?_); rintro e w1 ⟨rfl, hb1⟩; obtain ⟨r0, r1, r2, r3, r4, s0, s1, s2, s3, f0, f1, f2, f3, HS1⟩ := fold_facts HS.out hb1; have HV1 := Aside0.mk (Kd.R_below (Kd.R_alloc HV.out _) hb1); have HC1 := Aside0.mk (Kd.C_below (Kd.C_alloc HC.out _) hb1); have HB1 := Aside0.mk ((HB.out.alloc HB.out.size _).trans (hb1.mono (by simp; omega))); clear hb1)
                with_reducible refine fold_ret (g := w.heap.size) (b := false) ((((HS1.out.set_ 0 _).set_ 1 _).set_ 2 _).set_ 3 _) ?_ ?_ ?_ ?_
                · rfl
                · rfl
                · rfl
                · exact fold_zero HZ.out ((((HB1.out.setCell (Nat.le_refl _) _).setCell (Nat.le_refl _) _).setCell (Nat.le_refl _) _).setCell (Nat.le_refl _) _)
              · have d1 : decide ((s.f3.length : Int) < r.f3) = false := decide_eq_false a1
                have d2 : decide (2048 - r.f3 < (r.f4.length : Int)) = false := decide_eq_false a2
                go_wp2_with (go_at_call 21; (with_reducible refine (message_RightRecord.calls r.f0 r.f1 r.f2 r.f3 A4 c4 r.f4 true _ (Kd.C_alloc HC.out _) h5 HRF.out).mono ?_); rintro e w1 ⟨rfl, hb1⟩; obtain ⟨r0, r1, r2, r3, r4, s0, s1, s2, s3, f0, f1, f2, f3, HS1⟩ := fold_facts HS.out hb1; have HV1 := Aside0.mk (Kd.R_below (Kd.R_alloc HV.out _) hb1); have HC1 := Aside0.mk (Kd.C_below (Kd.C_alloc HC.out _) hb1); have HB1 := Aside0.mk ((HB.out.alloc HB.out.size _).trans (hb1.mono (by simp; omega))); clear hb1)
                have hn1 : (s.f3.take r.f3.toNat).length = r.f3.toNat := by rw [List.length_take]; omega
                have hCs : Kd.C k74 w1 A3 s.f3.length s.f3 := by
                  obtain ⟨A5, c5, e5, _, h5'⟩ := Kd.R_reads HV1.out
                  injection e5 with e6 e7 e8
                  rw [e6]
                  exact h5'
                have HL2 := Aside0.mk (C_lit_two k74 w1 w1.heap.size rfl 74 23 A3 A4 r.f3.toNat r.f4.length c3 c4 (s.f3.take r.f3.toNat) r.f4 hn1 rfl (Kd.C_take hCs (by omega)) HC1.out (by omega) h5)
                have HSM := Aside0.mk (show ([s.f3.take r.f3.toNat, r.f4] : List (List S74)).flatten.length * 24 ≤ 140737488355328 by simp only [List.flatten_cons, List.flatten_nil, List.append_nil, List.length_append]; omega)
                clear hn1 hCs
                have hb1 : 0 ≤ r.f3 ∧ r.f3 ≤ (c3 : Int) := by omega
                clear d1 d2
                have HG := Aside0.mk (HY.out _ (by rw [HE.out, if_neg (by omega)]))
                obtain ⟨L, hL⟩ : ∃ L, L = [s.f3.take r.f3.toNat, r.f4].flatten := ⟨_, rfl⟩
                have HL := Aside0.mk hL
                clear hL
                go_region_with (go_at_call 30; (with_reducible refine (message_Entry_30.calls (some ⟨w1.heap.size, 0, none⟩) 2 2 [s.f3.take r.f3.toNat, r.f4] _ rfl (Kd.C_drew HL2.out) (Nat.le_refl 2) HSM.out).mono ?_); rintro e w2 ⟨v2, rfl, hR2, hB2⟩; rw [← HL.out] at hR2; obtain ⟨A9, c9, rfl⟩ := Kd.R_slice hR2; have HS2 := ((HS1.out.alloc (.cells #[.slice A3 r.f3.toNat c3, .slice A4 r.f4.length c4] 23)).drew).after hB2; have g3 := HS2.frozen 3; have g4 : w2.cell? ⟨w.heap.size, 3, none⟩ = some (.slice A3 s.f3.length c3) := HS2.cell 3; have HS3 := Aside0.mk HS2; have HR3 := Aside0.mk hR2; have HB3 := Aside0.mk hB2; clear HS2 hR2 hB2)
                all_goals
                  go_wp2
                  go_roundw
                  case rel =>
                    have hsz : w.heap.size ≤ (w1.alloc (.cells #[.slice A3 r.f3.toNat c3, .slice A4 r.f4.length c4] 23)).drew.heap.size := ((HB1.out.alloc HB1.out.size (.cells #[.slice A3 r.f3.toNat c3, .slice A4 r.f4.length c4] 23)).drew).size
                    refine ⟨k + 1, ⟨s.f0, s.f1, s.f2, s.f3.take r.f3.toNat ++ r.f4⟩, _, by omega, by go_num, rfl, HG, ⟨HS3.out.set_ 3 _⟩, ⟨?_⟩, ⟨((((HB1.out.alloc HB1.out.size _).drew).trans (HB3.out.mono hsz)).setCell (Nat.le_refl _) _)⟩⟩
                    have hX := Kd.R_set (Kd.R_lower HR3.out hsz) HS3.out (by decide) 3 (.slice A9 L.length c9)
                    rw [show s.f3.take r.f3.toNat ++ r.f4 = L by rw [HL.out]; simp]
                    exact hX
                  case measure => simp [intOf]; omega
          · have k2b : (r.f0 == 2) = false := beq_eq_false_iff_ne.mpr k2
            have k3 : r.f0 = 3 := rightR_k3 Hb.out k1 k2
            have k3b : (r.f0 == 3) = true := beq_iff_eq.mpr k3
            have HE := Aside0.mk (show fstep s r = (if (s.f3.length : Int) < r.f3 ∨ r.f3 < s.f2 then none else some ⟨s.f0, s.f1, r.f3, s.f3⟩) by simp [fstep, Hb.out, k3])
            clear k1 k2 k3
            by_cases a1 : (s.f3.length : Int) < r.f3
            · have HZ := Aside0.mk (HN.out (by rw [HE.out, if_pos (.inl a1)]))
              go_wp2_with (go_at_call 21; (with_reducible refine (message_RightRecord.calls r.f0 r.f1 r.f2 r.f3 A4 c4 r.f4 true _ (Kd.C_alloc HC.out _) h5 HRF.out).mono ?_); rintro e w1 ⟨rfl, hb1⟩; obtain ⟨r0, r1, r2, r3, r4, s0, s1, s2, s3, f0, f1, f2, f3, HS1⟩ := fold_facts HS.out hb1; have HV1 := Aside0.mk (Kd.R_below (Kd.R_alloc HV.out _) hb1); have HC1 := Aside0.mk (Kd.C_below (Kd.C_alloc HC.out _) hb1); have HB1 := Aside0.mk ((HB.out.alloc HB.out.size _).trans (hb1.mono (by simp; omega))); clear hb1)
              with_reducible refine fold_ret (g := w.heap.size) (b := false) (((((HS1.out.set_ 2 _).set_ 0 _).set_ 1 _).set_ 2 _).set_ 3 _) ?_ ?_ ?_ ?_
              · rfl
              · rfl
              · rfl
              · exact fold_zero HZ.out (((((HB1.out.setCell (Nat.le_refl _) _).setCell (Nat.le_refl _) _).setCell (Nat.le_refl _) _).setCell (Nat.le_refl _) _).setCell (Nat.le_refl _) _)
            · by_cases a2 : r.f3 < s.f2
              · have HZ := Aside0.mk (HN.out (by rw [HE.out, if_pos (.inr a2)]))
                go_wp2_with (go_at_call 21; (with_reducible refine (message_RightRecord.calls r.f0 r.f1 r.f2 r.f3 A4 c4 r.f4 true _ (Kd.C_alloc HC.out _) h5 HRF.out).mono ?_); rintro e w1 ⟨rfl, hb1⟩; obtain ⟨r0, r1, r2, r3, r4, s0, s1, s2, s3, f0, f1, f2, f3, HS1⟩ := fold_facts HS.out hb1; have HV1 := Aside0.mk (Kd.R_below (Kd.R_alloc HV.out _) hb1); have HC1 := Aside0.mk (Kd.C_below (Kd.C_alloc HC.out _) hb1); have HB1 := Aside0.mk ((HB.out.alloc HB.out.size _).trans (hb1.mono (by simp; omega))); clear hb1)
                with_reducible refine fold_ret (g := w.heap.size) (b := false) (((((HS1.out.set_ 2 _).set_ 0 _).set_ 1 _).set_ 2 _).set_ 3 _) ?_ ?_ ?_ ?_
                · rfl
                · rfl
                · rfl
                · exact fold_zero HZ.out (((((HB1.out.setCell (Nat.le_refl _) _).setCell (Nat.le_refl _) _).setCell (Nat.le_refl _) _).setCell (Nat.le_refl _) _).setCell (Nat.le_refl _) _)
              · have HG := Aside0.mk (HY.out _ (by rw [HE.out, if_neg (by omega)]))
                go_wp2_with (go_at_call 21; (with_reducible refine (message_RightRecord.calls r.f0 r.f1 r.f2 r.f3 A4 c4 r.f4 true _ (Kd.C_alloc HC.out _) h5 HRF.out).mono ?_); rintro e w1 ⟨rfl, hb1⟩; obtain ⟨r0, r1, r2, r3, r4, s0, s1, s2, s3, f0, f1, f2, f3, HS1⟩ := fold_facts HS.out hb1; have HV1 := Aside0.mk (Kd.R_below (Kd.R_alloc HV.out _) hb1); have HC1 := Aside0.mk (Kd.C_below (Kd.C_alloc HC.out _) hb1); have HB1 := Aside0.mk ((HB.out.alloc HB.out.size _).trans (hb1.mono (by simp; omega))); clear hb1)
                go_roundw
                case rel => exact ⟨k + 1, ⟨s.f0, s.f1, r.f3, s.f3⟩, _, by omega, by go_num, rfl, HG, ⟨HS1.out.set_ 2 _⟩, ⟨Kd.R_set HV1.out HS1.out (by decide) 2 _⟩, ⟨HB1.out.setCell (Nat.le_refl _) _⟩⟩
                case measure => simp [intOf]; omega
    · have hT : l0.take k = l0 := List.take_of_length_le (by omega)
      have HF2 := Aside0.mk (show foldR l0 = some s by rw [← hT]; exact HF.out)
      clear hT HF
      obtain ⟨A3, c3, rfl, hl3⟩ : ∃ A3 c3, v = .slice A3 s.f3.length c3 ∧ s.f3.length ≤ c3 := by
        obtain ⟨A3, c3, e3, hl3, _⟩ := Kd.R_reads HV.out
        exact ⟨A3, c3, e3, hl3⟩
      have s0 : wr.cell? ⟨w.heap.size, 0, none⟩ = some (.int .i64 s.f0) := HS.out.cell 0
      have s1 : wr.cell? ⟨w.heap.size, 1, none⟩ = some (.int .i64 s.f1) := HS.out.cell 1
      have s2 : wr.cell? ⟨w.heap.size, 2, none⟩ = some (.int .i64 s.f2) := HS.out.cell 2
      have s3 : wr.cell? ⟨w.heap.size, 3, none⟩ = some (.slice A3 s.f3.length c3) := HS.out.cell 3
      have f0 := HS.out.frozen 0
      have f1 := HS.out.frozen 1
      have f2 := HS.out.frozen 2
      have f3 := HS.out.frozen 3
      go_wp2
      with_reducible refine fold_ret (g := w.heap.size) (b := true) ((((HS.out.set_ 0 _).set_ 1 _).set_ 2 _).set_ 3 _) ?_ ?_ ?_ ?_
      · rfl
      · rfl
      · rfl
      · rw [fres_some HF2.out]
        exact ⟨_, rfl, Kd.R_set (Kd.R_set (Kd.R_set (Kd.R_set HV.out HS.out (by decide) 0 _) (HS.out.set_ 0 _) (by decide) 1 _) ((HS.out.set_ 0 _).set_ 1 _) (by decide) 2 _) (((HS.out.set_ 0 _).set_ 1 _).set_ 2 _) (by decide) 3 _, ((((HB.out.setCell (Nat.le_refl _) _).setCell (Nat.le_refl _) _).setCell (Nat.le_refl _) _).setCell (Nat.le_refl _) _)⟩
theorem message_Fold.calls (A0 : Option Addr) (c0 : Nat) (l0 : List Rec) (r1 : Int) (r2 : Int) (r3 : Int) (r4 : List S74) (r5 : Bool) (w : World) (hr0 : Kd.C k49 w A0 l0.length l0) (hc0 : l0.length ≤ c0) (h : message_Fold.f l0 = some (r1, r2, r3, r4, r5)) :
    Calls Try.prog 8 #[.slice A0 l0.length c0] w fun e w' => ∃ v3_ : Value, e = .returned (.tuple #[.agg #[.int .i64 r1, .int .i64 r2, .int .i64 r3, v3_], .bool r5]) ∧ Kd.R k74 74 w' w.heap.size (fun _ => True) v3_ r4 ∧ Below w.heap.size w w' := by
  simp only [message_Fold.f, Option.some.injEq, Prod.mk.injEq] at h
  obtain ⟨rfl, rfl, rfl, rfl, rfl⟩ := h
  exact message_Fold.walk A0 c0 l0 w hr0 hc0


end Go.Proofs.Ytlmlkcobkmhmbaa.Q
end

section
-- written by hprint.py (a program of these sessions) out of the translation; Lean checks it
namespace Go.Proofs.Ytlmlkcobkmhmbaa.Q
open Go.RowKit Go.Proofs.YtlmlkcobkmhmbaaW.Hb Go.Proofs.YtlmlkcobkmhmbaaW.PrintWords Go.Proofs.YtlmlkcobkmhmbaaW.PrintLast Go.Proofs.YtlmlkcobkmhmbaaW.PrintMore
attribute [local go_sem] max2_int min2_int max_two min_two max_three min_three max_four min_four   -- for this text's walks alone
set_option linter.unusedVariables false
set_option linter.unusedSimpArgs false

/-! ### weighhouselaw17_knows: function 10, by hand -/
def weighhouselaw17_knows.f : Option Bool := some true
abbrev Ent := S74
def strA : ByteArray := { data := #[97] }
def strB : ByteArray := { data := #[98] }
def strC : ByteArray := { data := #[99] }
def recA : Rec := ⟨2, 0, 0, 0, [⟨1, strA⟩, ⟨1, strB⟩]⟩
def recB : Rec := ⟨2, 0, 0, 1, [⟨2, strC⟩]⟩
theorem fres_knows : fres [recA, recB] = (⟨0, 0, 0, [⟨1, strA⟩, ⟨2, strC⟩]⟩, true) := by rfl
theorem rr_knows : message_RightRecord.f 2 0 0 0 [⟨1, strA⟩, ⟨1, strB⟩] = some true := by rfl
abbrev kW2 (w : World) : World := (w.alloc (.cells #[.int .i64 1, .string { data := #[97] }, .int .i64 1, .string { data := #[98] }] 74)).alloc (.cells #[.int .i64 2, .int .i64 0, .int .i64 0, .int .i64 0, .slice (some ⟨w.heap.size, 0, none⟩) 2 2] 49)
abbrev kW4 (w : World) : World := ((kW2 w).alloc (.cells #[.int .i64 2, .string { data := #[99] }] 74)).alloc (.cells #[.int .i64 2, .int .i64 0, .int .i64 0, .int .i64 1, .slice (some ⟨w.heap.size + 1 + 1, 0, none⟩) 1 1] 49)
abbrev kW5 (w : World) : World := (kW4 w).alloc (.cells #[.int .i64 2, .int .i64 0, .int .i64 0, .int .i64 0, .slice (some ⟨w.heap.size, 0, none⟩) 2 2, .int .i64 2, .int .i64 0, .int .i64 0, .int .i64 1, .slice (some ⟨w.heap.size + 1 + 1, 0, none⟩) 1 1] 49)
theorem kW_A (w : World) : Kd.C k74 (kW5 w) (some ⟨w.heap.size, 0, none⟩) 2 [⟨1, strA⟩, ⟨1, strB⟩] := by
  have B := ((((Blk.new w 74 #[.int .i64 1, .string { data := #[97] }, .int .i64 1, .string { data := #[98] }]).alloc (.cells #[.int .i64 2, .int .i64 0, .int .i64 0, .int .i64 0, .slice (some ⟨w.heap.size, 0, none⟩) 2 2] 49)).alloc (.cells #[.int .i64 2, .string { data := #[99] }] 74)).alloc (.cells #[.int .i64 2, .int .i64 0, .int .i64 0, .int .i64 1, .slice (some ⟨w.heap.size + 1 + 1, 0, none⟩) 1 1] 49)).alloc (.cells #[.int .i64 2, .int .i64 0, .int .i64 0, .int .i64 0, .slice (some ⟨w.heap.size, 0, none⟩) 2 2, .int .i64 2, .int .i64 0, .int .i64 0, .int .i64 1, .slice (some ⟨w.heap.size + 1 + 1, 0, none⟩) 1 1] 49)
  exact C_of_reps (d := k74) B [⟨1, strA⟩, ⟨1, strB⟩] (Reps_two (c := [.int .i64 1, .string strA]) (e := [.int .i64 1, .string strB]) (k74_mk _ ⟨1, strA⟩) rfl (k74_mk _ ⟨1, strB⟩) rfl) (by simp)
theorem kW_B (w : World) : Kd.C k74 (kW5 w) (some ⟨w.heap.size + 1 + 1, 0, none⟩) 1 [⟨2, strC⟩] := by
  have B := ((Blk.new (kW2 w) 74 #[.int .i64 2, .string { data := #[99] }]).alloc (.cells #[.int .i64 2, .int .i64 0, .int .i64 0, .int .i64 1, .slice (some ⟨w.heap.size + 1 + 1, 0, none⟩) 1 1] 49)).alloc (.cells #[.int .i64 2, .int .i64 0, .int .i64 0, .int .i64 0, .slice (some ⟨w.heap.size, 0, none⟩) 2 2, .int .i64 2, .int .i64 0, .int .i64 0, .int .i64 1, .slice (some ⟨w.heap.size + 1 + 1, 0, none⟩) 1 1] 49)
  rw [show (kW2 w).heap.size = w.heap.size + 1 + 1 from by simp] at B
  exact C_of_reps (d := k74) B [⟨2, strC⟩] (Reps_one (c := [.int .i64 2, .string strC]) (k74_mk _ ⟨2, strC⟩) rfl) (by simp)
theorem kW_all (w : World) : Kd.C k49 (kW5 w) (some ⟨w.heap.size + 1 + 1 + 1 + 1, 0, none⟩) 2 [recA, recB] := by
  have B := Blk.new (kW4 w) 49 #[.int .i64 2, .int .i64 0, .int .i64 0, .int .i64 0, .slice (some ⟨w.heap.size, 0, none⟩) 2 2, .int .i64 2, .int .i64 0, .int .i64 0, .int .i64 1, .slice (some ⟨w.heap.size + 1 + 1, 0, none⟩) 1 1]
  rw [show (kW4 w).heap.size = w.heap.size + 1 + 1 + 1 + 1 from by simp] at B
  exact C_of_reps (d := k49) B [recA, recB] (Reps_two (c := [.int .i64 2, .int .i64 0, .int .i64 0, .int .i64 0, .slice (some ⟨w.heap.size, 0, none⟩) 2 2]) (e := [.int .i64 2, .int .i64 0, .int .i64 0, .int .i64 1, .slice (some ⟨w.heap.size + 1 + 1, 0, none⟩) 1 1]) (k49_mk _ recA (Nat.le_refl 2) (kW_A w)) rfl (k49_mk _ recB (Nat.le_refl 1) (kW_B w)) rfl) (by simp)
theorem kW_rec (w : World) : Blk (kW5 w) (w.heap.size + 1) 49 #[.int .i64 2, .int .i64 0, .int .i64 0, .int .i64 0, .slice (some ⟨w.heap.size, 0, none⟩) 2 2] := by
  have B := (((Blk.new (w.alloc (.cells #[.int .i64 1, .string { data := #[97] }, .int .i64 1, .string { data := #[98] }] 74)) 49 #[.int .i64 2, .int .i64 0, .int .i64 0, .int .i64 0, .slice (some ⟨w.heap.size, 0, none⟩) 2 2]).alloc (.cells #[.int .i64 2, .string { data := #[99] }] 74)).alloc (.cells #[.int .i64 2, .int .i64 0, .int .i64 0, .int .i64 1, .slice (some ⟨w.heap.size + 1 + 1, 0, none⟩) 1 1] 49)).alloc (.cells #[.int .i64 2, .int .i64 0, .int .i64 0, .int .i64 0, .slice (some ⟨w.heap.size, 0, none⟩) 2 2, .int .i64 2, .int .i64 0, .int .i64 0, .int .i64 1, .slice (some ⟨w.heap.size + 1 + 1, 0, none⟩) 1 1] 49)
  rw [show (w.alloc (.cells #[.int .i64 1, .string { data := #[97] }, .int .i64 1, .string { data := #[98] }] 74)).heap.size = w.heap.size + 1 from by simp] at B
  exact B
theorem R_two {w1 : World} {base : Nat} {ok : Nat → Prop} {v : Value} {x y : Ent} (hR : Kd.R k74 74 w1 base ok v [x, y]) :
    ∃ g c, v = .slice (some ⟨g, 0, none⟩) 2 c ∧ g < w1.heap.size ∧ 2 ≤ c ∧ w1.cell? ⟨g, 0, none⟩ = some (.int .i64 x.f0) ∧ w1.cell? ⟨g, 1, none⟩ = some (.string x.f1) ∧ w1.cell? ⟨g, 2, none⟩ = some (.int .i64 y.f0) ∧ w1.cell? ⟨g, 3, none⟩ = some (.string y.f1) := by
  obtain ⟨inner, ho⟩ := Kd.R_own hR
  obtain ⟨g, c, e1, _, hlt⟩ := ho.form (by simp)
  obtain ⟨A, c', e2, hc', hC⟩ := Kd.R_reads hR
  rw [e1] at e2
  injection e2 with e3 _ e4
  subst e3 e4
  obtain ⟨ad, e5, x0, x1⟩ := at_EntryN hC 0 (by simp)
  obtain ⟨ad', e6, y0, y1⟩ := at_EntryN hC 1 (by simp)
  cases e5
  cases e6
  simp only [add_plain] at x0 x1 y0 y1
  exact ⟨g, c, e1, hlt, hc', x0, x1, y0, y1⟩
theorem Fold_knows (w : World) : Calls Try.prog 8 #[.slice (some ⟨w.heap.size + 1 + 1 + 1 + 1, 0, none⟩) 2 2] (kW5 w) (FoldRes (kW5 w) ⟨0, 0, 0, [⟨1, strA⟩, ⟨2, strC⟩]⟩ true) := by
  have h := message_Fold.walk (some ⟨w.heap.size + 1 + 1 + 1 + 1, 0, none⟩) 2 [recA, recB] (kW5 w) (kW_all w) (Nat.le_refl 2)
  rw [fres_knows] at h
  exact h
set_option maxRecDepth 100000 in
set_option maxHeartbeats 1000000 in
theorem weighhouselaw17_knows.calls (r : Bool) (w : World) (h : weighhouselaw17_knows.f = some r) : Calls Try.prog 10 #[] w fun e w' => e = .returned (.bool r) ∧ Below w.heap.size w w' := by
  obtain rfl : true = r := Option.some.inj h
  clear h
  have HF := Aside0.mk (Fold_knows w)
  have HRR := Aside0.mk rr_knows
  have eA : (strA.toList == [97]) = true := by decide +kernel
  have eC : (strC.toList == [99]) = true := by decide +kernel
  go_enter Try.func10, Try.ntmps10
  go_wp2_with (go_at_call 8; (with_reducible refine HF.out.mono ?_); rintro e w1 ⟨v3, rfl, hR, hB⟩; obtain ⟨g, c3, rfl, hg, hc3, x0, x1, y0, y1⟩ := R_two hR; have hA := (kW_rec w).after hB; have q0 : w1.cell? ⟨w.heap.size + 1, 0, none⟩ = some (.int .i64 2) := hA.cell 0; have q1 : w1.cell? ⟨w.heap.size + 1, 1, none⟩ = some (.int .i64 0) := hA.cell 1; have q2 : w1.cell? ⟨w.heap.size + 1, 2, none⟩ = some (.int .i64 0) := hA.cell 2; have q3 : w1.cell? ⟨w.heap.size + 1, 3, none⟩ = some (.int .i64 0) := hA.cell 3; have q4 : w1.cell? ⟨w.heap.size + 1, 4, none⟩ = some (.slice (some ⟨w.heap.size, 0, none⟩) 2 2) := hA.cell 4; have hlt := hA.lt; have HCA := Aside0.mk (Kd.C_below (kW_A w) hB); have HB := Aside0.mk hB; clear hR hB hA)
  have HQ := Aside0.mk (message_RightRecord.calls 2 0 0 0 (some ⟨w.heap.size, 0, none⟩) 2 [⟨1, strA⟩, ⟨1, strB⟩] true (w1.alloc (.cells #[.int .i64 0, .int .i64 0, .int .i64 0, .slice (some ⟨g, 0, none⟩) 2 c3] 25)) (Kd.C_alloc HCA.out _) (Nat.le_refl 2) HRR.out)
  refine HQ.out.mono ?_
  rintro e w2 ⟨rfl, hb2⟩
  go_wp2
  go_ret
  exact ⟨rfl, ((((((((Below.refl _ _).alloc (Nat.le_refl _) _).alloc (by simp) _).alloc (by simp; omega) _).alloc (by simp; omega) _).alloc (by simp; omega) _).trans (HB.out.mono (by simp; omega))).alloc (by omega) _).trans (hb2.mono (by simp; omega))⟩


end Go.Proofs.Ytlmlkcobkmhmbaa.Q
end

section
-- written by hprint.py (a program of these sessions) out of the translation; Lean checks it
namespace Go.Proofs.Ytlmlkcobkmhmbaa.Q
open Go.RowKit Go.Proofs.YtlmlkcobkmhmbaaW.Hb Go.Proofs.YtlmlkcobkmhmbaaW.PrintWords Go.Proofs.YtlmlkcobkmhmbaaW.PrintLast Go.Proofs.YtlmlkcobkmhmbaaW.PrintMore
attribute [local go_sem] max2_int min2_int max_two min_two max_three min_three max_four min_four   -- for this text's walks alone
set_option linter.unusedVariables false
set_option linter.unusedSimpArgs false

/-! ### weighhouselaw17_num: function 13 -/
def weighhouselaw17_num.f (a0 : Int) : Option (Int) := some a0
set_option maxHeartbeats 8000000 in
set_option maxRecDepth 100000 in
theorem weighhouselaw17_num.calls (a0 : Int) (r : Int) (w : World) (h : weighhouselaw17_num.f a0 = some r) :
    Calls Try.prog 13 #[.int .i64 a0] w fun e w' => e = .returned (.int .i64 r) ∧ Drawn0 w w' := by
  have H : (some a0) = some r := h
  clear h
  obtain rfl := Option.some.inj H
  go_enter Try.func13, Try.ntmps13
  go_wp2
  go_ret
  exact ⟨by first | rfl | (simp; done) | (simp [*]; done), by repeat (first | exact Drawn0.refl _ | apply Drawn0.step)⟩

end Go.Proofs.Ytlmlkcobkmhmbaa.Q
end

section
-- written by hprint.py (a program of these sessions) out of the translation; Lean checks it
namespace Go.Proofs.Ytlmlkcobkmhmbaa.Q
open Go.RowKit Go.Proofs.YtlmlkcobkmhmbaaW.Hb Go.Proofs.YtlmlkcobkmhmbaaW.PrintWords Go.Proofs.YtlmlkcobkmhmbaaW.PrintLast Go.Proofs.YtlmlkcobkmhmbaaW.PrintMore
attribute [local go_sem] max2_int min2_int max_two min_two max_three min_three max_four min_four   -- for this text's walks alone
set_option linter.unusedVariables false
set_option linter.unusedSimpArgs false

theorem eqA74 (d : Nat) (w : World) (x0 y0 : Int) (x1 y1 : ByteArray) :
    (Op.equalIn (d + 2) 74 (.agg #[.int .i64 x0, .string x1]) (.agg #[.int .i64 y0, .string y1])).run Try.prog w = .ok (x0 == y0 && (x1.toList == y1.toList)) w := by
  refine eqA_of Try.underlying74 (by kernel_rfl) ?_
  refine eqf_cons (by rfl) (by go_simp; rfl) (by go_simp; rfl) (by go_simp) ?_
  exact eqf_last (by rfl) (by go_simp; rfl) (by go_simp; rfl) (by go_simp)
end Go.Proofs.Ytlmlkcobkmhmbaa.Q
end

section
-- written by hprint.py (a program of these sessions) out of the translation; Lean checks it
namespace Go.Proofs.Ytlmlkcobkmhmbaa.Q
open Go.RowKit Go.Proofs.YtlmlkcobkmhmbaaW.Hb Go.Proofs.YtlmlkcobkmhmbaaW.PrintWords Go.Proofs.YtlmlkcobkmhmbaaW.PrintLast Go.Proofs.YtlmlkcobkmhmbaaW.PrintMore
attribute [local go_sem] max2_int min2_int max_two min_two max_three min_three max_four min_four   -- for this text's walks alone
set_option linter.unusedVariables false
set_option linter.unusedSimpArgs false

attribute [local go_sem high] eqA74
/-! ### weighhouselaw17_SameLog: function 38 -/
def weighhouselaw17_SameLog.l0 : Nat → List (S74) → List (S74) → Int → Option (Bool)
  | 0, _, _, _ => none
  | k + 1, x0, x1, x5 => if x5 < (x0.length : Int) then (if 0 ≤ x5 then (if x5 < (x1.length : Int) then (if (!(((rd_T74 x0 x5).f0) == ((rd_T74 x1 x5).f0)) || (!((((rd_T74 x0 x5).f1).toList) == (((rd_T74 x1 x5).f1).toList)))) = true then (some false) else (weighhouselaw17_SameLog.l0 k x0 x1 (wrap64 (x5 + 1)))) else (none)) else (none)) else (some true)
def weighhouselaw17_SameLog.f (k : Nat) (l0 : List (S74)) (l1 : List (S74)) : Option (Bool) := if (l0.length : Int) = (l1.length : Int) then (weighhouselaw17_SameLog.l0 k l0 l1 0) else (some false)
theorem weighhouselaw17_SameLog.mono_l : ∀ k, (∀ y0 y1 y2, LeO (weighhouselaw17_SameLog.l0 k y0 y1 y2) (weighhouselaw17_SameLog.l0 (k + 1) y0 y1 y2))
  | 0 => fun _ _ _ r h => by simp [weighhouselaw17_SameLog.l0] at h
  | k + 1 => by
    have ih0 := weighhouselaw17_SameLog.mono_l k
    · intro y0 y1 y2
      unfold weighhouselaw17_SameLog.l0
      repeat' first
      | (with_reducible exact ih0 _ _ _)
      | (with_reducible exact LeO.refl _)
      | (with_reducible exact LeO.none _)
      | (with_reducible refine LeO.ite ?_ ?_)
      | (with_reducible refine LeO.bind ?_ (fun _ => ?_))
      | exact ih0 _ _ _
      | exact LeO.none _
      | refine LeO.ite ?_ ?_
      | refine LeO.bind ?_ (fun _ => ?_)
theorem weighhouselaw17_SameLog.mono : ∀ a0 a1 k, LeO (weighhouselaw17_SameLog.f k a0 a1) (weighhouselaw17_SameLog.f (k + 1) a0 a1) := by
  intro a0 a1 k
  have ih0 := weighhouselaw17_SameLog.mono_l k
  unfold weighhouselaw17_SameLog.f
  repeat' first
      | (with_reducible exact ih0 _ _ _)
      | (with_reducible exact LeO.refl _)
      | (with_reducible exact LeO.none _)
      | (with_reducible refine LeO.ite ?_ ?_)
      | (with_reducible refine LeO.bind ?_ (fun _ => ?_))
      | exact ih0 _ _ _
      | exact LeO.none _
      | refine LeO.ite ?_ ?_
      | refine LeO.bind ?_ (fun _ => ?_)
set_option maxHeartbeats 8000000 in
set_option maxRecDepth 100000 in
theorem weighhouselaw17_SameLog.calls (k : Nat) (A0 : Option Addr) (c0 : Nat) (l0 : List (S74)) (A1 : Option Addr) (c1 : Nat) (l1 : List (S74)) (r : Bool) (w : World) (hr0 : Kd.C k74 w A0 l0.length l0) (hc0 : l0.length ≤ c0) (hr1 : Kd.C k74 w A1 l1.length l1) (hc1 : l1.length ≤ c1) (h : weighhouselaw17_SameLog.f k l0 l1 = some r) :
    Calls Try.prog 38 #[.slice A0 l0.length c0, .slice A1 l1.length c1] w fun e w' => e = .returned (.bool r) ∧ Drawn0 w w' := by
  have hu74 := Try.underlying74
  have HR0 := Aside0.mk hr0
  have HC0 := Aside0.mk hc0
  clear hr0 hc0
  have HR1 := Aside0.mk hr1
  have HC1 := Aside0.mk hc1
  clear hr1 hc1
  have H : (if (l0.length : Int) = (l1.length : Int) then (weighhouselaw17_SameLog.l0 k l0 l1 0) else (some false)) = some r := h
  clear h
  by_cases c3 : (l0.length : Int) = (l1.length : Int)
  · rw [if_pos c3] at H
    have c3b0 : ((l0.length : Int) == (l1.length : Int)) = true := beq_iff_eq.mpr c3
    have c3b1 : ((l0.length : Int) != (l1.length : Int)) = false := bne_eq_false_iff_eq.mpr c3
    have c3b2 : (l0.length == l1.length) = true := by first | simpa using c3 | (simp at c3 ⊢; omega)
    clear c3
    have H' := Aside0.mk H
    clear H
    go_enter Try.func38, Try.ntmps38
    go_wp2
    repeat (go_quiet (fail); try go_wp2)
    go_loopg [5] k (fun kq v5 w' => ∃ (x5_1 : Int), v5 = .int .i64 x5_1 ∧ Aside0 (weighhouselaw17_SameLog.l0 kq l0 l1 x5_1 = some r) ∧ Aside0 (kq ≤ k) ∧ Drawn0 w w')
    case atStart => exact ⟨(0), (by first | rfl | (simp; done) | (simp [*]; done)), H', ⟨Nat.le_refl _⟩, by repeat (first | exact Drawn0.refl _ | apply Drawn0.step)⟩
    case round =>
      clear H'
      try clear c1
      try clear p2
      try clear c3
      try clear c3b0
      try clear c3b1
      try clear c3b2
      obtain ⟨x5_1, rfl, HA, HK1, ⟨m1, rfl⟩⟩ := hrel
      cases gk with
      | zero => exact absurd HA.out (by simp [weighhouselaw17_SameLog.l0])
      | succ k1 =>
        have H := HA.out
        clear HA
        simp only [weighhouselaw17_SameLog.l0] at H
        by_cases c4 : x5_1 < (l0.length : Int)
        · rw [if_pos c4] at H
          have c4b0 : decide (x5_1 < (l0.length : Int)) = true := decide_eq_true c4
          clear c4
          by_cases c5 : 0 ≤ x5_1
          · rw [if_pos c5] at H
            have c5b0 : decide (0 ≤ x5_1) = true := decide_eq_true c5
            clear c5
            by_cases c6 : x5_1 < (l1.length : Int)
            · rw [if_pos c6] at H
              have c6b0 : decide (x5_1 < (l1.length : Int)) = true := decide_eq_true c6
              clear c6
              by_cases c7 : (!(((rd_T74 l0 x5_1).f0) == ((rd_T74 l1 x5_1).f0)) || (!((((rd_T74 l0 x5_1).f1).toList) == (((rd_T74 l1 x5_1).f1).toList)))) = true
              · rw [if_pos c7] at H
                have c7b0 : (!(((rd_T74 l0 x5_1).f0) == ((rd_T74 l1 x5_1).f0)) || (!((((rd_T74 l0 x5_1).f1).toList) == (((rd_T74 l1 x5_1).f1).toList)))) = true := c7
                clear c7
                obtain rfl := Option.some.inj H
                have p166 : 0 ≤ (x5_1 : Int) := of_decide_eq_true (by first | (with_reducible assumption) | assumption)
                have q166 : x5_1 < (l0.length : Int) := of_decide_eq_true (by first | (with_reducible assumption) | assumption)
                obtain ⟨ad166, e166, hx166_0, hx166_1⟩ := at_T74 HR0.out x5_1 p166 q166
                cases e166
                replace p166 := eq_true p166
                replace q166 := eq_true q166
                have p167 : 0 ≤ (x5_1 : Int) := of_decide_eq_true (by first | (with_reducible assumption) | assumption)
                have q167 : x5_1 < (l1.length : Int) := of_decide_eq_true (by first | (with_reducible assumption) | assumption)
                obtain ⟨ad167, e167, hx167_0, hx167_1⟩ := at_T74 HR1.out x5_1 p167 q167
                cases e167
                replace p167 := eq_true p167
                replace q167 := eq_true q167
                go_wp2
                repeat (go_quiet (fail); try go_wp2)
                go_ret
                exact ⟨by first | rfl | (simp; done) | (simp [*]; done), by repeat (first | exact Drawn0.refl _ | apply Drawn0.step)⟩
              · rw [if_neg c7] at H
                have c7b0 : (!(((rd_T74 l0 x5_1).f0) == ((rd_T74 l1 x5_1).f0)) || (!((((rd_T74 l0 x5_1).f1).toList) == (((rd_T74 l1 x5_1).f1).toList)))) = false := by simpa using c7
                clear c7
                have H' := Aside0.mk H
                clear H
                have p166 : 0 ≤ (x5_1 : Int) := of_decide_eq_true (by first | (with_reducible assumption) | assumption)
                have q166 : x5_1 < (l0.length : Int) := of_decide_eq_true (by first | (with_reducible assumption) | assumption)
                obtain ⟨ad166, e166, hx166_0, hx166_1⟩ := at_T74 HR0.out x5_1 p166 q166
                cases e166
                replace p166 := eq_true p166
                replace q166 := eq_true q166
                have p167 : 0 ≤ (x5_1 : Int) := of_decide_eq_true (by first | (with_reducible assumption) | assumption)
                have q167 : x5_1 < (l1.length : Int) := of_decide_eq_true (by first | (with_reducible assumption) | assumption)
                obtain ⟨ad167, e167, hx167_0, hx167_1⟩ := at_T74 HR1.out x5_1 p167 q167
                cases e167
                replace p167 := eq_true p167
                replace q167 := eq_true q167
                go_wp2
                repeat (go_quiet (fail); try go_wp2)
                go_roundg k1
                case measure => have := HK1.out; omega
                case rel => exact ⟨(wrap64 (x5_1 + 1)), (by first | rfl | (simp; done) | (simp [*]; done)), H', ⟨by have := HK1.out; omega⟩, by repeat (first | exact Drawn0.refl _ | apply Drawn0.step)⟩
            · rw [if_neg c6] at H
              exact absurd H (by simp)
          · rw [if_neg c5] at H
            exact absurd H (by simp)
        · rw [if_neg c4] at H
          have c4b0 : decide (x5_1 < (l0.length : Int)) = false := decide_eq_false c4
          clear c4
          obtain rfl := Option.some.inj H
          go_wp2
          repeat (go_quiet (fail); try go_wp2)
          go_ret
          exact ⟨by first | rfl | (simp; done) | (simp [*]; done), by repeat (first | exact Drawn0.refl _ | apply Drawn0.step)⟩
  · rw [if_neg c3] at H
    have c3b0 : ((l0.length : Int) == (l1.length : Int)) = false := beq_eq_false_iff_ne.mpr c3
    have c3b1 : ((l0.length : Int) != (l1.length : Int)) = true := bne_iff_ne.mpr c3
    have c3b2 : (l0.length == l1.length) = false := by first | simpa using c3 | (simp at c3 ⊢; omega)
    obtain rfl := Option.some.inj H
    go_enter Try.func38, Try.ntmps38
    go_wp2
    repeat (go_quiet (fail); try go_wp2)
    go_ret
    exact ⟨by first | rfl | (simp; done) | (simp [*]; done), by repeat (first | exact Drawn0.refl _ | apply Drawn0.step)⟩

end Go.Proofs.Ytlmlkcobkmhmbaa.Q
end

section
-- written by hprint.py (a program of these sessions) out of the translation; Lean checks it
namespace Go.Proofs.Ytlmlkcobkmhmbaa.Q
open Go.RowKit Go.Proofs.YtlmlkcobkmhmbaaW.Hb Go.Proofs.YtlmlkcobkmhmbaaW.PrintWords Go.Proofs.YtlmlkcobkmhmbaaW.PrintLast Go.Proofs.YtlmlkcobkmhmbaaW.PrintMore
attribute [local go_sem] max2_int min2_int max_two min_two max_three min_three max_four min_four   -- for this text's walks alone
set_option linter.unusedVariables false
set_option linter.unusedSimpArgs false

/-! ### slices_Clone_byte_byte: function 64, by hand -/
def slices_Clone_byte_byte.f (l0 : List Int) : Option (List Int) := if l0.length ≤ 140737488355328 then some l0 else none
set_option maxRecDepth 100000 in
set_option maxHeartbeats 1000000 in
theorem slices_Clone_byte_byte.walk (A0 : Option Addr) (n c0 : Nat) (l0 : List Int) (w : World) (hn : l0.length = n) (hr0 : Kd.C (Kd.int .u8) w A0 l0.length l0) (hc0 : n ≤ c0) (hl : l0.length * 1 ≤ 140737488355328) :
    Calls Try.prog 64 #[.slice A0 n c0] w (OwnRes (Kd.int .u8) 5 w l0) := by
  subst hn
  have qT : ∀ (w : World) (a : Option Addr) (n c n' c' : Nat), (binOp .eql 35 (.slice a n c) (.slice none n' c')).run Try.prog w = .ok (.bool a.isNone) w := fun w a n c n' c' => Lib.run_eql_slice_nil w _ _ a n c n' c' Try.underlying35
  cases A0 with
  | none =>
    obtain rfl : l0 = [] := by
      rcases Nat.eq_zero_or_pos l0.length with h | h
      · exact List.eq_nil_of_length_eq_zero h
      · obtain ⟨ad, e, _⟩ := hr0.2.2 h
        cases e
    go_enter Try.func64, Try.ntmps64
    go_wp2
    go_ret
    exact ⟨_, rfl, Kd.R_nil _ _ _ _ _, Below.refl _ _⟩
  | some ad =>
    have HC := Aside0.mk (Kd.C_alloc hr0 (.cells #[] 5))
    have HO := Aside0.mk (show (Kd.int .u8).R 5 (w.alloc (.cells #[] 5)) w.heap.size (fun _ => True) (.slice (some ⟨w.heap.size, 0, none⟩) 0 0) [] from Kd.R_of_own (own_lit w w.heap.size 5 .u8 [] (Nat.le_refl _) (by simp)) (fun _ _ => trivial))
    have HB := Aside0.mk ((Below.refl w.heap.size w).alloc (Nat.le_refl _) (.cells #[] 5))
    clear hr0
    go_enter Try.func64, Try.ntmps64
    go_wp2_with ((with_reducible refine gate_builtin (b := .append) (xs := #[.tmp 5, .tmp 6]) rfl ?_); at_builtin; refine Kd.R_append_rows (Kd.int .u8) (w0 := w) (Rr := (Kd.int .u8).K (w.alloc (.cells #[] 5))) w.heap.size rfl (.tmp 5) (.tmp 6) 35 5 (.int .u8 0) 1 rfl Try.underlying35 info5 rfl (by decide) (by omega) (.slice (some ⟨w.heap.size, 0, none⟩) 0 0) [] l0 (some ad) l0.length c0 (fun _ => True) (fun _ => False) rfl rfl HO.out HC.out (fun x cs hK => hK) (fun _ hk => hk.elim) (fun _ _ => trivial) HB.out HB.out.size (by simpa using hl) ?_; intro v3 w3 hR3 hB3 _ _; have HR3 := Aside0.mk hR3; have HB3 := Aside0.mk hB3; clear hR3 hB3)
    go_ret
    exact ⟨_, rfl, HR3.out, HB3.out⟩
theorem slices_Clone_byte_byte.calls (A0 : Option Addr) (c0 : Nat) (l0 : List Int) (r : List Int) (w : World) (hr0 : Kd.C (Kd.int .u8) w A0 l0.length l0) (hc0 : l0.length ≤ c0) (h : slices_Clone_byte_byte.f l0 = some r) :
    Calls Try.prog 64 #[.slice A0 l0.length c0] w fun e w' => ∃ v0_ : Value, e = .returned (v0_) ∧ Kd.R (Kd.int .u8) 5 w' w.heap.size (fun _ => True) v0_ r ∧ Below w.heap.size w w' := by
  unfold slices_Clone_byte_byte.f at h
  split at h
  · obtain rfl := Option.some.inj h
    exact slices_Clone_byte_byte.walk A0 l0.length c0 l0 w rfl hr0 hc0 (by omega)
  · cases h


end Go.Proofs.Ytlmlkcobkmhmbaa.Q
end

section
-- written by hprint.py (a program of these sessions) out of the translation; Lean checks it
namespace Go.Proofs.Ytlmlkcobkmhmbaa.Q
open Go.RowKit Go.Proofs.YtlmlkcobkmhmbaaW.Hb Go.Proofs.YtlmlkcobkmhmbaaW.PrintWords Go.Proofs.YtlmlkcobkmhmbaaW.PrintLast Go.Proofs.YtlmlkcobkmhmbaaW.PrintMore
attribute [local go_sem] max2_int min2_int max_two min_two max_three min_three max_four min_four   -- for this text's walks alone
set_option linter.unusedVariables false
set_option linter.unusedSimpArgs false

/-! ### wire_Writer_Bytes_61: function 61, by hand -/
set_option maxRecDepth 100000 in
set_option maxHeartbeats 1000000 in
theorem wire_Writer_Bytes_61.calls (S : Nat → Prop) (g : Nat) (l : List Int) (w : World) (hW : Wr w S g l) (hl : l.length ≤ 1048576) :
    Calls Try.prog 61 #[.pointer (some ⟨g, 0, none⟩)] w (OwnRes (Kd.int .u8) 5 w l) := by
  obtain ⟨v, hb, hS, hR⟩ := hW
  obtain ⟨Av, cv, rfl, hcv, hC⟩ := Kd.R_reads hR
  have HB := Aside0.mk hb
  have h0 : w.cell? ⟨g, 0, none⟩ = some (.slice Av l.length cv) := hb.cell 0
  have HC := Aside0.mk (slices_Clone_byte_byte.walk Av l.length cv l w rfl hC hcv (by omega))
  clear hb hR hC
  go_enter Try.func61, Try.ntmps61
  go_wp2_with (first | (go_at_call 57; (with_reducible refine (wire_Writer_none_57.calls g _ true _ HB.out).mono ?_); rintro e2 w2 ⟨rfl, hw2⟩; subst w2) | (go_at_call 64; (with_reducible refine HC.out.mono ?_); rintro e2 w2 ⟨v2, rfl, hR2, hB2⟩; have HR2 := Aside0.mk hR2; have HB2 := Aside0.mk hB2; clear hR2 hB2))
  go_ret
  exact ⟨_, rfl, HR2.out, HB2.out⟩


end Go.Proofs.Ytlmlkcobkmhmbaa.Q
end

section
-- written by hprint.py (a program of these sessions) out of the translation; Lean checks it
namespace Go.Proofs.Ytlmlkcobkmhmbaa.Q
open Go.RowKit Go.Proofs.YtlmlkcobkmhmbaaW.Hb Go.Proofs.YtlmlkcobkmhmbaaW.PrintWords Go.Proofs.YtlmlkcobkmhmbaaW.PrintLast Go.Proofs.YtlmlkcobkmhmbaaW.PrintMore
attribute [local go_sem] max2_int min2_int max_two min_two max_three min_three max_four min_four   -- for this text's walks alone
set_option linter.unusedVariables false
set_option linter.unusedSimpArgs false

/-! ### wire_Writer_Byte_33: function 33, by hand -/
def badB (n : Int) : Bool := decide (n < 0) || decide (255 < n)
def wbytes (l xs : List Int) : List Int × Int := if xs.any badB then (l, 11) else wmore l xs
theorem badB_no {x : Int} (h : badB x = false) : 0 ≤ x ∧ x ≤ 255 := by
  unfold badB at h
  simp only [Bool.or_eq_false_iff, decide_eq_false_iff_not] at h
  omega
theorem badB_ok {x : Int} (h0 : 0 ≤ x) (h1 : x ≤ 255) : badB x = false := by
  unfold badB
  simp only [Bool.or_eq_false_iff, decide_eq_false_iff_not]
  omega
theorem badB_yes {x : Int} (h : x < 0 ∨ 255 < x) : badB x = true := by
  unfold badB
  simp only [Bool.or_eq_true, decide_eq_true_eq]
  exact h
theorem wbytes_bad {l xs : List Int} {x : Int} (hx : x ∈ xs) (h : x < 0 ∨ 255 < x) : wbytes l xs = (l, 11) := if_pos (List.any_eq_true.2 ⟨x, hx, badB_yes h⟩)
theorem wbytes_ok {l xs : List Int} (h : ∀ x ∈ xs, badB x = false) : wbytes l xs = wmore l xs := if_neg (by
  rw [Bool.not_eq_true, List.any_eq_false]
  intro x hx
  rw [h x hx]
  decide)
theorem take_bad {xs : List Int} {j : Nat} (hj : j < xs.length) (h : ∀ x ∈ xs.take j, badB x = false) (hx : badB xs[j] = false) : ∀ x ∈ xs.take (j + 1), badB x = false := by
  intro x hm
  rw [List.take_succ_eq_append_getElem hj] at hm
  rcases List.mem_append.1 hm with h' | h'
  · exact h x h'
  · rw [List.mem_singleton.1 h']
    exact hx
set_option maxRecDepth 100000 in
set_option maxHeartbeats 2000000 in
theorem wire_Writer_Byte_33.calls (S : Nat → Prop) (g : Nat) (l : List Int) (A : Option Addr) (n c : Nat) (xs : List Int) (w : World) (hn : xs.length = n) (hr : (Kd.int .i64).C w A xs.length xs) (hc : n ≤ c) (hsum : xs.length * 8 ≤ 140737488355328) (hW : Wr w S g l) (hl : l.length ≤ 1048576) :
    Calls Try.prog 33 #[.pointer (some ⟨g, 0, none⟩), .slice A n c] w fun e w' => e = .returned (.int .i64 (wbytes l xs).2) ∧ Wr w' (SS S w w') g (wbytes l xs).1 ∧ Fr w w' S := by
  subst hn
  have hm : xs.length ≤ 9223372036854775807 := hr.2.1
  have HR := Aside0.mk hr
  have HW := Aside0.mk hW
  clear hr hW
  go_enter Try.func33, Try.ntmps33
  go_wp2
  go_loopw [5, 10] (fun v i wr => ∃ j : Nat, j ≤ xs.length ∧ i = .int .i64 j ∧ Aside0 (∀ x ∈ xs.take j, badB x = false) ∧ Aside0 (Kd.R (Kd.int .u8) 5 wr w.heap.size (fun _ => True) v (xs.take j)) ∧ Aside0 (Below w.heap.size w wr)) (fun _ i _ => xs.length - (intOf i).toNat)
  case atStart => exact ⟨0, Nat.zero_le _, rfl, ⟨by simp⟩, ⟨Kd.R_nil _ _ _ _ _⟩, ⟨Below.refl _ _⟩⟩
  case round =>
    obtain ⟨j, hj, rfl, HS, HRj, HB⟩ := hrel
    by_cases hlt : j < xs.length
    · obtain ⟨ad, e, hcell⟩ := at_intN HR.out j hlt
      cases e
      replace hcell := (HB.out.cell (World.block_lt_of_cell? w _ hcell)).trans hcell
      have HT := Aside0.mk (List.take_succ_eq_append_getElem hlt)
      have HMEM := Aside0.mk (List.getElem_mem hlt)
      have HSN := Aside0.mk (take_bad hlt HS.out)
      obtain ⟨x, hx⟩ : ∃ x, x = xs[j] := ⟨_, rfl⟩
      rw [← hx] at HT hcell HMEM HSN
      clear hx
      have HWR := Aside0.mk (HW.out.below HB.out)
      obtain ⟨vw, hbw, hSg, hRw⟩ := HWR.out
      have HBW := Aside0.mk hbw
      clear hbw hRw
      by_cases hneg : x < 0
      · have HWB := Aside0.mk (wbytes_bad (l := l) HMEM.out (Or.inl hneg))
        have d1 : decide (x < 0) = true := decide_eq_true hneg
        clear hneg
        go_wp2_with (go_at_call 57; (with_reducible refine (wire_Writer_none_57.calls g _ true _ HBW.out).mono ?_); rintro e2 w2 ⟨rfl, hw2⟩; subst w2)
        go_ret
        rw [HWB.out]
        exact ⟨rfl, HWR.out.mono (fun k hk => .inl hk), Fr.of_below HB.out S⟩
      by_cases hbig : 255 < x
      · have HWB := Aside0.mk (wbytes_bad (l := l) HMEM.out (Or.inr hbig))
        have d1 : decide (x < 0) = false := decide_eq_false hneg
        have d2 : decide (255 < x) = true := decide_eq_true hbig
        clear hneg hbig
        go_wp2_with (go_at_call 57; (with_reducible refine (wire_Writer_none_57.calls g _ true _ HBW.out).mono ?_); rintro e2 w2 ⟨rfl, hw2⟩; subst w2)
        go_ret
        rw [HWB.out]
        exact ⟨rfl, HWR.out.mono (fun k hk => .inl hk), Fr.of_below HB.out S⟩
      · have d1 : decide (x < 0) = false := decide_eq_false hneg
        have d2 : decide (255 < x) = false := decide_eq_false hbig
        have h0 : 0 ≤ x := by omega
        have h1 : x ≤ 255 := by omega
        have HSN2 := Aside0.mk (HSN.out (badB_ok h0 h1))
        have HL := Aside0.mk (show ((xs.take j).length + 1) * 1 ≤ 140737488355328 by rw [List.length_take]; omega)
        clear hneg hbig
        go_wp2_with ((with_reducible refine gate_builtin (b := .append) (xs := #[.tmp 22, .tmp 25]) rfl ?_); at_builtin; refine Kd.R_append (Kd.int .u8) (w0 := w) w.heap.size rfl (.tmp 22) (.tmp 25) 35 5 (.int .u8 0) 1 rfl Try.underlying35 info5 rfl (by decide) (by omega) u5 (xs.take j) x [.int .u8 x] (fun _ => True) (fun _ => False) rfl rfl rfl (fun _ hk => hk.elim) (fun _ _ => trivial) HRj.out HB.out HB.out.size HL.out ?_; intro v3 w3 hR3 hB3 _ _; have HR3 := Aside0.mk hR3; have HB3 := Aside0.mk hB3; clear hR3 hB3)
        go_roundw
        case rel => exact ⟨j + 1, by omega, by go_num, HSN2, ⟨by rw [HT.out]; exact HR3.out⟩, HB3⟩
        case measure => simp [intOf]; omega
    · have hall : xs.take j = xs := List.take_of_length_le (by omega)
      have hS := HS.out
      have hR := HRj.out
      rw [hall] at hS hR
      have HWB := Aside0.mk (wbytes_ok (l := l) hS)
      obtain ⟨A1, c1, rfl, hc1, hC1⟩ := Kd.R_reads hR
      have HL1 := Aside0.mk (C_lit_one (Kd.int .u8) wr 5 35 A1 xs.length c1 xs rfl hC1 hc1)
      have HB2 := Aside0.mk (HB.out.alloc HB.out.size (.cells #[.slice A1 xs.length c1] 35))
      have HM := Aside0.mk (wire_Writer_more_58.calls S g l (some ⟨wr.heap.size, 0, none⟩) 1 1 [xs] xs (wr.alloc (.cells #[.slice A1 xs.length c1] 35)) rfl HL1.out (Nat.le_refl 1) (by simp) (by omega) (HW.out.below HB2.out) hl)
      clear hR hC1 HRj hS hall HS
      go_wp2_with (go_at_call 58; (with_reducible refine HM.out.mono ?_); rintro e2 w2 ⟨rfl, hw2, hf2⟩; have HE := Aside0.mk (more_end HB2.out hw2 hf2); clear hw2 hf2)
      go_ret
      rw [HWB.out]
      exact ⟨rfl, HE.out.1, HE.out.2⟩
theorem wmore_len {l : List Int} (h : l.length ≤ 1048576) (p : List Int) : (wmore l p).1.length ≤ 1048576 := by
  unfold wmore
  split
  · exact h
  · rw [List.length_append]
    omega
theorem wbytes_len {l : List Int} (h : l.length ≤ 1048576) (p : List Int) : (wbytes l p).1.length ≤ 1048576 := by
  unfold wbytes
  split
  · exact h
  · exact wmore_len h p
theorem wtexts_len {l : List Int} (h : l.length ≤ 1048576) (p : List ByteArray) : (wtexts l p).1.length ≤ 1048576 := by
  unfold wtexts
  split
  · exact h
  · exact wmore_len h _
theorem wmore_yes {l p : List Int} (h : ¬ 1048576 - (l.length : Int) < (p.length : Int)) : wmore l p = (l ++ p, 0) := if_neg h
theorem wmore_no {l p : List Int} (h : 1048576 - (l.length : Int) < (p.length : Int)) : wmore l p = (l, 6) := if_pos h
/-- One writer. -/
def OneW (w0 w : World) (g : Nat) (l : List Int) : Prop := ∃ S, Wr w S g l ∧ (∀ k, S k → w0.heap.size ≤ k) ∧ l.length ≤ 1048576 ∧ Below w0.heap.size w0 w
section
variable {w0 w w' : World} {g : Nat} {l xs : List Int} {e : Int}
theorem OneW.bel (h : OneW w0 w g l) : Below w0.heap.size w0 w := by
  obtain ⟨_, _, _, _, h⟩ := h
  exact h
theorem OneW.below (h : OneW w0 w g l) (hb : Below w.heap.size w w') : OneW w0 w' g l := by
  obtain ⟨S, h1, h2, h3, h4⟩ := h
  exact ⟨S, h1.below hb, h2, h3, h4.trans (hb.mono h4.size)⟩
theorem OneW.step {S : Nat → Prop} {l' : List Int} (h2 : ∀ k, S k → w0.heap.size ≤ k) (h4 : Below w0.heap.size w0 w) (h1 : Wr w' (SS S w w') g l') (hf : Fr w w' S) (hl : l'.length ≤ 1048576) : OneW w0 w' g l' := by
  have hs := h4.size
  refine ⟨SS S w w', h1, fun k hk => ?_, hl, h4.trans (hf.below hs h2)⟩
  rcases hk with hk | hk
  · exact h2 k hk
  · omega
theorem intO {l' : List Int} {ec : Int} {p : List Int} (n c : Nat) (A : Option Addr) (hw : wmore l (ints8 p) = (l', ec)) (h : OneW w0 w g l) (hn : p.length = n) (hr : (Kd.int .i64).C w A p.length p) (hc : n ≤ c) (hs : p.length * 8 ≤ 140737488355328) : Calls Try.prog 34 #[.pointer (some ⟨g, 0, none⟩), .slice A n c] w fun en w' => en = .returned (.int .i64 ec) ∧ OneW w0 w' g l' := by
  obtain ⟨S, h1, h2, h3, h4⟩ := h
  have hl := wmore_len h3 (ints8 p)
  have := wire_Writer_Int_34.calls S g l A n c p w hn hr hc hs h1 h3
  rw [hw] at this hl
  exact this.mono fun en w' ⟨he, h, hf⟩ => ⟨he, OneW.step h2 h4 h hf hl⟩
theorem textO {l' : List Int} {ec : Int} {p : List ByteArray} (n c : Nat) (A : Option Addr) (hw : wtexts l p = (l', ec)) (h : OneW w0 w g l) (hn : p.length = n) (hr : Kd.string.C w A p.length p) (hc : n ≤ c) (hs : (textsB p).length * 1 ≤ 140737488355328) (hs2 : p.length * 48 ≤ 140737488355328) : Calls Try.prog 60 #[.pointer (some ⟨g, 0, none⟩), .slice A n c] w fun en w' => en = .returned (.int .i64 ec) ∧ OneW w0 w' g l' := by
  obtain ⟨S, h1, h2, h3, h4⟩ := h
  have hl := wtexts_len h3 p
  have := wire_Writer_Text_60.calls S g l A n c p w hn hr hc hs hs2 h1 h3
  rw [hw] at this hl
  exact this.mono fun en w' ⟨he, h, hf⟩ => ⟨he, OneW.step h2 h4 h hf hl⟩
theorem byteO {l' : List Int} {ec : Int} {p : List Int} (n c : Nat) (A : Option Addr) (hw : wbytes l p = (l', ec)) (h : OneW w0 w g l) (hn : p.length = n) (hr : (Kd.int .i64).C w A p.length p) (hc : n ≤ c) (hs : p.length * 8 ≤ 140737488355328) : Calls Try.prog 33 #[.pointer (some ⟨g, 0, none⟩), .slice A n c] w fun en w' => en = .returned (.int .i64 ec) ∧ OneW w0 w' g l' := by
  obtain ⟨S, h1, h2, h3, h4⟩ := h
  have hl := wbytes_len h3 p
  have := wire_Writer_Byte_33.calls S g l A n c p w hn hr hc hs h1 h3
  rw [hw] at this hl
  exact this.mono fun en w' ⟨he, h, hf⟩ => ⟨he, OneW.step h2 h4 h hf hl⟩
theorem bytesO (h : OneW w0 w g l) : Calls Try.prog 61 #[.pointer (some ⟨g, 0, none⟩)] w (OwnRes (Kd.int .u8) 5 w l) := by
  obtain ⟨S, h1, h2, h3, h4⟩ := h
  exact wire_Writer_Bytes_61.calls S g l w h1 h3
end


end Go.Proofs.Ytlmlkcobkmhmbaa.Q
end

section
-- written by hprint.py (a program of these sessions) out of the translation; Lean checks it
namespace Go.Proofs.Ytlmlkcobkmhmbaa.Q
open Go.RowKit Go.Proofs.YtlmlkcobkmhmbaaW.Hb Go.Proofs.YtlmlkcobkmhmbaaW.PrintWords Go.Proofs.YtlmlkcobkmhmbaaW.PrintLast Go.Proofs.YtlmlkcobkmhmbaaW.PrintMore
attribute [local go_sem] max2_int min2_int max_two min_two max_three min_three max_four min_four   -- for this text's walks alone
set_option linter.unusedVariables false
set_option linter.unusedSimpArgs false

/-! ### message_pen_must: function 32, by hand -/
/-- A pen: block g over the writer gw, its bytes, its error; G: blocks of others that stay. -/
def Pn (w0 w : World) (g gw : Nat) (l : List Int) (e : Int) (G : Nat → Prop) : Prop := ∃ S, Wr w S gw l ∧ (∀ k, S k → w0.heap.size ≤ k ∧ k ≠ g ∧ ¬ G k ∧ k < w.heap.size) ∧ Blk w g 79 #[.pointer (some ⟨gw, 0, none⟩), .int .i64 e] ∧ w0.heap.size ≤ g ∧ l.length ≤ 1048576 ∧ Below w0.heap.size w0 w ∧ (∀ k, G k → k < w.heap.size ∧ k ≠ g)
def Stay (w w' : World) (G : Nat → Prop) : Prop := ∀ k, G k → w'.heap[k]? = w.heap[k]?
theorem Stay.blk {w w' : World} {G : Nat → Prop} {g : Nat} {t : TypeId} {cs : Array Value} (h : Stay w w' G) (hb : Blk w g t cs) (hg : G g) : Blk w' g t cs := (h g hg).trans hb
section
variable {w0 w w' : World} {g gw : Nat} {l : List Int} {e : Int} {G : Nat → Prop}
theorem Pn.bel (h : Pn w0 w g gw l e G) : Below w0.heap.size w0 w := by
  obtain ⟨_, _, _, _, _, _, h, _⟩ := h
  exact h
theorem Pn.len (h : Pn w0 w g gw l e G) : l.length ≤ 1048576 := by
  obtain ⟨_, _, _, _, _, h, _⟩ := h
  exact h
theorem Pn.blk (h : Pn w0 w g gw l e G) : Blk w g 79 #[.pointer (some ⟨gw, 0, none⟩), .int .i64 e] := by
  obtain ⟨_, _, _, h, _⟩ := h
  exact h
theorem Pn.below (h : Pn w0 w g gw l e G) (hb : Below w.heap.size w w') : Pn w0 w' g gw l e G := by
  obtain ⟨S, h1, h2, h3, h4, h5, h6, h7⟩ := h
  have hs := hb.size
  exact ⟨S, h1.below hb, fun k hk => by have := h2 k hk; exact ⟨this.1, this.2.1, this.2.2.1, by omega⟩, h3.after hb, h4, h5, h6.trans (hb.mono h6.size), fun k hk => by have := h7 k hk; exact ⟨by omega, this.2⟩⟩
theorem Pn.free (h : Pn w0 w g gw l e G) : Pn w0 w g gw l e (fun _ => False) := by
  obtain ⟨S, h1, h2, h3, h4, h5, h6, h7⟩ := h
  exact ⟨S, h1, fun k hk => ⟨(h2 k hk).1, (h2 k hk).2.1, id, (h2 k hk).2.2.2⟩, h3, h4, h5, h6, fun _ h => h.elim⟩
/-- A new block, as a guest. -/
theorem Pn.guest (h : Pn w0 w g gw l e G) (o : Obj) : Pn w0 (w.alloc o) g gw l e (fun k => k = w.heap.size) := by
  have hb : Below w.heap.size w (w.alloc o) := (Below.refl _ _).alloc (Nat.le_refl _) o
  obtain ⟨S, h1, h2, h3, h4, h5, h6, h7⟩ := h.below hb
  obtain ⟨S', g1, g2, g3, g4, g5, g6, g7⟩ := h
  have hg := g3.lt
  refine ⟨S', g1.below hb, fun k hk => ?_, h3, h4, h5, h6, fun k hk => ?_⟩
  · have := g2 k hk
    refine ⟨this.1, this.2.1, by omega, ?_⟩
    simp
    omega
  · subst hk
    simp
    omega
theorem Pn.step {S : Nat → Prop} {l' : List Int} (h2 : ∀ k, S k → w0.heap.size ≤ k ∧ k ≠ g ∧ ¬ G k ∧ k < w.heap.size) (h3 : Blk w g 79 #[.pointer (some ⟨gw, 0, none⟩), .int .i64 e]) (h4 : w0.heap.size ≤ g) (h6 : Below w0.heap.size w0 w) (h7 : ∀ k, G k → k < w.heap.size ∧ k ≠ g) (h1 : Wr w' (SS S w w') gw l') (hf : Fr w w' S) (hl : l'.length ≤ 1048576) : Pn w0 w' g gw l' e G ∧ Stay w w' G := by
  have hs := h6.size
  have hg := h3.lt
  have hs2 := hf.1.size
  refine ⟨⟨SS S w w', h1, fun k hk => ?_, blk_kept h3 hf.2 (fun hk => (h2 g hk).2.1 rfl), h4, hl, h6.trans (hf.below hs (fun k hk => (h2 k hk).1)), fun k hk => ?_⟩, fun k hk => ?_⟩
  · rcases hk with hk | hk
    · have := h2 k hk
      exact ⟨this.1, this.2.1, this.2.2.1, by omega⟩
    · exact ⟨by omega, by omega, fun h => by have := h7 k h; omega, hk.2⟩
  · have := h7 k hk
    exact ⟨by omega, this.2⟩
  · exact hf.2.2 k (h7 k hk).1 (fun h => (h2 k h).2.2.1 hk)
theorem Pn.set_ (h : Pn w0 w g gw l e G) (e' : Int) : Pn w0 (w.setCell ⟨g, 1, none⟩ (.int .i64 e')) g gw l e' G ∧ Stay w (w.setCell ⟨g, 1, none⟩ (.int .i64 e')) G := by
  obtain ⟨S, h1, h2, h3, h4, h5, h6, h7⟩ := h
  have hs : (w.setCell ⟨g, 1, none⟩ (.int .i64 e')).heap.size = w.heap.size := by simp [World.setCell]
  exact ⟨⟨S, h1.kept (Kept.setCell (S := fun k => k = g) (Kept.refl w _) (.inl rfl) _) (fun k hk => (h2 k hk).2.1), fun k hk => by rw [hs]; exact h2 k hk, by simpa using h3.set_ 1 (.int .i64 e'), h4, h5, h6.setCell h4 _, fun k hk => by rw [hs]; exact h7 k hk⟩, fun k hk => Below.heap_setCell w _ _ k (h7 k hk).2⟩
theorem byteP {l' : List Int} {ec : Int} {p : List Int} (n c : Nat) (A : Option Addr) (hw : wbytes l p = (l', ec)) (h : Pn w0 w g gw l e G) (hn : p.length = n) (hr : (Kd.int .i64).C w A p.length p) (hc : n ≤ c) (hs : p.length * 8 ≤ 140737488355328) : Calls Try.prog 33 #[.pointer (some ⟨gw, 0, none⟩), .slice A n c] w fun en w' => en = .returned (.int .i64 ec) ∧ Pn w0 w' g gw l' e G ∧ Stay w w' G := by
  obtain ⟨S, h1, h2, h3, h4, h5, h6, h7⟩ := h
  have hl := wbytes_len h5 p
  have := wire_Writer_Byte_33.calls S gw l A n c p w hn hr hc hs h1 h5
  rw [hw] at this hl
  exact this.mono fun en w' ⟨he, h, hf⟩ => ⟨he, Pn.step h2 h3 h4 h6 h7 h hf hl⟩
theorem intP {l' : List Int} {ec : Int} {p : List Int} (n c : Nat) (A : Option Addr) (hw : wmore l (ints8 p) = (l', ec)) (h : Pn w0 w g gw l e G) (hn : p.length = n) (hr : (Kd.int .i64).C w A p.length p) (hc : n ≤ c) (hs : p.length * 8 ≤ 140737488355328) : Calls Try.prog 34 #[.pointer (some ⟨gw, 0, none⟩), .slice A n c] w fun en w' => en = .returned (.int .i64 ec) ∧ Pn w0 w' g gw l' e G ∧ Stay w w' G := by
  obtain ⟨S, h1, h2, h3, h4, h5, h6, h7⟩ := h
  have hl := wmore_len h5 (ints8 p)
  have := wire_Writer_Int_34.calls S gw l A n c p w hn hr hc hs h1 h5
  rw [hw] at this hl
  exact this.mono fun en w' ⟨he, h, hf⟩ => ⟨he, Pn.step h2 h3 h4 h6 h7 h hf hl⟩
theorem textP {l' : List Int} {ec : Int} {p : List ByteArray} (n c : Nat) (A : Option Addr) (hw : wtexts l p = (l', ec)) (h : Pn w0 w g gw l e G) (hn : p.length = n) (hr : Kd.string.C w A p.length p) (hc : n ≤ c) (hs : (textsB p).length * 1 ≤ 140737488355328) (hs2 : p.length * 48 ≤ 140737488355328) : Calls Try.prog 60 #[.pointer (some ⟨gw, 0, none⟩), .slice A n c] w fun en w' => en = .returned (.int .i64 ec) ∧ Pn w0 w' g gw l' e G ∧ Stay w w' G := by
  obtain ⟨S, h1, h2, h3, h4, h5, h6, h7⟩ := h
  have hl := wtexts_len h5 p
  have := wire_Writer_Text_60.calls S gw l A n c p w hn hr hc hs hs2 h1 h5
  rw [hw] at this hl
  exact this.mono fun en w' ⟨he, h, hf⟩ => ⟨he, Pn.step h2 h3 h4 h6 h7 h hf hl⟩
theorem bytesP (h : Pn w0 w g gw l e G) : Calls Try.prog 61 #[.pointer (some ⟨gw, 0, none⟩)] w (OwnRes (Kd.int .u8) 5 w l) := by
  obtain ⟨S, h1, h2, h3, h4, h5, h6, h7⟩ := h
  exact wire_Writer_Bytes_61.calls S gw l w h1 h5
end
def mustE (e ec : Int) : Int := if e = 0 then ec else e
theorem mustE_0 (ec : Int) : mustE 0 ec = ec := rfl
theorem mustE_n {e : Int} (h : e ≠ 0) (ec : Int) : mustE e ec = e := if_neg h
set_option maxRecDepth 100000 in
theorem message_pen_must.calls (w0 w : World) (g gw : Nat) (l : List Int) (e ec : Int) (G : Nat → Prop) (h : Pn w0 w g gw l e G) :
    Calls Try.prog 32 #[.pointer (some ⟨g, 0, none⟩), .int .i64 ec] w fun en w' => en = .returned (.tuple #[]) ∧ Pn w0 w' g gw l (mustE e ec) G ∧ Stay w w' G := by
  have HP := Aside0.mk h
  have h1 : w.cell? ⟨g, 1, none⟩ = some (.int .i64 e) := h.blk.cell 1
  have f1 : w.frozen? ⟨g, 1, none⟩ = false := h.blk.frozen 1
  clear h
  by_cases he : e = 0
  · subst he
    go_enter Try.func32, Try.ntmps32
    go_wp2
    refine bodyPost_end (results_none rfl _ _ _) rfl ?_
    exact ⟨rfl, HP.out.set_ _⟩
  · have hb : (e == 0) = false := by simp [he]
    have HX := Aside0.mk (mustE_n he ec)
    clear he
    go_enter Try.func32, Try.ntmps32
    go_wp2
    refine bodyPost_end (results_none rfl _ _ _) rfl ?_
    rw [HX.out]
    exact ⟨rfl, HP.out, fun _ _ => rfl⟩


end Go.Proofs.Ytlmlkcobkmhmbaa.Q
end

section
-- written by hprint.py (a program of these sessions) out of the translation; Lean checks it
namespace Go.Proofs.Ytlmlkcobkmhmbaa.Q
open Go.RowKit Go.Proofs.YtlmlkcobkmhmbaaW.Hb Go.Proofs.YtlmlkcobkmhmbaaW.PrintWords Go.Proofs.YtlmlkcobkmhmbaaW.PrintLast Go.Proofs.YtlmlkcobkmhmbaaW.PrintMore
attribute [local go_sem] max2_int min2_int max_two min_two max_three min_three max_four min_four   -- for this text's walks alone
set_option linter.unusedVariables false
set_option linter.unusedSimpArgs false

/-! ### message_pen_all: function 36, by hand -/
def penRes (e : Int) (l : List Int) : List Int := if e = 0 then l else []
theorem penRes_0 (l : List Int) : penRes 0 l = l := rfl
theorem penRes_n {e : Int} (h : e ≠ 0) (l : List Int) : penRes e l = [] := if_neg h
set_option maxRecDepth 100000 in
theorem message_pen_all.calls (w0 w : World) (g gw : Nat) (l : List Int) (e : Int) (G : Nat → Prop) (h : Pn w0 w g gw l e G) :
    Calls Try.prog 36 #[.pointer (some ⟨g, 0, none⟩)] w fun en w' => ∃ v, en = .returned (.tuple #[v, .int .i64 e]) ∧ Kd.R (Kd.int .u8) 5 w' w.heap.size (fun _ => True) v (penRes e l) ∧ Below w.heap.size w w' := by
  have HP := Aside0.mk h
  have h0 : w.cell? ⟨g, 0, none⟩ = some (.pointer (some ⟨gw, 0, none⟩)) := h.blk.cell 0
  have h1 : w.cell? ⟨g, 1, none⟩ = some (.int .i64 e) := h.blk.cell 1
  clear h
  by_cases he : e = 0
  · subst he
    go_enter Try.func36, Try.ntmps36
    go_wp2_with (go_at_call 61; (with_reducible refine (bytesP HP.out).mono ?_); rintro e2 w2 ⟨v2, rfl, hR2, hB2⟩; have HR2 := Aside0.mk hR2; have HB2 := Aside0.mk hB2; clear hR2 hB2)
    go_ret2
    exact ⟨_, rfl, HR2.out, HB2.out⟩
  · have hb : (e == 0) = false := by simp [he]
    have hb2 : (e != 0) = true := by simp [he]
    have HX := Aside0.mk he
    clear he
    go_enter Try.func36, Try.ntmps36
    go_wp2
    have h1d : w.drew.cell? ⟨g, 1, none⟩ = some (.int .i64 e) := h1
    go_region
    all_goals go_wp2
    all_goals go_ret2
    all_goals exact ⟨_, rfl, by rw [penRes_n HX.out]; exact Kd.R_nil _ _ _ _ _, (Below.refl _ _).drew⟩


end Go.Proofs.Ytlmlkcobkmhmbaa.Q
end

section
-- written by hprint.py (a program of these sessions) out of the translation; Lean checks it
namespace Go.Proofs.Ytlmlkcobkmhmbaa.Q
open Go.RowKit Go.Proofs.YtlmlkcobkmhmbaaW.Hb Go.Proofs.YtlmlkcobkmhmbaaW.PrintWords Go.Proofs.YtlmlkcobkmhmbaaW.PrintLast Go.Proofs.YtlmlkcobkmhmbaaW.PrintMore
attribute [local go_sem] max2_int min2_int max_two min_two max_three min_three max_four min_four   -- for this text's walks alone
set_option linter.unusedVariables false
set_option linter.unusedSimpArgs false

/-! ### message_pen_log: function 35, by hand -/
def wput1 (st : List Int × Int) (x : S74) : List Int × Int := ((wtexts (wmore st.1 (ints8 [x.f0])).1 [x.f1]).1, mustE (mustE st.2 (wmore st.1 (ints8 [x.f0])).2) (wtexts (wmore st.1 (ints8 [x.f0])).1 [x.f1]).2)
def wputs (st : List Int × Int) (xs : List S74) : List Int × Int := xs.foldl wput1 st
def whead (st : List Int × Int) (n : Int) : List Int × Int := ((wbytes st.1 [n / 256, n % 256]).1, mustE st.2 (wbytes st.1 [n / 256, n % 256]).2)
def wlog (st : List Int × Int) (xs : List S74) : List Int × Int := wputs (whead st xs.length) xs
theorem wput1_is {L L1 L2 : List Int} {E E1 E2 v : Int} {s : ByteArray} (h1 : wmore L (ints8 [v]) = (L1, E1)) (h2 : wtexts L1 [s] = (L2, E2)) : wput1 (L, E) ⟨v, s⟩ = (L2, mustE (mustE E E1) E2) := by
  unfold wput1
  simp only [h1, h2]
theorem wputs_take (st : List Int × Int) (xs : List S74) (k : Nat) (hk : k < xs.length) : wputs st (xs.take (k + 1)) = wput1 (wputs st (xs.take k)) xs[k] := by
  unfold wputs
  rw [List.take_succ_eq_append_getElem hk, List.foldl_append]
  rfl
theorem i64_and255 (n : Nat) (hn : n < 65536) : Go.bits .and .i64 (n : Int) 255 = (n : Int) % 256 := by
  have h1 : (BitVec.ofInt 64 (n : Int)).toNat = n := by
    rw [BitVec.ofInt_natCast, BitVec.toNat_ofNat]; exact Nat.mod_eq_of_lt (by omega)
  have h2 : (BitVec.ofInt 64 (255 : Int)).toNat = 255 := by decide
  have h3 : n &&& 255 = n % 256 := Nat.and_two_pow_sub_one_eq_mod n 8
  show IntKind.i64.wrap ((BitVec.ofInt 64 (n : Int) &&& BitVec.ofInt 64 255).toNat : Int) = _
  rw [BitVec.toNat_and, h1, h2, h3, i64_w]
  have := wrapI (n := ((n % 256 : Nat) : Int)) (by omega) (by omega)
  rw [this]
  omega
theorem C_one_str (W : World) (s : ByteArray) (t : TypeId) : Kd.string.C (W.alloc (.cells #[.string s] t)) (some ⟨W.heap.size, 0, none⟩) [s].length [s] := C_of_reps (d := Kd.string) (Blk.new W _ _) [s] (Reps_one (c := [.string s]) rfl rfl) (by simp)
theorem textsB_one (s : ByteArray) (h : s.size ≤ 140737488351232) : (textsB [s]).length * 1 ≤ 140737488355328 := by
  have hts : textsB [s] = textB s := by simp [textsB]
  rw [hts]
  unfold textB
  rw [List.length_append, bigL_len', bytesOf_length]
  omega
set_option maxRecDepth 100000 in
set_option maxHeartbeats 2000000 in
theorem message_pen_log.calls (w0 w : World) (g gw : Nat) (l : List Int) (e : Int) (A : Option Addr) (c : Nat) (xs : List S74) (h : Pn w0 w g gw l e (fun _ => False)) (hr : Kd.C k74 w0 A xs.length xs) (hc : xs.length ≤ c) (hn : xs.length ≤ 2048) (hs : ∀ x ∈ xs, x.f1.size ≤ 16384) :
    Calls Try.prog 35 #[.pointer (some ⟨g, 0, none⟩), .slice A xs.length c] w fun en w' => en = .returned (.tuple #[]) ∧ Pn w0 w' g gw (wlog (l, e) xs).1 (wlog (l, e) xs).2 (fun _ => False) := by
  have HP := Aside0.mk h
  have HR := Aside0.mk hr
  have HSZ := Aside0.mk hs
  have h0 : w.cell? ⟨g, 0, none⟩ = some (.pointer (some ⟨gw, 0, none⟩)) := h.blk.cell 0
  have han := i64_and255 xs.length (by omega)
  obtain ⟨q1, hq1⟩ : ∃ q1 : Int, q1 = (xs.length : Int) / 256 := ⟨_, rfl⟩
  obtain ⟨q2, hq2⟩ : ∃ q2 : Int, (xs.length : Int) % 256 = q2 := ⟨_, rfl⟩
  rw [hq2] at han
  obtain ⟨l1, e1, hw1⟩ : ∃ l1 e1, wbytes l [q1, q2] = (l1, e1) := ⟨_, _, rfl⟩
  have HW1 := Aside0.mk hw1
  have HX := Aside0.mk (show wlog (l, e) xs = wputs (l1, mustE e e1) xs by unfold wlog whead; rw [← hq1, hq2, hw1])
  have HC := Aside0.mk (C_lit_int w w.heap.size rfl .i64 [q1, q2] #[.int .i64 q1, .int .i64 q2] rfl 3 (by simp))
  have HP1 := Aside0.mk (HP.out.below ((Below.refl _ _).alloc (Nat.le_refl _) (.cells #[.int .i64 q1, .int .i64 q2] 3)))
  rw [hq1] at HC HP1 HW1
  clear h hr hs hq2 hw1
  go_enter Try.func35, Try.ntmps35
  go_wp2_with (first | (go_at_call 33; (with_reducible refine (byteP 2 2 _ HW1.out HP1.out rfl HC.out (Nat.le_refl 2) (by simp)).mono ?_); rintro e2 w2 ⟨rfl, hP2, _⟩; have HP2 := Aside0.mk hP2; clear hP2) | (go_at_call 32; (with_reducible refine (message_pen_must.calls w0 _ g gw l1 e e1 _ HP2.out).mono ?_); rintro e3 w3 ⟨rfl, hP3, _⟩; have HP3 := Aside0.mk hP3; clear hP3))
  go_loopw [22] (fun i wr => ∃ k : Nat, k ≤ xs.length ∧ i = .int .i64 k ∧ Aside0 (Pn w0 wr g gw (wputs (l1, mustE e e1) (xs.take k)).1 (wputs (l1, mustE e e1) (xs.take k)).2 (fun _ => False))) (fun i _ => xs.length - (intOf i).toNat)
  case atStart => exact ⟨0, Nat.zero_le _, rfl, HP3⟩
  case round =>
    clear HP HP1 HP2 HP3 HC HW1
    obtain ⟨k, hk, rfl, HP⟩ := hrel
    by_cases hlt : k < xs.length
    · obtain ⟨ad, ea, hcell, hcell1⟩ := at_EntryN (Kd.C_below HR.out HP.out.bel) k hlt
      cases ea
      have HT := Aside0.mk (wputs_take (l1, mustE e e1) xs k hlt)
      have HZ := Aside0.mk (HSZ.out _ (List.getElem_mem hlt))
      obtain ⟨x, hx⟩ : ∃ x, xs[k] = x := ⟨_, rfl⟩
      rw [hx] at hcell hcell1 HT HZ
      obtain ⟨st, hst⟩ : ∃ st, wputs (l1, mustE e e1) (xs.take k) = st := ⟨_, rfl⟩
      rw [hst] at HP HT
      obtain ⟨L, E⟩ := st
      obtain ⟨v, s⟩ := x
      obtain ⟨L1, E1, hm1⟩ : ∃ L1 E1, wmore L (ints8 [v]) = (L1, E1) := ⟨_, _, rfl⟩
      obtain ⟨L2, E2, hm2⟩ : ∃ L2 E2, wtexts L1 [s] = (L2, E2) := ⟨_, _, rfl⟩
      have HM1 := Aside0.mk hm1
      have HM2 := Aside0.mk hm2
      rw [wput1_is hm1 hm2] at HT
      have HTB := Aside0.mk (textsB_one s (by have := HZ.out; simp only at this; omega))
      have HPd := Aside0.mk ((HP.out.guest (.cells #[.int .i64 v, .string s] 74)).below ((Below.refl _ _).drew))
      have HXd := Aside0.mk ((Blk.new wr 74 #[.int .i64 v, .string s]).drew)
      clear hx hst hm1 hm2 HP
      go_wp2
      generalize wr.alloc (.cells #[.int .i64 v, .string s] 74) = W1 at HPd HXd ⊢
      generalize wr.heap.size = xb at HPd HXd ⊢
      refine start_ (n := 10) (S := fun w' => w'.cell? ⟨g, 0, none⟩ = some (.pointer (some ⟨gw, 0, none⟩)) ∧ w'.cell? ⟨xb, 0, none⟩ = some (.int .i64 v)) (ds := [8, 9]) #[false, false, false, false, false, false, false, false, false, false] (by kernel_rfl) rfl rfl ⟨(HPd.out.blk.cell 0), (HXd.out.cell 0)⟩ (fun hHeld => ?_)
      generalize W1.drew = wd at HPd HXd hHeld ⊢
      refine pure_ (i := 0) (N := some 26) (v := ?_) (a' := ?_) #[true, false, false, false, false, false, false, false, false, false] rfl rfl (by kernel_rfl) (fun _ _ _ h => h) (Or.inl ⟨by rfl, ?_⟩) ?_ ?_
      rotate_left
      · intro w'
        go_simp
        with_reducible rfl
      rotate_left
      · simp only [Act.put, List.setIfInBounds_toArray, List.set_cons_zero, List.set_cons_succ, i64_w, i32_w]
        rfl
      refine pure_ (i := 1) (N := some 27) (v := ?_) (a' := ?_) #[true, true, false, false, false, false, false, false, false, false] rfl rfl (by kernel_rfl) (fun _ _ _ h => h) (Or.inl ⟨by rfl, ?_⟩) ?_ ?_
      rotate_left
      · intro w'
        go_simp
        with_reducible rfl
      rotate_left
      · simp only [Act.put, List.setIfInBounds_toArray, List.set_cons_zero, List.set_cons_succ, i64_w, i32_w]
        rfl
      refine pure_ (i := 2) (N := some 28) (v := ?_) (a' := ?_) #[true, true, true, false, false, false, false, false, false, false] rfl rfl (by kernel_rfl) (fun _ _ _ h => h) (Or.inl ⟨by rfl, ?_⟩) ?_ ?_
      rotate_left
      · intro w'
        go_simp
        with_reducible rfl
      rotate_left
      · simp only [Act.put, List.setIfInBounds_toArray, List.set_cons_zero, List.set_cons_succ, i64_w, i32_w]
        rfl
      refine pure_ (i := 3) (N := some 29) (v := ?_) (a' := ?_) #[true, true, true, true, false, false, false, false, false, false] rfl rfl (by kernel_rfl) (fun _ _ _ h => h) (Or.inl ⟨by rfl, ?_⟩) ?_ ?_
      rotate_left
      · intro w'
        go_simp
        with_reducible rfl
      rotate_left
      · simp only [Act.put, List.setIfInBounds_toArray, List.set_cons_zero, List.set_cons_succ, i64_w, i32_w]
        rfl
      refine pure_ (i := 5) (N := some 31) (v := ?_) (a' := ?_) #[true, true, true, true, false, true, false, false, false, false] rfl rfl (by kernel_rfl) (fun _ _ _ h => h) (Or.inl ⟨by rfl, ?_⟩) ?_ ?_
      rotate_left
      · intro w'
        go_simp
        with_reducible rfl
      rotate_left
      · simp only [Act.put, List.setIfInBounds_toArray, List.set_cons_zero, List.set_cons_succ, i64_w, i32_w]
        rfl
      refine take_ (i := 4) (N := some 30) (v := ?_) (a' := ?_) #[true, true, true, true, true, true, false, false, false, false] rfl rfl (by kernel_rfl) (fun _ _ _ h => h) (Or.inl ⟨by rfl, ?_⟩) hHeld ?_ ?_
      rotate_left
      · rintro w' ⟨s0, s1⟩
        go_simp
        with_reducible rfl
      rotate_left
      · simp only [Act.put, List.setIfInBounds_toArray, List.set_cons_zero, List.set_cons_succ, i64_w, i32_w]
        rfl
      refine take_ (i := 6) (N := some 32) (v := ?_) (a' := ?_) #[true, true, true, true, true, true, true, false, false, false] rfl rfl (by kernel_rfl) (fun _ _ _ h => h) (Or.inl ⟨by rfl, ?_⟩) hHeld ?_ ?_
      rotate_left
      · rintro w' ⟨s0, s1⟩
        go_simp
        with_reducible rfl
      rotate_left
      · simp only [Act.put, List.setIfInBounds_toArray, List.set_cons_zero, List.set_cons_succ, i64_w, i32_w]
        rfl
      refine one_ (i := 7) (N := some 33) #[true, true, true, true, true, true, true, true, false, false] rfl rfl (by kernel_rfl) (by decide) (fun K hK => ?_)
      refine value_ (w1 := ?_) (v := ?_) (by rfl) rfl ?_ ?_
      rotate_left 2
      · go_simp
        constructor
        · rfl
        · rfl
      have HC2 := Aside0.mk (C_lit_int wd wd.heap.size rfl .i64 [v] #[.int .i64 v] rfl 3 (by simp))
      have HB2 := Aside0.mk ((Below.refl _ wd).alloc (Nat.le_refl _) (.cells #[.int .i64 v] 3))
      have HP2 := Aside0.mk (HPd.out.below HB2.out)
      have HX2 := Aside0.mk (HXd.out.after HB2.out)
      refine hK.out _ _ ⟨(HP2.out.blk.cell 0), (HX2.out.cell 0)⟩ (fun hHeld => ?_)
      clear hK K
      refine norm_ (a' := ?_) ?_ ?_
      rotate_left
      · show Act.put _ (some 33) _ = _
        simp only [Act.put, List.setIfInBounds_toArray, List.set_cons_zero, List.set_cons_succ, i64_w, i32_w]
        rfl
      refine last_ (i := 8) (N := some 34) #[true, true, true, true, true, true, true, true, true, false] rfl rfl (by kernel_rfl) (by decide) (fun K hK => ?_)
      refine goes_ Try.func34 (by kernel_rfl) rfl #[.pointer (some ⟨gw, 0, none⟩), .slice (some ⟨wd.heap.size, 0, none⟩) 1 1] (by rfl) rfl rfl (by simp only [List.map_toArray, List.map_cons, List.map_nil]; rfl) ?_
      with_reducible refine (intP 1 1 _ HM1.out HP2.out rfl HC2.out (Nat.le_refl 1) (by simp)).mono ?_
      rintro e5 w5 ⟨rfl, hP5, hS5⟩
      refine ⟨_, rfl, ?_⟩
      have HP5 := Aside0.mk hP5
      have HX5 := Aside0.mk (hS5.blk HX2.out rfl)
      clear hP5 hS5
      refine hK.out _ _ ?_
      clear hK K
      refine norm_ (a' := ?_) ?_ ?_
      rotate_left
      · show Act.put _ (some 34) _ = _
        simp only [Act.put, List.setIfInBounds_toArray, List.set_cons_zero, List.set_cons_succ, i64_w, i32_w]
        rfl
      refine last_ (i := 9) (N := some 35) #[true, true, true, true, true, true, true, true, true, true] rfl rfl (by kernel_rfl) (by decide) (fun K hK => ?_)
      refine goes_ Try.func32 (by kernel_rfl) rfl #[.pointer (some ⟨g, 0, none⟩), .int .i64 E1] (by rfl) rfl rfl (by simp only [List.map_toArray, List.map_cons, List.map_nil]; rfl) ?_
      with_reducible refine (message_pen_must.calls w0 _ g gw L1 E E1 _ HP5.out).mono ?_
      rintro e6 w6 ⟨rfl, hP6, hS6⟩
      refine ⟨_, rfl, ?_⟩
      have HP6 := Aside0.mk hP6
      have HX6 := Aside0.mk (hS6.blk HX5.out rfl)
      clear hP6 hS6
      refine hK.out _ _ ?_
      clear hK K
      refine norm_ (a' := ?_) ?_ ?_
      rotate_left
      · show Act.put _ (some 35) _ = _
        simp only [Act.put, List.setIfInBounds_toArray, List.set_cons_zero, List.set_cons_succ, i64_w, i32_w]
        rfl
      refine done_ (by kernel_rfl) ?_
      clear hHeld HPd HXd HC2 HB2 HP2 HX2 HP5 HX5
      go_wp2
      have HPe := Aside0.mk (HP6.out.below ((Below.refl _ _).drew))
      have HXe := Aside0.mk HX6.out.drew
      refine start_ (n := 10) (S := fun w' => w'.cell? ⟨g, 0, none⟩ = some (.pointer (some ⟨gw, 0, none⟩)) ∧ w'.cell? ⟨xb, 1, none⟩ = some (.string s)) (ds := [8, 9]) #[false, false, false, false, false, false, false, false, false, false] (by kernel_rfl) rfl rfl ⟨(HPe.out.blk.cell 0), (HXe.out.cell 1)⟩ (fun hHeld => ?_)
      generalize w6.drew = we at HPe HXe hHeld ⊢
      refine pure_ (i := 0) (N := some 36) (v := ?_) (a' := ?_) #[true, false, false, false, false, false, false, false, false, false] rfl rfl (by kernel_rfl) (fun _ _ _ h => h) (Or.inl ⟨by rfl, ?_⟩) ?_ ?_
      rotate_left
      · intro w'
        go_simp
        with_reducible rfl
      rotate_left
      · simp only [Act.put, List.setIfInBounds_toArray, List.set_cons_zero, List.set_cons_succ, i64_w, i32_w]
        rfl
      refine pure_ (i := 1) (N := some 37) (v := ?_) (a' := ?_) #[true, true, false, false, false, false, false, false, false, false] rfl rfl (by kernel_rfl) (fun _ _ _ h => h) (Or.inl ⟨by rfl, ?_⟩) ?_ ?_
      rotate_left
      · intro w'
        go_simp
        with_reducible rfl
      rotate_left
      · simp only [Act.put, List.setIfInBounds_toArray, List.set_cons_zero, List.set_cons_succ, i64_w, i32_w]
        rfl
      refine pure_ (i := 2) (N := some 38) (v := ?_) (a' := ?_) #[true, true, true, false, false, false, false, false, false, false] rfl rfl (by kernel_rfl) (fun _ _ _ h => h) (Or.inl ⟨by rfl, ?_⟩) ?_ ?_
      rotate_left
      · intro w'
        go_simp
        with_reducible rfl
      rotate_left
      · simp only [Act.put, List.setIfInBounds_toArray, List.set_cons_zero, List.set_cons_succ, i64_w, i32_w]
        rfl
      refine pure_ (i := 3) (N := some 39) (v := ?_) (a' := ?_) #[true, true, true, true, false, false, false, false, false, false] rfl rfl (by kernel_rfl) (fun _ _ _ h => h) (Or.inl ⟨by rfl, ?_⟩) ?_ ?_
      rotate_left
      · intro w'
        go_simp
        with_reducible rfl
      rotate_left
      · simp only [Act.put, List.setIfInBounds_toArray, List.set_cons_zero, List.set_cons_succ, i64_w, i32_w]
        rfl
      refine pure_ (i := 5) (N := some 41) (v := ?_) (a' := ?_) #[true, true, true, true, false, true, false, false, false, false] rfl rfl (by kernel_rfl) (fun _ _ _ h => h) (Or.inl ⟨by rfl, ?_⟩) ?_ ?_
      rotate_left
      · intro w'
        go_simp
        with_reducible rfl
      rotate_left
      · simp only [Act.put, List.setIfInBounds_toArray, List.set_cons_zero, List.set_cons_succ, i64_w, i32_w]
        rfl
      refine take_ (i := 4) (N := some 40) (v := ?_) (a' := ?_) #[true, true, true, true, true, true, false, false, false, false] rfl rfl (by kernel_rfl) (fun _ _ _ h => h) (Or.inl ⟨by rfl, ?_⟩) hHeld ?_ ?_
      rotate_left
      · rintro w' ⟨s0, s1⟩
        go_simp
        with_reducible rfl
      rotate_left
      · simp only [Act.put, List.setIfInBounds_toArray, List.set_cons_zero, List.set_cons_succ, i64_w, i32_w]
        rfl
      refine take_ (i := 6) (N := some 42) (v := ?_) (a' := ?_) #[true, true, true, true, true, true, true, false, false, false] rfl rfl (by kernel_rfl) (fun _ _ _ h => h) (Or.inl ⟨by rfl, ?_⟩) hHeld ?_ ?_
      rotate_left
      · rintro w' ⟨s0, s1⟩
        go_simp
        with_reducible rfl
      rotate_left
      · simp only [Act.put, List.setIfInBounds_toArray, List.set_cons_zero, List.set_cons_succ, i64_w, i32_w]
        rfl
      refine one_ (i := 7) (N := some 43) #[true, true, true, true, true, true, true, true, false, false] rfl rfl (by kernel_rfl) (by decide) (fun K hK => ?_)
      refine value_ (w1 := ?_) (v := ?_) (by rfl) rfl ?_ ?_
      rotate_left 2
      · go_simp
        constructor
        · rfl
        · rfl
      have HC2 := Aside0.mk (C_one_str we s 9)
      have HB2 := Aside0.mk ((Below.refl _ we).alloc (Nat.le_refl _) (.cells #[.string s] 9))
      have HP2 := Aside0.mk (HPe.out.below HB2.out)
      have HX2 := Aside0.mk (HXe.out.after HB2.out)
      refine hK.out _ _ ⟨(HP2.out.blk.cell 0), (HX2.out.cell 1)⟩ (fun hHeld => ?_)
      clear hK K
      refine norm_ (a' := ?_) ?_ ?_
      rotate_left
      · show Act.put _ (some 43) _ = _
        simp only [Act.put, List.setIfInBounds_toArray, List.set_cons_zero, List.set_cons_succ, i64_w, i32_w]
        rfl
      refine last_ (i := 8) (N := some 44) #[true, true, true, true, true, true, true, true, true, false] rfl rfl (by kernel_rfl) (by decide) (fun K hK => ?_)
      refine goes_ Try.func60 (by kernel_rfl) rfl #[.pointer (some ⟨gw, 0, none⟩), .slice (some ⟨we.heap.size, 0, none⟩) 1 1] (by rfl) rfl rfl (by simp only [List.map_toArray, List.map_cons, List.map_nil]; rfl) ?_
      with_reducible refine (textP 1 1 _ HM2.out HP2.out rfl HC2.out (Nat.le_refl 1) HTB.out (by simp)).mono ?_
      rintro e5 w5 ⟨rfl, hP5, hS5⟩
      refine ⟨_, rfl, ?_⟩
      have HP5 := Aside0.mk hP5
      clear hP5 hS5
      refine hK.out _ _ ?_
      clear hK K
      refine norm_ (a' := ?_) ?_ ?_
      rotate_left
      · show Act.put _ (some 44) _ = _
        simp only [Act.put, List.setIfInBounds_toArray, List.set_cons_zero, List.set_cons_succ, i64_w, i32_w]
        rfl
      refine last_ (i := 9) (N := some 45) #[true, true, true, true, true, true, true, true, true, true] rfl rfl (by kernel_rfl) (by decide) (fun K hK => ?_)
      refine goes_ Try.func32 (by kernel_rfl) rfl #[.pointer (some ⟨g, 0, none⟩), .int .i64 E2] (by rfl) rfl rfl (by simp only [List.map_toArray, List.map_cons, List.map_nil]; rfl) ?_
      with_reducible refine (message_pen_must.calls w0 _ g gw L2 (mustE E E1) E2 _ HP5.out).mono ?_
      rintro e7 w7 ⟨rfl, hP7, hS7⟩
      refine ⟨_, rfl, ?_⟩
      have HP7 := Aside0.mk hP7.free
      clear hP7 hS7
      refine hK.out _ _ ?_
      clear hK K
      refine norm_ (a' := ?_) ?_ ?_
      rotate_left
      · show Act.put _ (some 45) _ = _
        simp only [Act.put, List.setIfInBounds_toArray, List.set_cons_zero, List.set_cons_succ, i64_w, i32_w]
        rfl
      refine done_ (by kernel_rfl) ?_
      clear hHeld
      go_wp2
      go_roundw
      case rel => exact ⟨k + 1, by omega, by go_num, by rw [HT.out]; exact HP7⟩
      case measure => simp [intOf]; omega
    · have HT := Aside0.mk (show xs.take k = xs from List.take_of_length_le (by omega))
      go_wp2
      refine bodyPost_end (results_none rfl _ _ _) rfl ?_
      rw [HX.out]
      rw [HT.out] at HP
      exact ⟨rfl, HP.out⟩


end Go.Proofs.Ytlmlkcobkmhmbaa.Q
end

section
-- written by hprint.py (a program of these sessions) out of the translation; Lean checks it
namespace Go.Proofs.Ytlmlkcobkmhmbaa.Q
open Go.RowKit Go.Proofs.YtlmlkcobkmhmbaaW.Hb Go.Proofs.YtlmlkcobkmhmbaaW.PrintWords Go.Proofs.YtlmlkcobkmhmbaaW.PrintLast Go.Proofs.YtlmlkcobkmhmbaaW.PrintMore
attribute [local go_sem] max2_int min2_int max_two min_two max_three min_three max_four min_four   -- for this text's walks alone
set_option linter.unusedVariables false
set_option linter.unusedSimpArgs false

/-! ### message_Right_lit1_55: function 55, by hand -/
def idB (n : Int) : Bool := decide (0 ≤ n) && decide (n < 8)
theorem idB_t {n : Int} (h : idB n = true) : 0 ≤ n ∧ n < 8 := by simpa [idB] using h
set_option maxHeartbeats 400000 in
theorem message_Right_lit1_55.calls (n : Int) (w : World) :
    Calls Try.prog 55 #[.int .i64 n] w fun e w' => e = .returned (.bool (idB n)) ∧ w = w' := by
  by_cases h1 : 0 ≤ n
  · by_cases h2 : n < 8
    · have H := Aside0.mk (show idB n = true by simp [idB, h1, h2])
      go_enter Try.func55, Try.ntmps55
      go_wp2
      go_ret
      rw [H.out]
      exact ⟨rfl, rfl⟩
    · have H := Aside0.mk (show idB n = false by simp [idB, h2])
      go_enter Try.func55, Try.ntmps55
      go_wp2
      go_ret
      rw [H.out]
      exact ⟨rfl, rfl⟩
  · have H := Aside0.mk (show idB n = false by simp [idB, h1])
    go_enter Try.func55, Try.ntmps55
    go_wp2
    go_ret
    rw [H.out]
    exact ⟨rfl, rfl⟩


end Go.Proofs.Ytlmlkcobkmhmbaa.Q
end

section
-- written by hprint.py (a program of these sessions) out of the translation; Lean checks it
namespace Go.Proofs.Ytlmlkcobkmhmbaa.Q
open Go.RowKit Go.Proofs.YtlmlkcobkmhmbaaW.Hb Go.Proofs.YtlmlkcobkmhmbaaW.PrintWords Go.Proofs.YtlmlkcobkmhmbaaW.PrintLast Go.Proofs.YtlmlkcobkmhmbaaW.PrintMore
attribute [local go_sem] max2_int min2_int max_two min_two max_three min_three max_four min_four   -- for this text's walks alone
set_option linter.unusedVariables false
set_option linter.unusedSimpArgs false

/-! ### message_Right: function 28, by hand -/
def kindL (k : Int) : Bool := decide (k = 2) || decide (k = 3) || decide (k = 4) || decide (k = 7)
def rightM (k fr to_ v o c n : Int) (l : List S74) : Bool := !(kindL k && decide (0 < l.length)) && (decide (1 ≤ k) && decide (k ≤ 8) && idB fr && idB to_ && !([v, o, c, n].any outR) && entB l)
def message_Right.f (a0_0 a0_1 a0_2 a0_3 a0_4 a0_5 a0_6 : Int) (l0_7 : List S74) : Option Bool := some (rightM a0_0 a0_1 a0_2 a0_3 a0_4 a0_5 a0_6 l0_7)
set_option maxRecDepth 100000 in
set_option maxHeartbeats 2000000 in
theorem message_Right.calls (a0_0 a0_1 a0_2 a0_3 a0_4 a0_5 a0_6 : Int) (A0_7 : Option Addr) (c0_7 : Nat) (l0_7 : List S74) (r : Bool) (w : World) (hr0_7 : Kd.C k74 w A0_7 l0_7.length l0_7) (hc0_7 : l0_7.length ≤ c0_7) (h : message_Right.f a0_0 a0_1 a0_2 a0_3 a0_4 a0_5 a0_6 l0_7 = some r) :
    Calls Try.prog 28 #[.agg #[.int .i64 a0_0, .int .i64 a0_1, .int .i64 a0_2, .int .i64 a0_3, .int .i64 a0_4, .int .i64 a0_5, .int .i64 a0_6, .slice A0_7 l0_7.length c0_7]] w fun e w' => e = .returned (.bool r) ∧ Below w.heap.size w w' := by
  obtain rfl := Option.some.inj h
  clear h
  have HC := Aside0.mk hr0_7
  have HCN := Aside0.mk (C_lit_int (w.alloc (.cells #[.int .i64 a0_0, .int .i64 a0_1, .int .i64 a0_2, .int .i64 a0_3, .int .i64 a0_4, .int .i64 a0_5, .int .i64 a0_6, .slice A0_7 l0_7.length c0_7] 40)) (w.heap.size + 1) (by simp) .i64 [a0_3, a0_4, a0_5, a0_6] #[.int .i64 a0_3, .int .i64 a0_4, .int .i64 a0_5, .int .i64 a0_6] rfl 3 (by simp))
  have HB7 := Aside0.mk ((Blk.new w 40 #[.int .i64 a0_0, .int .i64 a0_1, .int .i64 a0_2, .int .i64 a0_3, .int .i64 a0_4, .int .i64 a0_5, .int .i64 a0_6, .slice A0_7 l0_7.length c0_7]).alloc (.cells #[.int .i64 a0_3, .int .i64 a0_4, .int .i64 a0_5, .int .i64 a0_6] 3))
  have HBw := Aside0.mk (((Below.refl w.heap.size w).alloc (Nat.le_refl _) (.cells #[.int .i64 a0_0, .int .i64 a0_1, .int .i64 a0_2, .int .i64 a0_3, .int .i64 a0_4, .int .i64 a0_5, .int .i64 a0_6, .slice A0_7 l0_7.length c0_7] 40)).alloc (by simp) (.cells #[.int .i64 a0_3, .int .i64 a0_4, .int .i64 a0_5, .int .i64 a0_6] 3))
  have HW1 := Aside0.mk ((Below.refl w.heap.size w).alloc (Nat.le_refl _) (.cells #[.int .i64 a0_0, .int .i64 a0_1, .int .i64 a0_2, .int .i64 a0_3, .int .i64 a0_4, .int .i64 a0_5, .int .i64 a0_6, .slice A0_7 l0_7.length c0_7] 40))
  have hm : l0_7.length ≤ 9223372036854775807 := hr0_7.2.1
  clear hr0_7
  have hk : ∃ b, kindL a0_0 = b := ⟨_, rfl⟩
  obtain ⟨bk, hbk⟩ := hk
  have hcase : (bk = true ∧ (a0_0 = 2 ∨ a0_0 = 3 ∨ a0_0 = 4 ∨ a0_0 = 7)) ∨ (bk = false ∧ (a0_0 == 2) = false ∧ (a0_0 == 3) = false ∧ (a0_0 == 4) = false ∧ (a0_0 == 7) = false) := by
    subst hbk
    by_cases e2 : a0_0 = 2
    · exact .inl ⟨by simp [kindL, e2], .inl e2⟩
    · by_cases e3 : a0_0 = 3
      · exact .inl ⟨by simp [kindL, e3], .inr (.inl e3)⟩
      · by_cases e4 : a0_0 = 4
        · exact .inl ⟨by simp [kindL, e4], .inr (.inr (.inl e4))⟩
        · by_cases e7 : a0_0 = 7
          · exact .inl ⟨by simp [kindL, e7], .inr (.inr (.inr e7))⟩
          · exact .inr ⟨by simp [kindL, e2, e3, e4, e7], by simp [e2], by simp [e3], by simp [e4], by simp [e7]⟩
  have HX := Aside0.mk (show rightM a0_0 a0_1 a0_2 a0_3 a0_4 a0_5 a0_6 l0_7 = (!(bk && decide (0 < l0_7.length)) && (decide (1 ≤ a0_0) && decide (a0_0 ≤ 8) && idB a0_1 && idB a0_2 && !([a0_3, a0_4, a0_5, a0_6].any outR) && entB l0_7)) by rw [← hbk]; rfl)
  clear hbk
  obtain ⟨R, hR⟩ : ∃ R, rightM a0_0 a0_1 a0_2 a0_3 a0_4 a0_5 a0_6 l0_7 = R := ⟨_, rfl⟩
  rw [hR] at HX
  rw [hR]
  clear hR
  by_cases hshut : bk = true ∧ 0 < l0_7.length
  · obtain ⟨hb, hl⟩ := hshut
    have hE := HX.out
    rw [hb] at hE
    have HR := Aside0.mk (show R = false by rw [hE]; simp [hl])
    have hl2 : 0 < (l0_7.length : Int) := by omega
    have hk2 : a0_0 = 2 ∨ a0_0 = 3 ∨ a0_0 = 4 ∨ a0_0 = 7 := by
      rcases hcase with h | h
      · exact h.2
      · rw [hb] at h; cases h.1
    clear hE HX hcase
    rcases hk2 with rfl | rfl | rfl | rfl
    all_goals
      go_enter Try.func28, Try.ntmps28
      go_wp2
      go_ret
      rw [HR.out]
      exact ⟨rfl, HW1.out⟩
  have HRO := Aside0.mk (show R = (decide (1 ≤ a0_0) && decide (a0_0 ≤ 8) && idB a0_1 && idB a0_2 && !([a0_3, a0_4, a0_5, a0_6].any outR) && entB l0_7) by
    rw [HX.out]
    have : (bk && decide (0 < l0_7.length)) = false := by
      cases hb : bk with
      | false => rfl
      | true => simp [hb] at hshut; simp [hshut]
    rw [this]; simp)
  have hlk : (bk = true ∧ ¬ (0 : Int) < (l0_7.length : Int) ∧ (a0_0 = 2 ∨ a0_0 = 3 ∨ a0_0 = 4 ∨ a0_0 = 7)) ∨ ((a0_0 == 2) = false ∧ (a0_0 == 3) = false ∧ (a0_0 == 4) = false ∧ (a0_0 == 7) = false) := by
    rcases hcase with ⟨h1, h2⟩ | ⟨h1, h2⟩
    · exact .inl ⟨h1, by have : ¬ 0 < l0_7.length := fun h => hshut ⟨h1, h⟩; omega, h2⟩
    · exact .inr h2
  clear hcase hshut HX
  have HN : ∀ b, [a0_3, a0_4, a0_5, a0_6].any outR = b → message_numbers.f [a0_3, a0_4, a0_5, a0_6] = some (!b) := fun b h => by simp only [message_numbers.f, h]
  obtain ⟨nb, hnb⟩ : ∃ nb, [a0_3, a0_4, a0_5, a0_6].any outR = nb := ⟨_, rfl⟩
  have HNF := Aside0.mk (HN nb hnb)
  rw [hnb] at HRO
  obtain ⟨eb, heb⟩ : ∃ eb, entB l0_7 = eb := ⟨_, rfl⟩
  have HEF := Aside0.mk (show message_entries.f l0_7 = some eb by rw [← heb]; rfl)
  rw [heb] at HRO
  clear HN hnb heb
  by_cases g1 : 1 ≤ a0_0
  rotate_left
  · have HR := Aside0.mk (show R = false by rw [HRO.out]; simp [g1])
    clear HRO
    rcases hlk with ⟨_, hl0, rfl | rfl | rfl | rfl⟩ | ⟨d2, d3, d4, d7⟩
    rotate_right
    · go_enter Try.func28, Try.ntmps28
      go_wp2
      go_ret
      rw [HR.out]
      exact ⟨rfl, HW1.out⟩
    all_goals omega
  by_cases g2 : a0_0 ≤ 8
  rotate_left
  · have HR := Aside0.mk (show R = false by rw [HRO.out]; simp [g2])
    clear HRO
    rcases hlk with ⟨_, hl0, rfl | rfl | rfl | rfl⟩ | ⟨d2, d3, d4, d7⟩
    rotate_right
    · go_enter Try.func28, Try.ntmps28
      go_wp2
      go_ret
      rw [HR.out]
      exact ⟨rfl, HW1.out⟩
    all_goals omega
  cases hi1 : idB a0_1 with
  | false =>
    have HI1 := Aside0.mk hi1
    have HR := Aside0.mk (show R = false by rw [HRO.out]; simp [hi1])
    clear HRO hi1
    rcases hlk with ⟨_, hl0, rfl | rfl | rfl | rfl⟩ | ⟨d2, d3, d4, d7⟩
    all_goals
      go_enter Try.func28, Try.ntmps28
      go_wp2_with (go_at_call 55; (with_reducible refine (message_Right_lit1_55.calls a0_1 _).mono ?_); rw [HI1.out]; rintro e w' ⟨rfl, rfl⟩)
      go_ret
      rw [HR.out]
      exact ⟨rfl, HW1.out⟩
  | true =>
    have HI1 := Aside0.mk hi1
    cases hi2 : idB a0_2 with
    | false =>
      have HI2 := Aside0.mk hi2
      have HR := Aside0.mk (show R = false by rw [HRO.out]; simp [hi2])
      clear HRO hi1 hi2
      rcases hlk with ⟨_, hl0, rfl | rfl | rfl | rfl⟩ | ⟨d2, d3, d4, d7⟩
      all_goals
        go_enter Try.func28, Try.ntmps28
        go_wp2_with (first | (go_at_call 55; (with_reducible refine (message_Right_lit1_55.calls a0_1 _).mono ?_); rw [HI1.out]; rintro e w' ⟨rfl, rfl⟩) | (go_at_call 55; (with_reducible refine (message_Right_lit1_55.calls a0_2 _).mono ?_); rw [HI2.out]; rintro e w' ⟨rfl, rfl⟩))
        go_ret
        rw [HR.out]
        exact ⟨rfl, HW1.out⟩
    | true =>
      have HI2 := Aside0.mk hi2
      cases nb with
      | true =>
        have HNF1 := Aside0.mk (show message_numbers.f [a0_3, a0_4, a0_5, a0_6] = some false from HNF.out)
        have HR := Aside0.mk (show R = false by rw [HRO.out]; simp)
        clear HRO hi1 hi2
        rcases hlk with ⟨_, hl0, rfl | rfl | rfl | rfl⟩ | ⟨d2, d3, d4, d7⟩
        all_goals
          go_enter Try.func28, Try.ntmps28
          go_wp2_with (first | (go_at_call 55; (with_reducible refine (message_Right_lit1_55.calls a0_1 _).mono ?_); rw [HI1.out]; rintro e w' ⟨rfl, rfl⟩) | (go_at_call 55; (with_reducible refine (message_Right_lit1_55.calls a0_2 _).mono ?_); rw [HI2.out]; rintro e w' ⟨rfl, rfl⟩) | (go_at_call 51; (with_reducible refine (message_numbers.callsN _ 4 4 _ rfl false _ HCN.out (Nat.le_refl 4) HNF1.out).mono ?_); rintro e w1 ⟨rfl, hb1⟩; have HB1 := Aside0.mk (HBw.out.trans (hb1.mono (by simp; omega))); clear hb1))
          go_ret
          rw [HR.out]
          exact ⟨rfl, HB1.out⟩
      | false =>
        have HNF1 := Aside0.mk (show message_numbers.f [a0_3, a0_4, a0_5, a0_6] = some true from HNF.out)
        have HR := Aside0.mk (show R = eb by rw [HRO.out]; simp [hi1, hi2, g1, g2])
        clear HRO hi1 hi2
        rcases hlk with ⟨_, hl0, rfl | rfl | rfl | rfl⟩ | ⟨d2, d3, d4, d7⟩
        all_goals
          go_enter Try.func28, Try.ntmps28
          go_wp2_with (first | (go_at_call 55; (with_reducible refine (message_Right_lit1_55.calls a0_1 _).mono ?_); rw [HI1.out]; rintro e w' ⟨rfl, rfl⟩) | (go_at_call 55; (with_reducible refine (message_Right_lit1_55.calls a0_2 _).mono ?_); rw [HI2.out]; rintro e w' ⟨rfl, rfl⟩) | (go_at_call 51; (with_reducible refine (message_numbers.callsN _ 4 4 _ rfl true _ HCN.out (Nat.le_refl 4) HNF1.out).mono ?_); rintro e w1 ⟨rfl, hb1⟩; have q7 : w1.cell? ⟨w.heap.size, 7, none⟩ = some (.slice A0_7 l0_7.length c0_7) := (HB7.out.below hb1 (by simp; omega)).cell 7; have HC1 := Aside0.mk (Kd.C_below HC.out (HBw.out.trans (hb1.mono (by simp; omega)))); have HB1 := Aside0.mk (HBw.out.trans (hb1.mono (by simp; omega))); clear hb1) | (go_at_call 52; (with_reducible refine (message_entries.calls A0_7 c0_7 l0_7 eb _ HC1.out hc0_7 HEF.out).mono ?_); rintro e w2 ⟨rfl, hb2⟩; have HB2 := Aside0.mk (HB1.out.trans (hb2.mono HB1.out.size)); clear hb2))
          go_ret
          rw [HR.out]
          exact ⟨rfl, HB2.out⟩


end Go.Proofs.Ytlmlkcobkmhmbaa.Q
end

section
-- written by hprint.py (a program of these sessions) out of the translation; Lean checks it
namespace Go.Proofs.Ytlmlkcobkmhmbaa.Q
open Go.RowKit Go.Proofs.YtlmlkcobkmhmbaaW.Hb Go.Proofs.YtlmlkcobkmhmbaaW.PrintWords Go.Proofs.YtlmlkcobkmhmbaaW.PrintLast Go.Proofs.YtlmlkcobkmhmbaaW.PrintMore
attribute [local go_sem] max2_int min2_int max_two min_two max_three min_three max_four min_four   -- for this text's walks alone
set_option linter.unusedVariables false
set_option linter.unusedSimpArgs false

/-! ### message_Put: function 11, by hand -/
def wall (by_ is_ : List Int) (l : List S74) : List Int × Int := (penRes (wlog ((wmore (wbytes [] by_).1 (ints8 is_)).1, mustE (wbytes [] by_).2 (wmore (wbytes [] by_).1 (ints8 is_)).2) l).2 (wlog ((wmore (wbytes [] by_).1 (ints8 is_)).1, mustE (wbytes [] by_).2 (wmore (wbytes [] by_).1 (ints8 is_)).2) l).1, (wlog ((wmore (wbytes [] by_).1 (ints8 is_)).1, mustE (wbytes [] by_).2 (wmore (wbytes [] by_).1 (ints8 is_)).2) l).2)
theorem wall_is {by_ is_ l1 l2 l3 : List Int} {e1 e2 e3 : Int} {l : List S74} (h1 : wbytes [] by_ = (l1, e1)) (h2 : wmore l1 (ints8 is_) = (l2, e2)) (h3 : wlog (l2, mustE e1 e2) l = (l3, e3)) : wall by_ is_ l = (penRes e3 l3, e3) := by
  unfold wall
  simp only [h1, h2, h3]
theorem entB_is {l : List S74} (h : entB l = true) : l.length ≤ 2048 ∧ ∀ x ∈ l, x.f1.size ≤ 16384 := by
  simp only [entB, Bool.and_eq_true, decide_eq_true_eq, Bool.not_eq_true', List.any_eq_false] at h
  refine ⟨h.1, fun x hx => ?_⟩
  have := h.2 x hx
  simp [outE] at this
  omega
theorem Pn.new {w w2 : World} {gw : Nat} (hW : Wr w2 (fun k => k = gw) gw []) (hg : w.heap.size ≤ gw) (hB : Below w.heap.size w w2) : Pn w (w2.alloc (.cells #[.pointer (some ⟨gw, 0, none⟩), .int .i64 0] 79)) w2.heap.size gw [] 0 (fun _ => False) := by
  have hl := hW.lt
  have hs := hB.size
  refine ⟨_, hW.below ((Below.refl _ _).alloc (Nat.le_refl _) _), fun k hk => ?_, Blk.new w2 _ _, hs, by simp, hB.alloc hs _, fun _ h => h.elim⟩
  subst hk
  refine ⟨hg, by omega, id, ?_⟩
  simp
  omega
def message_Put.f (a0_0 a0_1 a0_2 a0_3 a0_4 a0_5 a0_6 : Int) (l0_7 : List S74) : Option (List Int × Int) := some (if rightM a0_0 a0_1 a0_2 a0_3 a0_4 a0_5 a0_6 l0_7 = true then wall [a0_0, a0_1, a0_2] [a0_3, a0_4, a0_5, a0_6] l0_7 else ([], 1))
set_option maxRecDepth 100000 in
set_option maxHeartbeats 2000000 in
theorem message_Put.calls (a0_0 a0_1 a0_2 a0_3 a0_4 a0_5 a0_6 : Int) (A0_7 : Option Addr) (c0_7 : Nat) (l0_7 : List S74) (r1 : List Int) (r2 : Int) (w : World) (hr0 : Kd.C k74 w A0_7 l0_7.length l0_7) (hc0 : l0_7.length ≤ c0_7) (h : message_Put.f a0_0 a0_1 a0_2 a0_3 a0_4 a0_5 a0_6 l0_7 = some (r1, r2)) :
    Calls Try.prog 11 #[.agg #[.int .i64 a0_0, .int .i64 a0_1, .int .i64 a0_2, .int .i64 a0_3, .int .i64 a0_4, .int .i64 a0_5, .int .i64 a0_6, .slice A0_7 l0_7.length c0_7]] w fun e w' => ∃ v0_ : Value, e = .returned (.tuple #[v0_, .int .i64 r2]) ∧ Kd.R (Kd.int .u8) 5 w' w.heap.size (fun _ => True) v0_ r1 ∧ Below w.heap.size w w' := by
  have h := Option.some.inj h
  have HR0 := Aside0.mk hr0
  have hm0 : l0_7.length ≤ 9223372036854775807 := hr0.2.1
  have HM1 := Aside0.mk (Blk.new w 40 #[.int .i64 a0_0, .int .i64 a0_1, .int .i64 a0_2, .int .i64 a0_3, .int .i64 a0_4, .int .i64 a0_5, .int .i64 a0_6, .slice A0_7 l0_7.length c0_7])
  have HB1 := Aside0.mk ((Below.refl w.heap.size w).alloc (Nat.le_refl _) (.cells #[.int .i64 a0_0, .int .i64 a0_1, .int .i64 a0_2, .int .i64 a0_3, .int .i64 a0_4, .int .i64 a0_5, .int .i64 a0_6, .slice A0_7 l0_7.length c0_7] 40))
  have HC1 := Aside0.mk (Kd.C_alloc hr0 (.cells #[.int .i64 a0_0, .int .i64 a0_1, .int .i64 a0_2, .int .i64 a0_3, .int .i64 a0_4, .int .i64 a0_5, .int .i64 a0_6, .slice A0_7 l0_7.length c0_7] 40))
  clear hr0
  cases hrt : rightM a0_0 a0_1 a0_2 a0_3 a0_4 a0_5 a0_6 l0_7 with
  | false =>
    have HF := Aside0.mk (show message_Right.f a0_0 a0_1 a0_2 a0_3 a0_4 a0_5 a0_6 l0_7 = some false by simp only [message_Right.f, hrt])
    rw [if_neg (by rw [hrt]; decide)] at h
    obtain ⟨rfl, rfl⟩ := Prod.mk.inj h
    clear hrt h
    go_enter Try.func11, Try.ntmps11
    go_wp2_with (go_at_call 28; (with_reducible refine (message_Right.calls a0_0 a0_1 a0_2 a0_3 a0_4 a0_5 a0_6 A0_7 c0_7 l0_7 false _ HC1.out hc0 HF.out).mono ?_); rintro e w2 ⟨rfl, hb2⟩; have HB2 := Aside0.mk (HB1.out.trans (hb2.mono HB1.out.size)); clear hb2)
    go_ret2
    exact ⟨_, rfl, Kd.R_nil _ _ _ _ _, HB2.out⟩
  | true =>
    have HF := Aside0.mk (show message_Right.f a0_0 a0_1 a0_2 a0_3 a0_4 a0_5 a0_6 l0_7 = some true by simp only [message_Right.f, hrt])
    have hent : entB l0_7 = true := by have := hrt; simp [rightM] at this; simp [this]
    obtain ⟨hn, hs⟩ := entB_is hent
    rw [if_pos hrt] at h
    obtain ⟨l1, e1, hw1⟩ : ∃ l1 e1, wbytes [] [a0_0, a0_1, a0_2] = (l1, e1) := ⟨_, _, rfl⟩
    obtain ⟨l2, e2, hw2⟩ : ∃ l2 e2, wmore l1 (ints8 [a0_3, a0_4, a0_5, a0_6]) = (l2, e2) := ⟨_, _, rfl⟩
    obtain ⟨l3, e3, hw3⟩ : ∃ l3 e3, wlog (l2, mustE e1 e2) l0_7 = (l3, e3) := ⟨_, _, rfl⟩
    rw [wall_is hw1 hw2 hw3] at h
    obtain ⟨rfl, rfl⟩ := Prod.mk.inj h
    have HW1 := Aside0.mk hw1
    have HW2 := Aside0.mk hw2
    have HW3 := Aside0.mk hw3
    have HS := Aside0.mk hs
    clear hrt h hent hs hw1 hw2 hw3
    go_enter Try.func11, Try.ntmps11
    go_wp2_with (first | (go_at_call 28; (with_reducible refine (message_Right.calls a0_0 a0_1 a0_2 a0_3 a0_4 a0_5 a0_6 A0_7 c0_7 l0_7 true _ HC1.out hc0 HF.out).mono ?_); rintro e w2 ⟨rfl, hb2⟩; have HB2 := Aside0.mk (HB1.out.trans (hb2.mono HB1.out.size)); have HM2 := Aside0.mk (HM1.out.after hb2); clear hb2) | (go_at_call 31; (with_reducible refine (wire_NewWriter.calls w2).mono ?_); rintro e w3 ⟨gw, rfl, hW3, hg3, hB3⟩; have HP3 := Aside0.mk (Pn.new hW3 hg3 hB3); clear hW3 hg3 hB3))
    have HR2 := Aside0.mk (Kd.C_below HR0.out (HB2.out.mono (Nat.le_refl _)))
    clear HR0 HC1 HM1
    generalize w3.alloc (.cells #[.pointer (some ⟨gw, 0, none⟩), .int .i64 0] 79) = W1 at HP3 ⊢
    generalize w3.heap.size = g at HP3 ⊢
    have HPd := Aside0.mk (HP3.out.below ((Below.refl _ _).drew))
    have HMd := Aside0.mk (HM2.out.after HPd.out.bel)
    refine start_ (n := 14) (S := fun w' => w'.cell? ⟨g, 0, none⟩ = some (.pointer (some ⟨gw, 0, none⟩)) ∧ w'.cell? ⟨w.heap.size, 0, none⟩ = some (.int .i64 a0_0) ∧ w'.cell? ⟨w.heap.size, 1, none⟩ = some (.int .i64 a0_1) ∧ w'.cell? ⟨w.heap.size, 2, none⟩ = some (.int .i64 a0_2)) (ds := [12, 13]) #[false, false, false, false, false, false, false, false, false, false, false, false, false, false] (by kernel_rfl) rfl rfl ⟨(HPd.out.blk.cell 0), (HMd.out.cell 0), (HMd.out.cell 1), (HMd.out.cell 2)⟩ (fun hHeld => ?_)
    generalize W1.drew = wd at HPd HMd hHeld ⊢
    refine pure_ (i := 0) (N := some 11) (v := ?_) (a' := ?_) #[true, false, false, false, false, false, false, false, false, false, false, false, false, false] rfl rfl (by kernel_rfl) (fun _ _ _ h => h) (Or.inl ⟨by rfl, ?_⟩) ?_ ?_
    rotate_left
    · intro w'
      go_simp
      with_reducible rfl
    rotate_left
    · simp only [Act.put, List.setIfInBounds_toArray, List.set_cons_zero, List.set_cons_succ, i64_w, i32_w]
      rfl
    refine pure_ (i := 1) (N := some 12) (v := ?_) (a' := ?_) #[true, true, false, false, false, false, false, false, false, false, false, false, false, false] rfl rfl (by kernel_rfl) (fun _ _ _ h => h) (Or.inl ⟨by rfl, ?_⟩) ?_ ?_
    rotate_left
    · intro w'
      go_simp
      with_reducible rfl
    rotate_left
    · simp only [Act.put, List.setIfInBounds_toArray, List.set_cons_zero, List.set_cons_succ, i64_w, i32_w]
      rfl
    refine pure_ (i := 2) (N := some 13) (v := ?_) (a' := ?_) #[true, true, true, false, false, false, false, false, false, false, false, false, false, false] rfl rfl (by kernel_rfl) (fun _ _ _ h => h) (Or.inl ⟨by rfl, ?_⟩) ?_ ?_
    rotate_left
    · intro w'
      go_simp
      with_reducible rfl
    rotate_left
    · simp only [Act.put, List.setIfInBounds_toArray, List.set_cons_zero, List.set_cons_succ, i64_w, i32_w]
      rfl
    refine pure_ (i := 3) (N := some 14) (v := ?_) (a' := ?_) #[true, true, true, true, false, false, false, false, false, false, false, false, false, false] rfl rfl (by kernel_rfl) (fun _ _ _ h => h) (Or.inl ⟨by rfl, ?_⟩) ?_ ?_
    rotate_left
    · intro w'
      go_simp
      with_reducible rfl
    rotate_left
    · simp only [Act.put, List.setIfInBounds_toArray, List.set_cons_zero, List.set_cons_succ, i64_w, i32_w]
      rfl
    refine pure_ (i := 5) (N := some 16) (v := ?_) (a' := ?_) #[true, true, true, true, false, true, false, false, false, false, false, false, false, false] rfl rfl (by kernel_rfl) (fun _ _ _ h => h) (Or.inl ⟨by rfl, ?_⟩) ?_ ?_
    rotate_left
    · intro w'
      go_simp
      with_reducible rfl
    rotate_left
    · simp only [Act.put, List.setIfInBounds_toArray, List.set_cons_zero, List.set_cons_succ, i64_w, i32_w]
      rfl
    refine pure_ (i := 7) (N := some 18) (v := ?_) (a' := ?_) #[true, true, true, true, false, true, false, true, false, false, false, false, false, false] rfl rfl (by kernel_rfl) (fun _ _ _ h => h) (Or.inl ⟨by rfl, ?_⟩) ?_ ?_
    rotate_left
    · intro w'
      go_simp
      with_reducible rfl
    rotate_left
    · simp only [Act.put, List.setIfInBounds_toArray, List.set_cons_zero, List.set_cons_succ, i64_w, i32_w]
      rfl
    refine pure_ (i := 9) (N := some 20) (v := ?_) (a' := ?_) #[true, true, true, true, false, true, false, true, false, true, false, false, false, false] rfl rfl (by kernel_rfl) (fun _ _ _ h => h) (Or.inl ⟨by rfl, ?_⟩) ?_ ?_
    rotate_left
    · intro w'
      go_simp
      with_reducible rfl
    rotate_left
    · simp only [Act.put, List.setIfInBounds_toArray, List.set_cons_zero, List.set_cons_succ, i64_w, i32_w]
      rfl
    refine take_ (i := 4) (N := some 15) (v := ?_) (a' := ?_) #[true, true, true, true, true, true, false, true, false, true, false, false, false, false] rfl rfl (by kernel_rfl) (fun _ _ _ h => h) (Or.inl ⟨by rfl, ?_⟩) hHeld ?_ ?_
    rotate_left
    · rintro w' ⟨s0, s1, s2, s3⟩
      go_simp
      with_reducible rfl
    rotate_left
    · simp only [Act.put, List.setIfInBounds_toArray, List.set_cons_zero, List.set_cons_succ, i64_w, i32_w]
      rfl
    refine take_ (i := 6) (N := some 17) (v := ?_) (a' := ?_) #[true, true, true, true, true, true, true, true, false, true, false, false, false, false] rfl rfl (by kernel_rfl) (fun _ _ _ h => h) (Or.inl ⟨by rfl, ?_⟩) hHeld ?_ ?_
    rotate_left
    · rintro w' ⟨s0, s1, s2, s3⟩
      go_simp
      with_reducible rfl
    rotate_left
    · simp only [Act.put, List.setIfInBounds_toArray, List.set_cons_zero, List.set_cons_succ, i64_w, i32_w]
      rfl
    refine take_ (i := 8) (N := some 19) (v := ?_) (a' := ?_) #[true, true, true, true, true, true, true, true, true, true, false, false, false, false] rfl rfl (by kernel_rfl) (fun _ _ _ h => h) (Or.inl ⟨by rfl, ?_⟩) hHeld ?_ ?_
    rotate_left
    · rintro w' ⟨s0, s1, s2, s3⟩
      go_simp
      with_reducible rfl
    rotate_left
    · simp only [Act.put, List.setIfInBounds_toArray, List.set_cons_zero, List.set_cons_succ, i64_w, i32_w]
      rfl
    refine take_ (i := 10) (N := some 21) (v := ?_) (a' := ?_) #[true, true, true, true, true, true, true, true, true, true, true, false, false, false] rfl rfl (by kernel_rfl) (fun _ _ _ h => h) (Or.inl ⟨by rfl, ?_⟩) hHeld ?_ ?_
    rotate_left
    · rintro w' ⟨s0, s1, s2, s3⟩
      go_simp
      with_reducible rfl
    rotate_left
    · simp only [Act.put, List.setIfInBounds_toArray, List.set_cons_zero, List.set_cons_succ, i64_w, i32_w]
      rfl
    refine one_ (i := 11) (N := some 22) #[true, true, true, true, true, true, true, true, true, true, true, true, false, false] rfl rfl (by kernel_rfl) (by decide) (fun K hK => ?_)
    refine value_ (w1 := ?_) (v := ?_) (by rfl) rfl ?_ ?_
    rotate_left 2
    · go_simp
      constructor
      · rfl
      · rfl
    have HC2 := Aside0.mk (C_lit_int wd wd.heap.size rfl .i64 [a0_0, a0_1, a0_2] #[.int .i64 a0_0, .int .i64 a0_1, .int .i64 a0_2] rfl 3 (by simp))
    have HA2 := Aside0.mk ((Below.refl _ wd).alloc (Nat.le_refl _) (.cells #[.int .i64 a0_0, .int .i64 a0_1, .int .i64 a0_2] 3))
    have HP4 := Aside0.mk (HPd.out.below HA2.out)
    have HM4 := Aside0.mk (HMd.out.after HA2.out)
    refine hK.out _ _ ⟨(HP4.out.blk.cell 0), (HM4.out.cell 0), (HM4.out.cell 1), (HM4.out.cell 2)⟩ (fun hHeld => ?_)
    clear hK K
    refine norm_ (a' := ?_) ?_ ?_
    rotate_left
    · show Act.put _ (some 22) _ = _
      simp only [Act.put, List.setIfInBounds_toArray, List.set_cons_zero, List.set_cons_succ, i64_w, i32_w]
      rfl
    refine last_ (i := 12) (N := some 23) #[true, true, true, true, true, true, true, true, true, true, true, true, true, false] rfl rfl (by kernel_rfl) (by decide) (fun K hK => ?_)
    refine goes_ Try.func33 (by kernel_rfl) rfl #[.pointer (some ⟨gw, 0, none⟩), .slice (some ⟨wd.heap.size, 0, none⟩) 3 3] (by rfl) rfl rfl (by simp only [List.map_toArray, List.map_cons, List.map_nil]; rfl) ?_
    with_reducible refine (byteP 3 3 _ HW1.out HP4.out rfl HC2.out (Nat.le_refl 3) (by simp)).mono ?_
    rintro e5 w5 ⟨rfl, hP5, hS5⟩
    refine ⟨_, rfl, ?_⟩
    have HP5 := Aside0.mk hP5
    clear hP5 hS5
    refine hK.out _ _ ?_
    clear hK K
    refine norm_ (a' := ?_) ?_ ?_
    rotate_left
    · show Act.put _ (some 23) _ = _
      simp only [Act.put, List.setIfInBounds_toArray, List.set_cons_zero, List.set_cons_succ, i64_w, i32_w]
      rfl
    refine last_ (i := 13) (N := some 24) #[true, true, true, true, true, true, true, true, true, true, true, true, true, true] rfl rfl (by kernel_rfl) (by decide) (fun K hK => ?_)
    refine goes_ Try.func32 (by kernel_rfl) rfl #[.pointer (some ⟨g, 0, none⟩), .int .i64 e1] (by rfl) rfl rfl (by simp only [List.map_toArray, List.map_cons, List.map_nil]; rfl) ?_
    with_reducible refine (message_pen_must.calls w2 _ g gw l1 0 e1 _ HP5.out).mono ?_
    rintro e6 w6 ⟨rfl, hP6, hS6⟩
    refine ⟨_, rfl, ?_⟩
    have HP6 := Aside0.mk hP6
    clear hP6 hS6
    refine hK.out _ _ ?_
    clear hK K
    refine norm_ (a' := ?_) ?_ ?_
    rotate_left
    · show Act.put _ (some 24) _ = _
      simp only [Act.put, List.setIfInBounds_toArray, List.set_cons_zero, List.set_cons_succ, i64_w, i32_w]
      rfl
    refine done_ (by kernel_rfl) ?_
    rw [mustE_0] at HP6
    clear hHeld HPd HMd HC2 HA2 HP4 HM4 HP5 HP3
    go_wp2
    have HPe := Aside0.mk (HP6.out.below ((Below.refl _ _).drew))
    have HMe := Aside0.mk (HM2.out.after HPe.out.bel)
    refine start_ (n := 16) (S := fun w' => w'.cell? ⟨g, 0, none⟩ = some (.pointer (some ⟨gw, 0, none⟩)) ∧ w'.cell? ⟨w.heap.size, 3, none⟩ = some (.int .i64 a0_3) ∧ w'.cell? ⟨w.heap.size, 4, none⟩ = some (.int .i64 a0_4) ∧ w'.cell? ⟨w.heap.size, 5, none⟩ = some (.int .i64 a0_5) ∧ w'.cell? ⟨w.heap.size, 6, none⟩ = some (.int .i64 a0_6)) (ds := [14, 15]) #[false, false, false, false, false, false, false, false, false, false, false, false, false, false, false, false] (by kernel_rfl) rfl rfl ⟨(HPe.out.blk.cell 0), (HMe.out.cell 3), (HMe.out.cell 4), (HMe.out.cell 5), (HMe.out.cell 6)⟩ (fun hHeld => ?_)
    generalize w6.drew = we at HPe HMe hHeld ⊢
    refine pure_ (i := 0) (N := some 25) (v := ?_) (a' := ?_) #[true, false, false, false, false, false, false, false, false, false, false, false, false, false, false, false] rfl rfl (by kernel_rfl) (fun _ _ _ h => h) (Or.inl ⟨by rfl, ?_⟩) ?_ ?_
    rotate_left
    · intro w'
      go_simp
      with_reducible rfl
    rotate_left
    · simp only [Act.put, List.setIfInBounds_toArray, List.set_cons_zero, List.set_cons_succ, i64_w, i32_w]
      rfl
    refine pure_ (i := 1) (N := some 26) (v := ?_) (a' := ?_) #[true, true, false, false, false, false, false, false, false, false, false, false, false, false, false, false] rfl rfl (by kernel_rfl) (fun _ _ _ h => h) (Or.inl ⟨by rfl, ?_⟩) ?_ ?_
    rotate_left
    · intro w'
      go_simp
      with_reducible rfl
    rotate_left
    · simp only [Act.put, List.setIfInBounds_toArray, List.set_cons_zero, List.set_cons_succ, i64_w, i32_w]
      rfl
    refine pure_ (i := 2) (N := some 27) (v := ?_) (a' := ?_) #[true, true, true, false, false, false, false, false, false, false, false, false, false, false, false, false] rfl rfl (by kernel_rfl) (fun _ _ _ h => h) (Or.inl ⟨by rfl, ?_⟩) ?_ ?_
    rotate_left
    · intro w'
      go_simp
      with_reducible rfl
    rotate_left
    · simp only [Act.put, List.setIfInBounds_toArray, List.set_cons_zero, List.set_cons_succ, i64_w, i32_w]
      rfl
    refine pure_ (i := 3) (N := some 28) (v := ?_) (a' := ?_) #[true, true, true, true, false, false, false, false, false, false, false, false, false, false, false, false] rfl rfl (by kernel_rfl) (fun _ _ _ h => h) (Or.inl ⟨by rfl, ?_⟩) ?_ ?_
    rotate_left
    · intro w'
      go_simp
      with_reducible rfl
    rotate_left
    · simp only [Act.put, List.setIfInBounds_toArray, List.set_cons_zero, List.set_cons_succ, i64_w, i32_w]
      rfl
    refine pure_ (i := 5) (N := some 30) (v := ?_) (a' := ?_) #[true, true, true, true, false, true, false, false, false, false, false, false, false, false, false, false] rfl rfl (by kernel_rfl) (fun _ _ _ h => h) (Or.inl ⟨by rfl, ?_⟩) ?_ ?_
    rotate_left
    · intro w'
      go_simp
      with_reducible rfl
    rotate_left
    · simp only [Act.put, List.setIfInBounds_toArray, List.set_cons_zero, List.set_cons_succ, i64_w, i32_w]
      rfl
    refine pure_ (i := 7) (N := some 32) (v := ?_) (a' := ?_) #[true, true, true, true, false, true, false, true, false, false, false, false, false, false, false, false] rfl rfl (by kernel_rfl) (fun _ _ _ h => h) (Or.inl ⟨by rfl, ?_⟩) ?_ ?_
    rotate_left
    · intro w'
      go_simp
      with_reducible rfl
    rotate_left
    · simp only [Act.put, List.setIfInBounds_toArray, List.set_cons_zero, List.set_cons_succ, i64_w, i32_w]
      rfl
    refine pure_ (i := 9) (N := some 34) (v := ?_) (a' := ?_) #[true, true, true, true, false, true, false, true, false, true, false, false, false, false, false, false] rfl rfl (by kernel_rfl) (fun _ _ _ h => h) (Or.inl ⟨by rfl, ?_⟩) ?_ ?_
    rotate_left
    · intro w'
      go_simp
      with_reducible rfl
    rotate_left
    · simp only [Act.put, List.setIfInBounds_toArray, List.set_cons_zero, List.set_cons_succ, i64_w, i32_w]
      rfl
    refine pure_ (i := 11) (N := some 36) (v := ?_) (a' := ?_) #[true, true, true, true, false, true, false, true, false, true, false, true, false, false, false, false] rfl rfl (by kernel_rfl) (fun _ _ _ h => h) (Or.inl ⟨by rfl, ?_⟩) ?_ ?_
    rotate_left
    · intro w'
      go_simp
      with_reducible rfl
    rotate_left
    · simp only [Act.put, List.setIfInBounds_toArray, List.set_cons_zero, List.set_cons_succ, i64_w, i32_w]
      rfl
    refine take_ (i := 4) (N := some 29) (v := ?_) (a' := ?_) #[true, true, true, true, true, true, false, true, false, true, false, true, false, false, false, false] rfl rfl (by kernel_rfl) (fun _ _ _ h => h) (Or.inl ⟨by rfl, ?_⟩) hHeld ?_ ?_
    rotate_left
    · rintro w' ⟨s0, s1, s2, s3, s4⟩
      go_simp
      with_reducible rfl
    rotate_left
    · simp only [Act.put, List.setIfInBounds_toArray, List.set_cons_zero, List.set_cons_succ, i64_w, i32_w]
      rfl
    refine take_ (i := 6) (N := some 31) (v := ?_) (a' := ?_) #[true, true, true, true, true, true, true, true, false, true, false, true, false, false, false, false] rfl rfl (by kernel_rfl) (fun _ _ _ h => h) (Or.inl ⟨by rfl, ?_⟩) hHeld ?_ ?_
    rotate_left
    · rintro w' ⟨s0, s1, s2, s3, s4⟩
      go_simp
      with_reducible rfl
    rotate_left
    · simp only [Act.put, List.setIfInBounds_toArray, List.set_cons_zero, List.set_cons_succ, i64_w, i32_w]
      rfl
    refine take_ (i := 8) (N := some 33) (v := ?_) (a' := ?_) #[true, true, true, true, true, true, true, true, true, true, false, true, false, false, false, false] rfl rfl (by kernel_rfl) (fun _ _ _ h => h) (Or.inl ⟨by rfl, ?_⟩) hHeld ?_ ?_
    rotate_left
    · rintro w' ⟨s0, s1, s2, s3, s4⟩
      go_simp
      with_reducible rfl
    rotate_left
    · simp only [Act.put, List.setIfInBounds_toArray, List.set_cons_zero, List.set_cons_succ, i64_w, i32_w]
      rfl
    refine take_ (i := 10) (N := some 35) (v := ?_) (a' := ?_) #[true, true, true, true, true, true, true, true, true, true, true, true, false, false, false, false] rfl rfl (by kernel_rfl) (fun _ _ _ h => h) (Or.inl ⟨by rfl, ?_⟩) hHeld ?_ ?_
    rotate_left
    · rintro w' ⟨s0, s1, s2, s3, s4⟩
      go_simp
      with_reducible rfl
    rotate_left
    · simp only [Act.put, List.setIfInBounds_toArray, List.set_cons_zero, List.set_cons_succ, i64_w, i32_w]
      rfl
    refine take_ (i := 12) (N := some 37) (v := ?_) (a' := ?_) #[true, true, true, true, true, true, true, true, true, true, true, true, true, false, false, false] rfl rfl (by kernel_rfl) (fun _ _ _ h => h) (Or.inl ⟨by rfl, ?_⟩) hHeld ?_ ?_
    rotate_left
    · rintro w' ⟨s0, s1, s2, s3, s4⟩
      go_simp
      with_reducible rfl
    rotate_left
    · simp only [Act.put, List.setIfInBounds_toArray, List.set_cons_zero, List.set_cons_succ, i64_w, i32_w]
      rfl
    refine one_ (i := 13) (N := some 38) #[true, true, true, true, true, true, true, true, true, true, true, true, true, true, false, false] rfl rfl (by kernel_rfl) (by decide) (fun K hK => ?_)
    refine value_ (w1 := ?_) (v := ?_) (by rfl) rfl ?_ ?_
    rotate_left 2
    · go_simp
      constructor
      · rfl
      · rfl
    have HC2 := Aside0.mk (C_lit_int we we.heap.size rfl .i64 [a0_3, a0_4, a0_5, a0_6] #[.int .i64 a0_3, .int .i64 a0_4, .int .i64 a0_5, .int .i64 a0_6] rfl 3 (by simp))
    have HA2 := Aside0.mk ((Below.refl _ we).alloc (Nat.le_refl _) (.cells #[.int .i64 a0_3, .int .i64 a0_4, .int .i64 a0_5, .int .i64 a0_6] 3))
    have HP4 := Aside0.mk (HPe.out.below HA2.out)
    have HM4 := Aside0.mk (HMe.out.after HA2.out)
    refine hK.out _ _ ⟨(HP4.out.blk.cell 0), (HM4.out.cell 3), (HM4.out.cell 4), (HM4.out.cell 5), (HM4.out.cell 6)⟩ (fun hHeld => ?_)
    clear hK K
    refine norm_ (a' := ?_) ?_ ?_
    rotate_left
    · show Act.put _ (some 38) _ = _
      simp only [Act.put, List.setIfInBounds_toArray, List.set_cons_zero, List.set_cons_succ, i64_w, i32_w]
      rfl
    refine last_ (i := 14) (N := some 39) #[true, true, true, true, true, true, true, true, true, true, true, true, true, true, true, false] rfl rfl (by kernel_rfl) (by decide) (fun K hK => ?_)
    refine goes_ Try.func34 (by kernel_rfl) rfl #[.pointer (some ⟨gw, 0, none⟩), .slice (some ⟨we.heap.size, 0, none⟩) 4 4] (by rfl) rfl rfl (by simp only [List.map_toArray, List.map_cons, List.map_nil]; rfl) ?_
    with_reducible refine (intP 4 4 _ HW2.out HP4.out rfl HC2.out (Nat.le_refl 4) (by simp)).mono ?_
    rintro e5 w5 ⟨rfl, hP5, hS5⟩
    refine ⟨_, rfl, ?_⟩
    have HP5 := Aside0.mk hP5
    clear hP5 hS5
    refine hK.out _ _ ?_
    clear hK K
    refine norm_ (a' := ?_) ?_ ?_
    rotate_left
    · show Act.put _ (some 39) _ = _
      simp only [Act.put, List.setIfInBounds_toArray, List.set_cons_zero, List.set_cons_succ, i64_w, i32_w]
      rfl
    refine last_ (i := 15) (N := some 40) #[true, true, true, true, true, true, true, true, true, true, true, true, true, true, true, true] rfl rfl (by kernel_rfl) (by decide) (fun K hK => ?_)
    refine goes_ Try.func32 (by kernel_rfl) rfl #[.pointer (some ⟨g, 0, none⟩), .int .i64 e2] (by rfl) rfl rfl (by simp only [List.map_toArray, List.map_cons, List.map_nil]; rfl) ?_
    with_reducible refine (message_pen_must.calls w2 _ g gw l2 e1 e2 _ HP5.out).mono ?_
    rintro e7 w7 ⟨rfl, hP7, hS7⟩
    refine ⟨_, rfl, ?_⟩
    have HP7 := Aside0.mk hP7
    clear hP7 hS7
    refine hK.out _ _ ?_
    clear hK K
    refine norm_ (a' := ?_) ?_ ?_
    rotate_left
    · show Act.put _ (some 40) _ = _
      simp only [Act.put, List.setIfInBounds_toArray, List.set_cons_zero, List.set_cons_succ, i64_w, i32_w]
      rfl
    refine done_ (by kernel_rfl) ?_
    clear hHeld HPe HMe HC2 HA2 HP4 HM4 HP5 HP6
    have HM7 := (HM2.out.after HP7.out.bel).cell 7
    have hm7 : w7.cell? ⟨w.heap.size, 7, none⟩ = some (.slice A0_7 l0_7.length c0_7) := HM7
    clear HM7
    go_wp2_with (first | (go_at_call 35; (with_reducible refine (message_pen_log.calls w2 _ g gw l2 (mustE e1 e2) A0_7 c0_7 l0_7 HP7.out HR2.out hc0 hn HS.out).mono ?_); rintro e w8 ⟨rfl, hP8⟩; rw [HW3.out] at hP8; have HP8 := Aside0.mk hP8; clear hP8) | (go_at_call 36; (with_reducible refine (message_pen_all.calls w2 _ g gw l3 e3 _ HP8.out).mono ?_); rintro e w9 ⟨v9, rfl, hR9, hB9⟩; have HR9 := Aside0.mk hR9; have HB9 := Aside0.mk hB9; clear hR9 hB9))
    go_ret2
    have hb8 : Below w.heap.size w w8 := HB2.out.trans (HP8.out.bel.mono HB2.out.size)
    exact ⟨_, rfl, Kd.R_lower HR9.out hb8.size, hb8.trans (HB9.out.mono hb8.size)⟩


end Go.Proofs.Ytlmlkcobkmhmbaa.Q
end

section
-- written by hprint.py (a program of these sessions) out of the translation; Lean checks it
namespace Go.Proofs.Ytlmlkcobkmhmbaa.Q
open Go.RowKit Go.Proofs.YtlmlkcobkmhmbaaW.Hb Go.Proofs.YtlmlkcobkmhmbaaW.PrintWords Go.Proofs.YtlmlkcobkmhmbaaW.PrintLast Go.Proofs.YtlmlkcobkmhmbaaW.PrintMore
attribute [local go_sem] max2_int min2_int max_two min_two max_three min_three max_four min_four   -- for this text's walks alone
set_option linter.unusedVariables false
set_option linter.unusedSimpArgs false

/-! ### message_PutRecord: function 17, by hand -/
def message_PutRecord.f (a0_0 a0_1 a0_2 a0_3 : Int) (l0_4 : List S74) : Option (List Int × Int) := some (if rightR ⟨a0_0, a0_1, a0_2, a0_3, l0_4⟩ = true then wall [a0_0] [a0_1, a0_2, a0_3] l0_4 else ([], 1))
set_option maxRecDepth 100000 in
set_option maxHeartbeats 2000000 in
theorem message_PutRecord.calls (a0_0 a0_1 a0_2 a0_3 : Int) (A0_4 : Option Addr) (c0_4 : Nat) (l0_4 : List S74) (r1 : List Int) (r2 : Int) (w : World) (hr0 : Kd.C k74 w A0_4 l0_4.length l0_4) (hc0 : l0_4.length ≤ c0_4) (h : message_PutRecord.f a0_0 a0_1 a0_2 a0_3 l0_4 = some (r1, r2)) :
    Calls Try.prog 17 #[.agg #[.int .i64 a0_0, .int .i64 a0_1, .int .i64 a0_2, .int .i64 a0_3, .slice A0_4 l0_4.length c0_4]] w fun e w' => ∃ v0_ : Value, e = .returned (.tuple #[v0_, .int .i64 r2]) ∧ Kd.R (Kd.int .u8) 5 w' w.heap.size (fun _ => True) v0_ r1 ∧ Below w.heap.size w w' := by
  have h := Option.some.inj h
  have HR0 := Aside0.mk hr0
  have hm0 : l0_4.length ≤ 9223372036854775807 := hr0.2.1
  have HM1 := Aside0.mk (Blk.new w 49 #[.int .i64 a0_0, .int .i64 a0_1, .int .i64 a0_2, .int .i64 a0_3, .slice A0_4 l0_4.length c0_4])
  have HB1 := Aside0.mk ((Below.refl w.heap.size w).alloc (Nat.le_refl _) (.cells #[.int .i64 a0_0, .int .i64 a0_1, .int .i64 a0_2, .int .i64 a0_3, .slice A0_4 l0_4.length c0_4] 49))
  have HC1 := Aside0.mk (Kd.C_alloc hr0 (.cells #[.int .i64 a0_0, .int .i64 a0_1, .int .i64 a0_2, .int .i64 a0_3, .slice A0_4 l0_4.length c0_4] 49))
  clear hr0
  cases hrt : rightR ⟨a0_0, a0_1, a0_2, a0_3, l0_4⟩ with
  | false =>
    have HF := Aside0.mk (show message_RightRecord.f a0_0 a0_1 a0_2 a0_3 l0_4 = some false by rw [← hrt]; exact rightR_f ⟨a0_0, a0_1, a0_2, a0_3, l0_4⟩)
    rw [if_neg (by rw [hrt]; decide)] at h
    obtain ⟨rfl, rfl⟩ := Prod.mk.inj h
    clear hrt h
    go_enter Try.func17, Try.ntmps17
    go_wp2_with (go_at_call 21; (with_reducible refine (message_RightRecord.calls a0_0 a0_1 a0_2 a0_3 A0_4 c0_4 l0_4 false _ HC1.out hc0 HF.out).mono ?_); rintro e w2 ⟨rfl, hb2⟩; have HB2 := Aside0.mk (HB1.out.trans (hb2.mono HB1.out.size)); clear hb2)
    go_ret2
    exact ⟨_, rfl, Kd.R_nil _ _ _ _ _, HB2.out⟩
  | true =>
    have HF := Aside0.mk (show message_RightRecord.f a0_0 a0_1 a0_2 a0_3 l0_4 = some true by rw [← hrt]; exact rightR_f ⟨a0_0, a0_1, a0_2, a0_3, l0_4⟩)
    have hent : entB l0_4 = true := by have := hrt; simp [rightR] at this; simp [this]
    obtain ⟨hn, hs⟩ := entB_is hent
    rw [if_pos hrt] at h
    obtain ⟨l1, e1, hw1⟩ : ∃ l1 e1, wbytes [] [a0_0] = (l1, e1) := ⟨_, _, rfl⟩
    obtain ⟨l2, e2, hw2⟩ : ∃ l2 e2, wmore l1 (ints8 [a0_1, a0_2, a0_3]) = (l2, e2) := ⟨_, _, rfl⟩
    obtain ⟨l3, e3, hw3⟩ : ∃ l3 e3, wlog (l2, mustE e1 e2) l0_4 = (l3, e3) := ⟨_, _, rfl⟩
    rw [wall_is hw1 hw2 hw3] at h
    obtain ⟨rfl, rfl⟩ := Prod.mk.inj h
    have HW1 := Aside0.mk hw1
    have HW2 := Aside0.mk hw2
    have HW3 := Aside0.mk hw3
    have HS := Aside0.mk hs
    clear hrt h hent hs hw1 hw2 hw3
    go_enter Try.func17, Try.ntmps17
    go_wp2_with (first | (go_at_call 21; (with_reducible refine (message_RightRecord.calls a0_0 a0_1 a0_2 a0_3 A0_4 c0_4 l0_4 true _ HC1.out hc0 HF.out).mono ?_); rintro e w2 ⟨rfl, hb2⟩; have HB2 := Aside0.mk (HB1.out.trans (hb2.mono HB1.out.size)); have HM2 := Aside0.mk (HM1.out.after hb2); clear hb2) | (go_at_call 31; (with_reducible refine (wire_NewWriter.calls w2).mono ?_); rintro e w3 ⟨gw, rfl, hW3, hg3, hB3⟩; have HP3 := Aside0.mk (Pn.new hW3 hg3 hB3); clear hW3 hg3 hB3))
    have HR2 := Aside0.mk (Kd.C_below HR0.out (HB2.out.mono (Nat.le_refl _)))
    clear HR0 HC1 HM1
    generalize w3.alloc (.cells #[.pointer (some ⟨gw, 0, none⟩), .int .i64 0] 79) = W1 at HP3 ⊢
    generalize w3.heap.size = g at HP3 ⊢
    have HPd := Aside0.mk (HP3.out.below ((Below.refl _ _).drew))
    have HMd := Aside0.mk (HM2.out.after HPd.out.bel)
    refine start_ (n := 10) (S := fun w' => w'.cell? ⟨g, 0, none⟩ = some (.pointer (some ⟨gw, 0, none⟩)) ∧ w'.cell? ⟨w.heap.size, 0, none⟩ = some (.int .i64 a0_0)) (ds := [8, 9]) #[false, false, false, false, false, false, false, false, false, false] (by kernel_rfl) rfl rfl ⟨(HPd.out.blk.cell 0), (HMd.out.cell 0)⟩ (fun hHeld => ?_)
    generalize W1.drew = wd at HPd HMd hHeld ⊢
    refine pure_ (i := 0) (N := some 11) (v := ?_) (a' := ?_) #[true, false, false, false, false, false, false, false, false, false] rfl rfl (by kernel_rfl) (fun _ _ _ h => h) (Or.inl ⟨by rfl, ?_⟩) ?_ ?_
    rotate_left
    · intro w'
      go_simp
      with_reducible rfl
    rotate_left
    · simp only [Act.put, List.setIfInBounds_toArray, List.set_cons_zero, List.set_cons_succ, i64_w, i32_w]
      rfl
    refine pure_ (i := 1) (N := some 12) (v := ?_) (a' := ?_) #[true, true, false, false, false, false, false, false, false, false] rfl rfl (by kernel_rfl) (fun _ _ _ h => h) (Or.inl ⟨by rfl, ?_⟩) ?_ ?_
    rotate_left
    · intro w'
      go_simp
      with_reducible rfl
    rotate_left
    · simp only [Act.put, List.setIfInBounds_toArray, List.set_cons_zero, List.set_cons_succ, i64_w, i32_w]
      rfl
    refine pure_ (i := 2) (N := some 13) (v := ?_) (a' := ?_) #[true, true, true, false, false, false, false, false, false, false] rfl rfl (by kernel_rfl) (fun _ _ _ h => h) (Or.inl ⟨by rfl, ?_⟩) ?_ ?_
    rotate_left
    · intro w'
      go_simp
      with_reducible rfl
    rotate_left
    · simp only [Act.put, List.setIfInBounds_toArray, List.set_cons_zero, List.set_cons_succ, i64_w, i32_w]
      rfl
    refine pure_ (i := 3) (N := some 14) (v := ?_) (a' := ?_) #[true, true, true, true, false, false, false, false, false, false] rfl rfl (by kernel_rfl) (fun _ _ _ h => h) (Or.inl ⟨by rfl, ?_⟩) ?_ ?_
    rotate_left
    · intro w'
      go_simp
      with_reducible rfl
    rotate_left
    · simp only [Act.put, List.setIfInBounds_toArray, List.set_cons_zero, List.set_cons_succ, i64_w, i32_w]
      rfl
    refine pure_ (i := 5) (N := some 16) (v := ?_) (a' := ?_) #[true, true, true, true, false, true, false, false, false, false] rfl rfl (by kernel_rfl) (fun _ _ _ h => h) (Or.inl ⟨by rfl, ?_⟩) ?_ ?_
    rotate_left
    · intro w'
      go_simp
      with_reducible rfl
    rotate_left
    · simp only [Act.put, List.setIfInBounds_toArray, List.set_cons_zero, List.set_cons_succ, i64_w, i32_w]
      rfl
    refine take_ (i := 4) (N := some 15) (v := ?_) (a' := ?_) #[true, true, true, true, true, true, false, false, false, false] rfl rfl (by kernel_rfl) (fun _ _ _ h => h) (Or.inl ⟨by rfl, ?_⟩) hHeld ?_ ?_
    rotate_left
    · rintro w' ⟨s0, s1⟩
      go_simp
      with_reducible rfl
    rotate_left
    · simp only [Act.put, List.setIfInBounds_toArray, List.set_cons_zero, List.set_cons_succ, i64_w, i32_w]
      rfl
    refine take_ (i := 6) (N := some 17) (v := ?_) (a' := ?_) #[true, true, true, true, true, true, true, false, false, false] rfl rfl (by kernel_rfl) (fun _ _ _ h => h) (Or.inl ⟨by rfl, ?_⟩) hHeld ?_ ?_
    rotate_left
    · rintro w' ⟨s0, s1⟩
      go_simp
      with_reducible rfl
    rotate_left
    · simp only [Act.put, List.setIfInBounds_toArray, List.set_cons_zero, List.set_cons_succ, i64_w, i32_w]
      rfl
    refine one_ (i := 7) (N := some 18) #[true, true, true, true, true, true, true, true, false, false] rfl rfl (by kernel_rfl) (by decide) (fun K hK => ?_)
    refine value_ (w1 := ?_) (v := ?_) (by rfl) rfl ?_ ?_
    rotate_left 2
    · go_simp
      constructor
      · rfl
      · rfl
    have HC2 := Aside0.mk (C_lit_int wd wd.heap.size rfl .i64 [a0_0] #[.int .i64 a0_0] rfl 3 (by simp))
    have HA2 := Aside0.mk ((Below.refl _ wd).alloc (Nat.le_refl _) (.cells #[.int .i64 a0_0] 3))
    have HP4 := Aside0.mk (HPd.out.below HA2.out)
    have HM4 := Aside0.mk (HMd.out.after HA2.out)
    refine hK.out _ _ ⟨(HP4.out.blk.cell 0), (HM4.out.cell 0)⟩ (fun hHeld => ?_)
    clear hK K
    refine norm_ (a' := ?_) ?_ ?_
    rotate_left
    · show Act.put _ (some 18) _ = _
      simp only [Act.put, List.setIfInBounds_toArray, List.set_cons_zero, List.set_cons_succ, i64_w, i32_w]
      rfl
    refine last_ (i := 8) (N := some 19) #[true, true, true, true, true, true, true, true, true, false] rfl rfl (by kernel_rfl) (by decide) (fun K hK => ?_)
    refine goes_ Try.func33 (by kernel_rfl) rfl #[.pointer (some ⟨gw, 0, none⟩), .slice (some ⟨wd.heap.size, 0, none⟩) 1 1] (by rfl) rfl rfl (by simp only [List.map_toArray, List.map_cons, List.map_nil]; rfl) ?_
    with_reducible refine (byteP 1 1 _ HW1.out HP4.out rfl HC2.out (Nat.le_refl 1) (by simp)).mono ?_
    rintro e5 w5 ⟨rfl, hP5, hS5⟩
    refine ⟨_, rfl, ?_⟩
    have HP5 := Aside0.mk hP5
    clear hP5 hS5
    refine hK.out _ _ ?_
    clear hK K
    refine norm_ (a' := ?_) ?_ ?_
    rotate_left
    · show Act.put _ (some 19) _ = _
      simp only [Act.put, List.setIfInBounds_toArray, List.set_cons_zero, List.set_cons_succ, i64_w, i32_w]
      rfl
    refine last_ (i := 9) (N := some 20) #[true, true, true, true, true, true, true, true, true, true] rfl rfl (by kernel_rfl) (by decide) (fun K hK => ?_)
    refine goes_ Try.func32 (by kernel_rfl) rfl #[.pointer (some ⟨g, 0, none⟩), .int .i64 e1] (by rfl) rfl rfl (by simp only [List.map_toArray, List.map_cons, List.map_nil]; rfl) ?_
    with_reducible refine (message_pen_must.calls w2 _ g gw l1 0 e1 _ HP5.out).mono ?_
    rintro e6 w6 ⟨rfl, hP6, hS6⟩
    refine ⟨_, rfl, ?_⟩
    have HP6 := Aside0.mk hP6
    clear hP6 hS6
    refine hK.out _ _ ?_
    clear hK K
    refine norm_ (a' := ?_) ?_ ?_
    rotate_left
    · show Act.put _ (some 20) _ = _
      simp only [Act.put, List.setIfInBounds_toArray, List.set_cons_zero, List.set_cons_succ, i64_w, i32_w]
      rfl
    refine done_ (by kernel_rfl) ?_
    rw [mustE_0] at HP6
    clear hHeld HPd HMd HC2 HA2 HP4 HM4 HP5 HP3
    go_wp2
    have HPe := Aside0.mk (HP6.out.below ((Below.refl _ _).drew))
    have HMe := Aside0.mk (HM2.out.after HPe.out.bel)
    refine start_ (n := 14) (S := fun w' => w'.cell? ⟨g, 0, none⟩ = some (.pointer (some ⟨gw, 0, none⟩)) ∧ w'.cell? ⟨w.heap.size, 1, none⟩ = some (.int .i64 a0_1) ∧ w'.cell? ⟨w.heap.size, 2, none⟩ = some (.int .i64 a0_2) ∧ w'.cell? ⟨w.heap.size, 3, none⟩ = some (.int .i64 a0_3)) (ds := [12, 13]) #[false, false, false, false, false, false, false, false, false, false, false, false, false, false] (by kernel_rfl) rfl rfl ⟨(HPe.out.blk.cell 0), (HMe.out.cell 1), (HMe.out.cell 2), (HMe.out.cell 3)⟩ (fun hHeld => ?_)
    generalize w6.drew = we at HPe HMe hHeld ⊢
    refine pure_ (i := 0) (N := some 21) (v := ?_) (a' := ?_) #[true, false, false, false, false, false, false, false, false, false, false, false, false, false] rfl rfl (by kernel_rfl) (fun _ _ _ h => h) (Or.inl ⟨by rfl, ?_⟩) ?_ ?_
    rotate_left
    · intro w'
      go_simp
      with_reducible rfl
    rotate_left
    · simp only [Act.put, List.setIfInBounds_toArray, List.set_cons_zero, List.set_cons_succ, i64_w, i32_w]
      rfl
    refine pure_ (i := 1) (N := some 22) (v := ?_) (a' := ?_) #[true, true, false, false, false, false, false, false, false, false, false, false, false, false] rfl rfl (by kernel_rfl) (fun _ _ _ h => h) (Or.inl ⟨by rfl, ?_⟩) ?_ ?_
    rotate_left
    · intro w'
      go_simp
      with_reducible rfl
    rotate_left
    · simp only [Act.put, List.setIfInBounds_toArray, List.set_cons_zero, List.set_cons_succ, i64_w, i32_w]
      rfl
    refine pure_ (i := 2) (N := some 23) (v := ?_) (a' := ?_) #[true, true, true, false, false, false, false, false, false, false, false, false, false, false] rfl rfl (by kernel_rfl) (fun _ _ _ h => h) (Or.inl ⟨by rfl, ?_⟩) ?_ ?_
    rotate_left
    · intro w'
      go_simp
      with_reducible rfl
    rotate_left
    · simp only [Act.put, List.setIfInBounds_toArray, List.set_cons_zero, List.set_cons_succ, i64_w, i32_w]
      rfl
    refine pure_ (i := 3) (N := some 24) (v := ?_) (a' := ?_) #[true, true, true, true, false, false, false, false, false, false, false, false, false, false] rfl rfl (by kernel_rfl) (fun _ _ _ h => h) (Or.inl ⟨by rfl, ?_⟩) ?_ ?_
    rotate_left
    · intro w'
      go_simp
      with_reducible rfl
    rotate_left
    · simp only [Act.put, List.setIfInBounds_toArray, List.set_cons_zero, List.set_cons_succ, i64_w, i32_w]
      rfl
    refine pure_ (i := 5) (N := some 26) (v := ?_) (a' := ?_) #[true, true, true, true, false, true, false, false, false, false, false, false, false, false] rfl rfl (by kernel_rfl) (fun _ _ _ h => h) (Or.inl ⟨by rfl, ?_⟩) ?_ ?_
    rotate_left
    · intro w'
      go_simp
      with_reducible rfl
    rotate_left
    · simp only [Act.put, List.setIfInBounds_toArray, List.set_cons_zero, List.set_cons_succ, i64_w, i32_w]
      rfl
    refine pure_ (i := 7) (N := some 28) (v := ?_) (a' := ?_) #[true, true, true, true, false, true, false, true, false, false, false, false, false, false] rfl rfl (by kernel_rfl) (fun _ _ _ h => h) (Or.inl ⟨by rfl, ?_⟩) ?_ ?_
    rotate_left
    · intro w'
      go_simp
      with_reducible rfl
    rotate_left
    · simp only [Act.put, List.setIfInBounds_toArray, List.set_cons_zero, List.set_cons_succ, i64_w, i32_w]
      rfl
    refine pure_ (i := 9) (N := some 30) (v := ?_) (a' := ?_) #[true, true, true, true, false, true, false, true, false, true, false, false, false, false] rfl rfl (by kernel_rfl) (fun _ _ _ h => h) (Or.inl ⟨by rfl, ?_⟩) ?_ ?_
    rotate_left
    · intro w'
      go_simp
      with_reducible rfl
    rotate_left
    · simp only [Act.put, List.setIfInBounds_toArray, List.set_cons_zero, List.set_cons_succ, i64_w, i32_w]
      rfl
    refine take_ (i := 4) (N := some 25) (v := ?_) (a' := ?_) #[true, true, true, true, true, true, false, true, false, true, false, false, false, false] rfl rfl (by kernel_rfl) (fun _ _ _ h => h) (Or.inl ⟨by rfl, ?_⟩) hHeld ?_ ?_
    rotate_left
    · rintro w' ⟨s0, s1, s2, s3⟩
      go_simp
      with_reducible rfl
    rotate_left
    · simp only [Act.put, List.setIfInBounds_toArray, List.set_cons_zero, List.set_cons_succ, i64_w, i32_w]
      rfl
    refine take_ (i := 6) (N := some 27) (v := ?_) (a' := ?_) #[true, true, true, true, true, true, true, true, false, true, false, false, false, false] rfl rfl (by kernel_rfl) (fun _ _ _ h => h) (Or.inl ⟨by rfl, ?_⟩) hHeld ?_ ?_
    rotate_left
    · rintro w' ⟨s0, s1, s2, s3⟩
      go_simp
      with_reducible rfl
    rotate_left
    · simp only [Act.put, List.setIfInBounds_toArray, List.set_cons_zero, List.set_cons_succ, i64_w, i32_w]
      rfl
    refine take_ (i := 8) (N := some 29) (v := ?_) (a' := ?_) #[true, true, true, true, true, true, true, true, true, true, false, false, false, false] rfl rfl (by kernel_rfl) (fun _ _ _ h => h) (Or.inl ⟨by rfl, ?_⟩) hHeld ?_ ?_
    rotate_left
    · rintro w' ⟨s0, s1, s2, s3⟩
      go_simp
      with_reducible rfl
    rotate_left
    · simp only [Act.put, List.setIfInBounds_toArray, List.set_cons_zero, List.set_cons_succ, i64_w, i32_w]
      rfl
    refine take_ (i := 10) (N := some 31) (v := ?_) (a' := ?_) #[true, true, true, true, true, true, true, true, true, true, true, false, false, false] rfl rfl (by kernel_rfl) (fun _ _ _ h => h) (Or.inl ⟨by rfl, ?_⟩) hHeld ?_ ?_
    rotate_left
    · rintro w' ⟨s0, s1, s2, s3⟩
      go_simp
      with_reducible rfl
    rotate_left
    · simp only [Act.put, List.setIfInBounds_toArray, List.set_cons_zero, List.set_cons_succ, i64_w, i32_w]
      rfl
    refine one_ (i := 11) (N := some 32) #[true, true, true, true, true, true, true, true, true, true, true, true, false, false] rfl rfl (by kernel_rfl) (by decide) (fun K hK => ?_)
    refine value_ (w1 := ?_) (v := ?_) (by rfl) rfl ?_ ?_
    rotate_left 2
    · go_simp
      constructor
      · rfl
      · rfl
    have HC2 := Aside0.mk (C_lit_int we we.heap.size rfl .i64 [a0_1, a0_2, a0_3] #[.int .i64 a0_1, .int .i64 a0_2, .int .i64 a0_3] rfl 3 (by simp))
    have HA2 := Aside0.mk ((Below.refl _ we).alloc (Nat.le_refl _) (.cells #[.int .i64 a0_1, .int .i64 a0_2, .int .i64 a0_3] 3))
    have HP4 := Aside0.mk (HPe.out.below HA2.out)
    have HM4 := Aside0.mk (HMe.out.after HA2.out)
    refine hK.out _ _ ⟨(HP4.out.blk.cell 0), (HM4.out.cell 1), (HM4.out.cell 2), (HM4.out.cell 3)⟩ (fun hHeld => ?_)
    clear hK K
    refine norm_ (a' := ?_) ?_ ?_
    rotate_left
    · show Act.put _ (some 32) _ = _
      simp only [Act.put, List.setIfInBounds_toArray, List.set_cons_zero, List.set_cons_succ, i64_w, i32_w]
      rfl
    refine last_ (i := 12) (N := some 33) #[true, true, true, true, true, true, true, true, true, true, true, true, true, false] rfl rfl (by kernel_rfl) (by decide) (fun K hK => ?_)
    refine goes_ Try.func34 (by kernel_rfl) rfl #[.pointer (some ⟨gw, 0, none⟩), .slice (some ⟨we.heap.size, 0, none⟩) 3 3] (by rfl) rfl rfl (by simp only [List.map_toArray, List.map_cons, List.map_nil]; rfl) ?_
    with_reducible refine (intP 3 3 _ HW2.out HP4.out rfl HC2.out (Nat.le_refl 3) (by simp)).mono ?_
    rintro e5 w5 ⟨rfl, hP5, hS5⟩
    refine ⟨_, rfl, ?_⟩
    have HP5 := Aside0.mk hP5
    clear hP5 hS5
    refine hK.out _ _ ?_
    clear hK K
    refine norm_ (a' := ?_) ?_ ?_
    rotate_left
    · show Act.put _ (some 33) _ = _
      simp only [Act.put, List.setIfInBounds_toArray, List.set_cons_zero, List.set_cons_succ, i64_w, i32_w]
      rfl
    refine last_ (i := 13) (N := some 34) #[true, true, true, true, true, true, true, true, true, true, true, true, true, true] rfl rfl (by kernel_rfl) (by decide) (fun K hK => ?_)
    refine goes_ Try.func32 (by kernel_rfl) rfl #[.pointer (some ⟨g, 0, none⟩), .int .i64 e2] (by rfl) rfl rfl (by simp only [List.map_toArray, List.map_cons, List.map_nil]; rfl) ?_
    with_reducible refine (message_pen_must.calls w2 _ g gw l2 e1 e2 _ HP5.out).mono ?_
    rintro e7 w7 ⟨rfl, hP7, hS7⟩
    refine ⟨_, rfl, ?_⟩
    have HP7 := Aside0.mk hP7
    clear hP7 hS7
    refine hK.out _ _ ?_
    clear hK K
    refine norm_ (a' := ?_) ?_ ?_
    rotate_left
    · show Act.put _ (some 34) _ = _
      simp only [Act.put, List.setIfInBounds_toArray, List.set_cons_zero, List.set_cons_succ, i64_w, i32_w]
      rfl
    refine done_ (by kernel_rfl) ?_
    clear hHeld HPe HMe HC2 HA2 HP4 HM4 HP5 HP6
    have HM7 := (HM2.out.after HP7.out.bel).cell 4
    have hm7 : w7.cell? ⟨w.heap.size, 4, none⟩ = some (.slice A0_4 l0_4.length c0_4) := HM7
    clear HM7
    go_wp2_with (first | (go_at_call 35; (with_reducible refine (message_pen_log.calls w2 _ g gw l2 (mustE e1 e2) A0_4 c0_4 l0_4 HP7.out HR2.out hc0 hn HS.out).mono ?_); rintro e w8 ⟨rfl, hP8⟩; rw [HW3.out] at hP8; have HP8 := Aside0.mk hP8; clear hP8) | (go_at_call 36; (with_reducible refine (message_pen_all.calls w2 _ g gw l3 e3 _ HP8.out).mono ?_); rintro e w9 ⟨v9, rfl, hR9, hB9⟩; have HR9 := Aside0.mk hR9; have HB9 := Aside0.mk hB9; clear hR9 hB9))
    go_ret2
    have hb8 : Below w.heap.size w w8 := HB2.out.trans (HP8.out.bel.mono HB2.out.size)
    exact ⟨_, rfl, Kd.R_lower HR9.out hb8.size, hb8.trans (HB9.out.mono hb8.size)⟩


end Go.Proofs.Ytlmlkcobkmhmbaa.Q
end

section
-- written by hprint.py (a program of these sessions) out of the translation; Lean checks it
namespace Go.Proofs.Ytlmlkcobkmhmbaa.Q
open Go.RowKit Go.Proofs.YtlmlkcobkmhmbaaW.Hb Go.Proofs.YtlmlkcobkmhmbaaW.PrintWords Go.Proofs.YtlmlkcobkmhmbaaW.PrintLast Go.Proofs.YtlmlkcobkmhmbaaW.PrintMore
attribute [local go_sem] max2_int min2_int max_two min_two max_three min_three max_four min_four   -- for this text's walks alone
set_option linter.unusedVariables false
set_option linter.unusedSimpArgs false

/-! ### weighhouseref17_in: function 53 -/
def weighhouseref17_in.f (a0 : Int) : Option (Bool) := if a0 ≥ 0 then (some (decide (a0 ≤ 1099511627776))) else (some false)
set_option maxHeartbeats 8000000 in
set_option maxRecDepth 100000 in
theorem weighhouseref17_in.calls (a0 : Int) (r : Bool) (w : World) (h : weighhouseref17_in.f a0 = some r) :
    Calls Try.prog 53 #[.int .i64 a0] w fun e w' => e = .returned (.bool r) ∧ Drawn0 w w' := by
  have H : (if a0 ≥ 0 then (some (decide (a0 ≤ 1099511627776))) else (some false)) = some r := h
  clear h
  by_cases c2 : a0 ≥ 0
  · rw [if_pos c2] at H
    have c2b0 : decide (0 ≤ a0) = true := decide_eq_true c2
    clear c2
    obtain rfl := Option.some.inj H
    go_enter Try.func53, Try.ntmps53
    go_wp2
    go_ret
    exact ⟨by first | rfl | (simp; done) | (simp [*]; done), by repeat (first | exact Drawn0.refl _ | apply Drawn0.step)⟩
  · rw [if_neg c2] at H
    have c2b0 : decide (0 ≤ a0) = false := decide_eq_false c2
    clear c2
    obtain rfl := Option.some.inj H
    go_enter Try.func53, Try.ntmps53
    go_wp2
    go_ret
    exact ⟨by first | rfl | (simp; done) | (simp [*]; done), by repeat (first | exact Drawn0.refl _ | apply Drawn0.step)⟩

end Go.Proofs.Ytlmlkcobkmhmbaa.Q
end

section
-- written by hprint.py (a program of these sessions) out of the translation; Lean checks it
namespace Go.Proofs.Ytlmlkcobkmhmbaa.Q
open Go.RowKit Go.Proofs.YtlmlkcobkmhmbaaW.Hb Go.Proofs.YtlmlkcobkmhmbaaW.PrintWords Go.Proofs.YtlmlkcobkmhmbaaW.PrintLast Go.Proofs.YtlmlkcobkmhmbaaW.PrintMore
attribute [local go_sem] max2_int min2_int max_two min_two max_three min_three max_four min_four   -- for this text's walks alone
set_option linter.unusedVariables false
set_option linter.unusedSimpArgs false

/-! ### weighhouseref17_log: function 54 -/
def weighhouseref17_log.l0 : Nat → List (S113) → Int → Option (Bool)
  | 0, _, _ => none
  | k + 1, x0, x3 => if x3 < (x0.length : Int) then (if 0 ≤ x3 then ((weighhouseref17_in.f ((rd_T113 x0 x3).f0)).bind fun t242 => (if t242 = true then (if (((rd_T113 x0 x3).f1).size : Int) > 16384 then (some false) else (weighhouseref17_log.l0 k x0 (wrap64 (x3 + 1)))) else (some false))) else (none)) else (some true)
def weighhouseref17_log.f (k : Nat) (l0 : List (S113)) : Option (Bool) := if (l0.length : Int) > 2048 then (some false) else (weighhouseref17_log.l0 k l0 0)
theorem weighhouseref17_log.mono_l : ∀ k, (∀ y0 y1, LeO (weighhouseref17_log.l0 k y0 y1) (weighhouseref17_log.l0 (k + 1) y0 y1))
  | 0 => fun _ _ r h => by simp [weighhouseref17_log.l0] at h
  | k + 1 => by
    have ih0 := weighhouseref17_log.mono_l k
    · intro y0 y1
      unfold weighhouseref17_log.l0
      repeat' first
      | (with_reducible exact ih0 _ _)
      | (with_reducible exact LeO.refl _)
      | (with_reducible exact LeO.none _)
      | (with_reducible refine LeO.ite ?_ ?_)
      | (with_reducible refine LeO.bind ?_ (fun _ => ?_))
      | exact ih0 _ _
      | exact LeO.none _
      | refine LeO.ite ?_ ?_
      | refine LeO.bind ?_ (fun _ => ?_)
theorem weighhouseref17_log.mono : ∀ a0 k, LeO (weighhouseref17_log.f k a0) (weighhouseref17_log.f (k + 1) a0) := by
  intro a0 k
  have ih0 := weighhouseref17_log.mono_l k
  unfold weighhouseref17_log.f
  repeat' first
      | (with_reducible exact ih0 _ _)
      | (with_reducible exact LeO.refl _)
      | (with_reducible exact LeO.none _)
      | (with_reducible refine LeO.ite ?_ ?_)
      | (with_reducible refine LeO.bind ?_ (fun _ => ?_))
      | exact ih0 _ _
      | exact LeO.none _
      | refine LeO.ite ?_ ?_
      | refine LeO.bind ?_ (fun _ => ?_)
set_option maxHeartbeats 8000000 in
set_option maxRecDepth 100000 in
theorem weighhouseref17_log.calls (k : Nat) (A0 : Option Addr) (c0 : Nat) (l0 : List (S113)) (r : Bool) (w : World) (hr0 : Kd.C k113 w A0 l0.length l0) (hc0 : l0.length ≤ c0) (h : weighhouseref17_log.f k l0 = some r) :
    Calls Try.prog 54 #[.slice A0 l0.length c0] w fun e w' => e = .returned (.bool r) ∧ Drawn0 w w' := by
  have HR0 := Aside0.mk hr0
  have HC0 := Aside0.mk hc0
  clear hr0 hc0
  have H : (if (l0.length : Int) > 2048 then (some false) else (weighhouseref17_log.l0 k l0 0)) = some r := h
  clear h
  by_cases c2 : (l0.length : Int) > 2048
  · rw [if_pos c2] at H
    have c2b0 : decide (2048 < (l0.length : Int)) = true := decide_eq_true c2
    have c2b1 : decide (2048 < l0.length) = true := decide_eq_true (by omega)
    clear c2
    obtain rfl := Option.some.inj H
    go_enter Try.func54, Try.ntmps54
    go_wp2
    go_ret
    exact ⟨by first | rfl | (simp; done) | (simp [*]; done), by repeat (first | exact Drawn0.refl _ | apply Drawn0.step)⟩
  · rw [if_neg c2] at H
    have c2b0 : decide (2048 < (l0.length : Int)) = false := decide_eq_false c2
    have c2b1 : decide (2048 < l0.length) = false := decide_eq_false (by omega)
    clear c2
    have H' := Aside0.mk H
    clear H
    go_enter Try.func54, Try.ntmps54
    go_wp2
    go_loopg [3] k (fun kq v3 w' => ∃ (x3_1 : Int), v3 = .int .i64 x3_1 ∧ Aside0 (weighhouseref17_log.l0 kq l0 x3_1 = some r) ∧ Aside0 (kq ≤ k) ∧ Drawn0 w w')
    case atStart => exact ⟨(0), (by first | rfl | (simp; done) | (simp [*]; done)), H', ⟨Nat.le_refl _⟩, by repeat (first | exact Drawn0.refl _ | apply Drawn0.step)⟩
    case round =>
      clear H'
      try clear c2
      try clear c2b0
      try clear c2b1
      try clear p2
      obtain ⟨x3_1, rfl, HA, HK1, ⟨m1, rfl⟩⟩ := hrel
      cases gk with
      | zero => exact absurd HA.out (by simp [weighhouseref17_log.l0])
      | succ k1 =>
        have H := HA.out
        clear HA
        simp only [weighhouseref17_log.l0] at H
        by_cases c3 : x3_1 < (l0.length : Int)
        · rw [if_pos c3] at H
          have c3b0 : decide (x3_1 < (l0.length : Int)) = true := decide_eq_true c3
          clear c3
          by_cases c4 : 0 ≤ x3_1
          · rw [if_pos c4] at H
            have c4b0 : decide (0 ≤ x3_1) = true := decide_eq_true c4
            clear c4
            replace H := Option.bind_eq_some_iff.mp H
            obtain ⟨t242, A50, H⟩ := H
            replace H : (if t242 = true then (if (((rd_T113 l0 x3_1).f1).size : Int) > 16384 then (some false) else (weighhouseref17_log.l0 k1 l0 (wrap64 (x3_1 + 1)))) else (some false)) = some r := H
            have A5 := Aside0.mk A50
            clear A50
            by_cases c6 : t242 = true
            · subst c6
              have H1 : (if (((rd_T113 l0 x3_1).f1).size : Int) > 16384 then (some false) else (weighhouseref17_log.l0 k1 l0 (wrap64 (x3_1 + 1)))) = some r := by rw [if_pos rfl] at H; exact H
              clear H
              have H := H1
              clear H1
              by_cases c7 : (((rd_T113 l0 x3_1).f1).size : Int) > 16384
              · rw [if_pos c7] at H
                have c7b0 : decide (16384 < (((rd_T113 l0 x3_1).f1).size : Int)) = true := decide_eq_true c7
                have c7b1 : decide (16384 < ((rd_T113 l0 x3_1).f1).size) = true := decide_eq_true (by omega)
                clear c7
                obtain rfl := Option.some.inj H
                have p241 : 0 ≤ (x3_1 : Int) := of_decide_eq_true (by first | (with_reducible assumption) | assumption)
                have q241 : x3_1 < (l0.length : Int) := of_decide_eq_true (by first | (with_reducible assumption) | assumption)
                obtain ⟨ad241, e241, hx241_0, hx241_1⟩ := at_T113 HR0.out x3_1 p241 q241
                cases e241
                replace p241 := eq_true p241
                replace q241 := eq_true q241
                go_wp2_with (first | ((with_reducible refine gate_callee (f := 53) rfl ?_); refine goesL_ (some 18) rfl rfl Try.func53 (by kernel_rfl) rfl #[.int .i64 ((rd_T113 l0 x3_1).f0)] rfl (by (try simp only [List.map_toArray, List.map_cons, List.map_nil]); first | done | rfl | (simp only [List.length_drop, List.length_take]; rfl)) ?_; (with_reducible refine (weighhouseref17_in.calls ((rd_T113 l0 x3_1).f0) true _ A5.out).mono ?_); rintro e w' ⟨rfl, ⟨nd, rfl⟩⟩; refine ⟨_, rfl, ?_⟩; have p243 : 0 ≤ (x3_1 : Int) := of_decide_eq_true (by first | (with_reducible assumption) | assumption); have q243 : x3_1 < (l0.length : Int) := of_decide_eq_true (by first | (with_reducible assumption) | assumption); obtain ⟨ad243, e243, hx243_0, hx243_1⟩ := at_T113 HR0.out x3_1 p243 q243; obtain rfl : ad241 = ad243 := (by injection e243); replace p243 := eq_true p243; replace q243 := eq_true q243))
                go_ret
                exact ⟨by first | rfl | (simp; done) | (simp [*]; done), by repeat (first | exact Drawn0.refl _ | apply Drawn0.step)⟩
              · rw [if_neg c7] at H
                have c7b0 : decide (16384 < (((rd_T113 l0 x3_1).f1).size : Int)) = false := decide_eq_false c7
                have c7b1 : decide (16384 < ((rd_T113 l0 x3_1).f1).size) = false := decide_eq_false (by omega)
                clear c7
                have H' := Aside0.mk H
                clear H
                have p241 : 0 ≤ (x3_1 : Int) := of_decide_eq_true (by first | (with_reducible assumption) | assumption)
                have q241 : x3_1 < (l0.length : Int) := of_decide_eq_true (by first | (with_reducible assumption) | assumption)
                obtain ⟨ad241, e241, hx241_0, hx241_1⟩ := at_T113 HR0.out x3_1 p241 q241
                cases e241
                replace p241 := eq_true p241
                replace q241 := eq_true q241
                go_wp2_with (first | ((with_reducible refine gate_callee (f := 53) rfl ?_); refine goesL_ (some 18) rfl rfl Try.func53 (by kernel_rfl) rfl #[.int .i64 ((rd_T113 l0 x3_1).f0)] rfl (by (try simp only [List.map_toArray, List.map_cons, List.map_nil]); first | done | rfl | (simp only [List.length_drop, List.length_take]; rfl)) ?_; (with_reducible refine (weighhouseref17_in.calls ((rd_T113 l0 x3_1).f0) true _ A5.out).mono ?_); rintro e w' ⟨rfl, ⟨nd, rfl⟩⟩; refine ⟨_, rfl, ?_⟩; have p243 : 0 ≤ (x3_1 : Int) := of_decide_eq_true (by first | (with_reducible assumption) | assumption); have q243 : x3_1 < (l0.length : Int) := of_decide_eq_true (by first | (with_reducible assumption) | assumption); obtain ⟨ad243, e243, hx243_0, hx243_1⟩ := at_T113 HR0.out x3_1 p243 q243; obtain rfl : ad241 = ad243 := (by injection e243); replace p243 := eq_true p243; replace q243 := eq_true q243))
                go_roundg k1
                case measure => have := HK1.out; omega
                case rel => exact ⟨(wrap64 (x3_1 + 1)), (by first | rfl | (simp; done) | (simp [*]; done)), H', ⟨by have := HK1.out; omega⟩, by repeat (first | exact Drawn0.refl _ | apply Drawn0.step)⟩
            · replace c6 := Bool.eq_false_iff.mpr c6
              subst c6
              have H1 : (some false) = some r := by rw [if_neg (show ¬ (false = true) by decide)] at H; exact H
              clear H
              have H := H1
              clear H1
              obtain rfl := Option.some.inj H
              have p241 : 0 ≤ (x3_1 : Int) := of_decide_eq_true (by first | (with_reducible assumption) | assumption)
              have q241 : x3_1 < (l0.length : Int) := of_decide_eq_true (by first | (with_reducible assumption) | assumption)
              obtain ⟨ad241, e241, hx241_0, hx241_1⟩ := at_T113 HR0.out x3_1 p241 q241
              cases e241
              replace p241 := eq_true p241
              replace q241 := eq_true q241
              go_wp2_with (first | ((with_reducible refine gate_callee (f := 53) rfl ?_); refine goesL_ (some 18) rfl rfl Try.func53 (by kernel_rfl) rfl #[.int .i64 ((rd_T113 l0 x3_1).f0)] rfl (by (try simp only [List.map_toArray, List.map_cons, List.map_nil]); first | done | rfl | (simp only [List.length_drop, List.length_take]; rfl)) ?_; (with_reducible refine (weighhouseref17_in.calls ((rd_T113 l0 x3_1).f0) false _ A5.out).mono ?_); rintro e w' ⟨rfl, ⟨nd, rfl⟩⟩; refine ⟨_, rfl, ?_⟩))
              go_ret
              exact ⟨by first | rfl | (simp; done) | (simp [*]; done), by repeat (first | exact Drawn0.refl _ | apply Drawn0.step)⟩
          · rw [if_neg c4] at H
            exact absurd H (by simp)
        · rw [if_neg c3] at H
          have c3b0 : decide (x3_1 < (l0.length : Int)) = false := decide_eq_false c3
          clear c3
          obtain rfl := Option.some.inj H
          go_wp2
          go_ret
          exact ⟨by first | rfl | (simp; done) | (simp [*]; done), by repeat (first | exact Drawn0.refl _ | apply Drawn0.step)⟩

end Go.Proofs.Ytlmlkcobkmhmbaa.Q
end

section
-- written by hprint.py (a program of these sessions) out of the translation; Lean checks it
namespace Go.Proofs.Ytlmlkcobkmhmbaa.Q
open Go.RowKit Go.Proofs.YtlmlkcobkmhmbaaW.Hb Go.Proofs.YtlmlkcobkmhmbaaW.PrintWords Go.Proofs.YtlmlkcobkmhmbaaW.PrintLast Go.Proofs.YtlmlkcobkmhmbaaW.PrintMore
attribute [local go_sem] max2_int min2_int max_two min_two max_three min_three max_four min_four   -- for this text's walks alone
set_option linter.unusedVariables false
set_option linter.unusedSimpArgs false

/-! ### weighhouseref17_RightRecord: function 22 -/
def weighhouseref17_RightRecord.f (k : Nat) (a0_0 : Int) (a0_1 : Int) (a0_2 : Int) (a0_3 : Int) (l0_4 : List (S113)) : Option (Bool) := if a0_0 ≥ 1 then (if a0_0 ≤ 3 then (if a0_0 = 2 then ((weighhouseref17_in.f a0_1).bind fun t245 => (if t245 = true then ((weighhouseref17_in.f a0_2).bind fun t246 => (if t246 = true then ((weighhouseref17_in.f a0_3).bind fun t247 => (if t247 = true then ((weighhouseref17_log.f k l0_4).bind fun t248 => (some t248)) else (some false))) else (some false))) else (some false))) else (if (l0_4.length : Int) = 0 then ((weighhouseref17_in.f a0_1).bind fun t249 => (if t249 = true then ((weighhouseref17_in.f a0_2).bind fun t250 => (if t250 = true then ((weighhouseref17_in.f a0_3).bind fun t251 => (if t251 = true then ((weighhouseref17_log.f k l0_4).bind fun t252 => (some t252)) else (some false))) else (some false))) else (some false))) else (some false))) else (some false)) else (some false)
theorem weighhouseref17_RightRecord.mono : ∀ a0 a1 a2 a3 a4 k, LeO (weighhouseref17_RightRecord.f k a0 a1 a2 a3 a4) (weighhouseref17_RightRecord.f (k + 1) a0 a1 a2 a3 a4) := by
  intro a0 a1 a2 a3 a4 k
  unfold weighhouseref17_RightRecord.f
  repeat' first
      | (with_reducible exact weighhouseref17_log.mono _ _)
      | (with_reducible exact LeO.refl _)
      | (with_reducible exact LeO.none _)
      | (with_reducible refine LeO.ite ?_ ?_)
      | (with_reducible refine LeO.bind ?_ (fun _ => ?_))
      | exact weighhouseref17_log.mono _ _
      | exact LeO.none _
      | refine LeO.ite ?_ ?_
      | refine LeO.bind ?_ (fun _ => ?_)
set_option maxHeartbeats 8000000 in
set_option maxRecDepth 100000 in
theorem weighhouseref17_RightRecord.calls (k : Nat) (a0_0 : Int) (a0_1 : Int) (a0_2 : Int) (a0_3 : Int) (A0_4 : Option Addr) (c0_4 : Nat) (l0_4 : List (S113)) (r : Bool) (w : World) (hr0_4 : Kd.C k113 w A0_4 l0_4.length l0_4) (hc0_4 : l0_4.length ≤ c0_4) (h : weighhouseref17_RightRecord.f k a0_0 a0_1 a0_2 a0_3 l0_4 = some r) :
    Calls Try.prog 22 #[.agg #[.int .i64 a0_0, .int .i64 a0_1, .int .i64 a0_2, .int .i64 a0_3, .slice A0_4 l0_4.length c0_4]] w fun e w' => e = .returned (.bool r) ∧ Below w.heap.size w w' := by
  have hu46 := Try.underlying46
  have HR0_4 := Aside0.mk hr0_4
  have HC0_4 := Aside0.mk hc0_4
  clear hr0_4 hc0_4
  have HB := Aside0.mk (Below.refl w.heap.size w)
  have H : (if a0_0 ≥ 1 then (if a0_0 ≤ 3 then (if a0_0 = 2 then ((weighhouseref17_in.f a0_1).bind fun t245 => (if t245 = true then ((weighhouseref17_in.f a0_2).bind fun t246 => (if t246 = true then ((weighhouseref17_in.f a0_3).bind fun t247 => (if t247 = true then ((weighhouseref17_log.f k l0_4).bind fun t248 => (some t248)) else (some false))) else (some false))) else (some false))) else (if (l0_4.length : Int) = 0 then ((weighhouseref17_in.f a0_1).bind fun t249 => (if t249 = true then ((weighhouseref17_in.f a0_2).bind fun t250 => (if t250 = true then ((weighhouseref17_in.f a0_3).bind fun t251 => (if t251 = true then ((weighhouseref17_log.f k l0_4).bind fun t252 => (some t252)) else (some false))) else (some false))) else (some false))) else (some false))) else (some false)) else (some false)) = some r := h
  clear h
  by_cases c2 : a0_0 ≥ 1
  · rw [if_pos c2] at H
    have c2b0 : decide (1 ≤ a0_0) = true := decide_eq_true c2
    clear c2
    by_cases c3 : a0_0 ≤ 3
    · rw [if_pos c3] at H
      have c3b0 : decide (a0_0 ≤ 3) = true := decide_eq_true c3
      clear c3
      by_cases c4 : a0_0 = 2
      · rw [if_pos c4] at H
        have c4b0 : (a0_0 == 2) = true := beq_iff_eq.mpr c4
        have c4b1 : (a0_0 != 2) = false := bne_eq_false_iff_eq.mpr c4
        clear c4
        replace H := Option.bind_eq_some_iff.mp H
        obtain ⟨t245, A50, H⟩ := H
        replace H : (if t245 = true then ((weighhouseref17_in.f a0_2).bind fun t246 => (if t246 = true then ((weighhouseref17_in.f a0_3).bind fun t247 => (if t247 = true then ((weighhouseref17_log.f k l0_4).bind fun t248 => (some t248)) else (some false))) else (some false))) else (some false)) = some r := H
        have A5 := Aside0.mk A50
        clear A50
        by_cases c6 : t245 = true
        · subst c6
          have H1 : ((weighhouseref17_in.f a0_2).bind fun t246 => (if t246 = true then ((weighhouseref17_in.f a0_3).bind fun t247 => (if t247 = true then ((weighhouseref17_log.f k l0_4).bind fun t248 => (some t248)) else (some false))) else (some false))) = some r := by rw [if_pos rfl] at H; exact H
          clear H
          have H := H1
          clear H1
          replace H := Option.bind_eq_some_iff.mp H
          obtain ⟨t246, A70, H⟩ := H
          replace H : (if t246 = true then ((weighhouseref17_in.f a0_3).bind fun t247 => (if t247 = true then ((weighhouseref17_log.f k l0_4).bind fun t248 => (some t248)) else (some false))) else (some false)) = some r := H
          have A7 := Aside0.mk A70
          clear A70
          by_cases c8 : t246 = true
          · subst c8
            have H1 : ((weighhouseref17_in.f a0_3).bind fun t247 => (if t247 = true then ((weighhouseref17_log.f k l0_4).bind fun t248 => (some t248)) else (some false))) = some r := by rw [if_pos rfl] at H; exact H
            clear H
            have H := H1
            clear H1
            replace H := Option.bind_eq_some_iff.mp H
            obtain ⟨t247, A90, H⟩ := H
            replace H : (if t247 = true then ((weighhouseref17_log.f k l0_4).bind fun t248 => (some t248)) else (some false)) = some r := H
            have A9 := Aside0.mk A90
            clear A90
            by_cases c10 : t247 = true
            · subst c10
              have H1 : ((weighhouseref17_log.f k l0_4).bind fun t248 => (some t248)) = some r := by rw [if_pos rfl] at H; exact H
              clear H
              have H := H1
              clear H1
              replace H := Option.bind_eq_some_iff.mp H
              obtain ⟨t248, A110, H⟩ := H
              replace H : (some t248) = some r := H
              have A11 := Aside0.mk A110
              clear A110
              obtain rfl := Option.some.inj H
              go_enter Try.func22, Try.ntmps22
              go_wp2_with (first | ((with_reducible refine gate_dst (N := 1) rfl ?_); (try (refine gate_guard (by rfl) ?_; dsimp only)); refine box_event ?hg (N := 1) ?hd (cs := #[.int .i64 a0_0, .int .i64 a0_1, .int .i64 a0_2, .int .i64 a0_3, .slice A0_4 l0_4.length c0_4]) (t := 46) ?hr ?_; (case hd => rfl); (case hg => rfl); (case hr => first | (go_simp; done) | (go_simp; rfl)); intro gb244 hg w12 hbox hb; have n0_ := Aside0.mk (below_step (by repeat (first | (with_reducible first | exact HB.out | apply below_alloc | apply pw_below_drewN | apply below_drew1) | exact HB.out)) hb); have n1_ := Aside0.mk (hbox); have n2_ := Aside0.mk ((by rw [hg]; exact (below_size (by repeat (first | (with_reducible first | exact HB.out | apply below_alloc | apply pw_below_drewN | apply below_drew1) | exact HB.out))) : w.heap.size ≤ gb244)); have n3_ := Aside0.mk ((by rw [hg]; exact (below_size (by repeat (first | (with_reducible first | exact HB.out | apply below_alloc | apply pw_below_drewN | apply below_drew1) | exact HB.out))) : w.heap.size ≤ gb244)); clear HB; have HB := n0_; have BK244 := n1_; have GW244 := n2_; have GE244 := n3_; clear n0_ n1_ n2_ n3_; clear hb hbox hg; have hcz13_0 : w12.cell? ⟨gb244, 0, none⟩ = some (.int .i64 a0_0) := (blk_cell BK244.out 0).trans rfl; have hcz13_1 : w12.cell? ⟨gb244, 1, none⟩ = some (.int .i64 a0_1) := (blk_cell BK244.out 1).trans rfl; have hcz13_2 : w12.cell? ⟨gb244, 2, none⟩ = some (.int .i64 a0_2) := (blk_cell BK244.out 2).trans rfl; have hcz13_3 : w12.cell? ⟨gb244, 3, none⟩ = some (.int .i64 a0_3) := (blk_cell BK244.out 3).trans rfl; have hcz13_4 : w12.cell? ⟨gb244, 4, none⟩ = some (.slice A0_4 l0_4.length c0_4) := (blk_cell BK244.out 4).trans rfl; have hfz13_0 := blk_frozen BK244.out 0; have hfz13_1 := blk_frozen BK244.out 1; have hfz13_2 := blk_frozen BK244.out 2; have hfz13_3 := blk_frozen BK244.out 3; have hfz13_4 := blk_frozen BK244.out 4) | (go_at_call 53; (with_reducible refine (weighhouseref17_in.calls a0_1 true _ A5.out).mono ?_); rintro e w' ⟨rfl, ⟨nd, rfl⟩⟩) | (go_at_call 53; (with_reducible refine (weighhouseref17_in.calls a0_2 true _ A7.out).mono ?_); rintro e w' ⟨rfl, ⟨nd, rfl⟩⟩) | (go_at_call 53; (with_reducible refine (weighhouseref17_in.calls a0_3 true _ A9.out).mono ?_); rintro e w' ⟨rfl, ⟨nd, rfl⟩⟩) | (go_at_call 54; (with_reducible refine (weighhouseref17_log.calls k _ _ l0_4 t248 _ ?side1 ?side2 A11.out).mono ?_); (case side1 => repeat (first | exact (Kd.C_below HR0_4.out (by repeat (first | (with_reducible first | exact HB.out | apply below_alloc | apply pw_below_drewN | apply below_drew1 | refine below_set ?_ GE244.out) | exact HB.out))) | (with_reducible refine Kd.C_alloc ?_ _) | (with_reducible refine Kd.C_drewN ?_ _) | (with_reducible refine Kd.C_drew ?_))); (case side2 => exact HC0_4.out); rintro e w' ⟨rfl, ⟨nd, rfl⟩⟩))
              go_ret
              exact ⟨by first | rfl | (simp [errW_none, errW_some] <;> rfl) | (simp [*, errW_none, errW_some] <;> rfl), by repeat (first | (with_reducible first | exact HB.out | apply below_alloc | apply pw_below_drewN | apply below_drew1 | refine below_set ?_ GE244.out) | exact HB.out)⟩
            · replace c10 := Bool.eq_false_iff.mpr c10
              subst c10
              have H1 : (some false) = some r := by rw [if_neg (show ¬ (false = true) by decide)] at H; exact H
              clear H
              have H := H1
              clear H1
              obtain rfl := Option.some.inj H
              go_enter Try.func22, Try.ntmps22
              go_wp2_with (first | ((with_reducible refine gate_dst (N := 1) rfl ?_); (try (refine gate_guard (by rfl) ?_; dsimp only)); refine box_event ?hg (N := 1) ?hd (cs := #[.int .i64 a0_0, .int .i64 a0_1, .int .i64 a0_2, .int .i64 a0_3, .slice A0_4 l0_4.length c0_4]) (t := 46) ?hr ?_; (case hd => rfl); (case hg => rfl); (case hr => first | (go_simp; done) | (go_simp; rfl)); intro gb244 hg w14 hbox hb; have n0_ := Aside0.mk (below_step (by repeat (first | (with_reducible first | exact HB.out | apply below_alloc | apply pw_below_drewN | apply below_drew1) | exact HB.out)) hb); have n1_ := Aside0.mk (hbox); have n2_ := Aside0.mk ((by rw [hg]; exact (below_size (by repeat (first | (with_reducible first | exact HB.out | apply below_alloc | apply pw_below_drewN | apply below_drew1) | exact HB.out))) : w.heap.size ≤ gb244)); have n3_ := Aside0.mk ((by rw [hg]; exact (below_size (by repeat (first | (with_reducible first | exact HB.out | apply below_alloc | apply pw_below_drewN | apply below_drew1) | exact HB.out))) : w.heap.size ≤ gb244)); clear HB; have HB := n0_; have BK244 := n1_; have GW244 := n2_; have GE244 := n3_; clear n0_ n1_ n2_ n3_; clear hb hbox hg; have hcz15_0 : w14.cell? ⟨gb244, 0, none⟩ = some (.int .i64 a0_0) := (blk_cell BK244.out 0).trans rfl; have hcz15_1 : w14.cell? ⟨gb244, 1, none⟩ = some (.int .i64 a0_1) := (blk_cell BK244.out 1).trans rfl; have hcz15_2 : w14.cell? ⟨gb244, 2, none⟩ = some (.int .i64 a0_2) := (blk_cell BK244.out 2).trans rfl; have hcz15_3 : w14.cell? ⟨gb244, 3, none⟩ = some (.int .i64 a0_3) := (blk_cell BK244.out 3).trans rfl; have hcz15_4 : w14.cell? ⟨gb244, 4, none⟩ = some (.slice A0_4 l0_4.length c0_4) := (blk_cell BK244.out 4).trans rfl; have hfz15_0 := blk_frozen BK244.out 0; have hfz15_1 := blk_frozen BK244.out 1; have hfz15_2 := blk_frozen BK244.out 2; have hfz15_3 := blk_frozen BK244.out 3; have hfz15_4 := blk_frozen BK244.out 4) | (go_at_call 53; (with_reducible refine (weighhouseref17_in.calls a0_1 true _ A5.out).mono ?_); rintro e w' ⟨rfl, ⟨nd, rfl⟩⟩) | (go_at_call 53; (with_reducible refine (weighhouseref17_in.calls a0_2 true _ A7.out).mono ?_); rintro e w' ⟨rfl, ⟨nd, rfl⟩⟩) | (go_at_call 53; (with_reducible refine (weighhouseref17_in.calls a0_3 false _ A9.out).mono ?_); rintro e w' ⟨rfl, ⟨nd, rfl⟩⟩))
              go_ret
              exact ⟨by first | rfl | (simp [errW_none, errW_some] <;> rfl) | (simp [*, errW_none, errW_some] <;> rfl), by repeat (first | (with_reducible first | exact HB.out | apply below_alloc | apply pw_below_drewN | apply below_drew1 | refine below_set ?_ GE244.out) | exact HB.out)⟩
          · replace c8 := Bool.eq_false_iff.mpr c8
            subst c8
            have H1 : (some false) = some r := by rw [if_neg (show ¬ (false = true) by decide)] at H; exact H
            clear H
            have H := H1
            clear H1
            obtain rfl := Option.some.inj H
            go_enter Try.func22, Try.ntmps22
            go_wp2_with (first | ((with_reducible refine gate_dst (N := 1) rfl ?_); (try (refine gate_guard (by rfl) ?_; dsimp only)); refine box_event ?hg (N := 1) ?hd (cs := #[.int .i64 a0_0, .int .i64 a0_1, .int .i64 a0_2, .int .i64 a0_3, .slice A0_4 l0_4.length c0_4]) (t := 46) ?hr ?_; (case hd => rfl); (case hg => rfl); (case hr => first | (go_simp; done) | (go_simp; rfl)); intro gb244 hg w16 hbox hb; have n0_ := Aside0.mk (below_step (by repeat (first | (with_reducible first | exact HB.out | apply below_alloc | apply pw_below_drewN | apply below_drew1) | exact HB.out)) hb); have n1_ := Aside0.mk (hbox); have n2_ := Aside0.mk ((by rw [hg]; exact (below_size (by repeat (first | (with_reducible first | exact HB.out | apply below_alloc | apply pw_below_drewN | apply below_drew1) | exact HB.out))) : w.heap.size ≤ gb244)); have n3_ := Aside0.mk ((by rw [hg]; exact (below_size (by repeat (first | (with_reducible first | exact HB.out | apply below_alloc | apply pw_below_drewN | apply below_drew1) | exact HB.out))) : w.heap.size ≤ gb244)); clear HB; have HB := n0_; have BK244 := n1_; have GW244 := n2_; have GE244 := n3_; clear n0_ n1_ n2_ n3_; clear hb hbox hg; have hcz17_0 : w16.cell? ⟨gb244, 0, none⟩ = some (.int .i64 a0_0) := (blk_cell BK244.out 0).trans rfl; have hcz17_1 : w16.cell? ⟨gb244, 1, none⟩ = some (.int .i64 a0_1) := (blk_cell BK244.out 1).trans rfl; have hcz17_2 : w16.cell? ⟨gb244, 2, none⟩ = some (.int .i64 a0_2) := (blk_cell BK244.out 2).trans rfl; have hcz17_3 : w16.cell? ⟨gb244, 3, none⟩ = some (.int .i64 a0_3) := (blk_cell BK244.out 3).trans rfl; have hcz17_4 : w16.cell? ⟨gb244, 4, none⟩ = some (.slice A0_4 l0_4.length c0_4) := (blk_cell BK244.out 4).trans rfl; have hfz17_0 := blk_frozen BK244.out 0; have hfz17_1 := blk_frozen BK244.out 1; have hfz17_2 := blk_frozen BK244.out 2; have hfz17_3 := blk_frozen BK244.out 3; have hfz17_4 := blk_frozen BK244.out 4) | (go_at_call 53; (with_reducible refine (weighhouseref17_in.calls a0_1 true _ A5.out).mono ?_); rintro e w' ⟨rfl, ⟨nd, rfl⟩⟩) | (go_at_call 53; (with_reducible refine (weighhouseref17_in.calls a0_2 false _ A7.out).mono ?_); rintro e w' ⟨rfl, ⟨nd, rfl⟩⟩))
            go_ret
            exact ⟨by first | rfl | (simp [errW_none, errW_some] <;> rfl) | (simp [*, errW_none, errW_some] <;> rfl), by repeat (first | (with_reducible first | exact HB.out | apply below_alloc | apply pw_below_drewN | apply below_drew1 | refine below_set ?_ GE244.out) | exact HB.out)⟩
        · replace c6 := Bool.eq_false_iff.mpr c6
          subst c6
          have H1 : (some false) = some r := by rw [if_neg (show ¬ (false = true) by decide)] at H; exact H
          clear H
          have H := H1
          clear H1
          obtain rfl := Option.some.inj H
          go_enter Try.func22, Try.ntmps22
          go_wp2_with (first | ((with_reducible refine gate_dst (N := 1) rfl ?_); (try (refine gate_guard (by rfl) ?_; dsimp only)); refine box_event ?hg (N := 1) ?hd (cs := #[.int .i64 a0_0, .int .i64 a0_1, .int .i64 a0_2, .int .i64 a0_3, .slice A0_4 l0_4.length c0_4]) (t := 46) ?hr ?_; (case hd => rfl); (case hg => rfl); (case hr => first | (go_simp; done) | (go_simp; rfl)); intro gb244 hg w18 hbox hb; have n0_ := Aside0.mk (below_step (by repeat (first | (with_reducible first | exact HB.out | apply below_alloc | apply pw_below_drewN | apply below_drew1) | exact HB.out)) hb); have n1_ := Aside0.mk (hbox); have n2_ := Aside0.mk ((by rw [hg]; exact (below_size (by repeat (first | (with_reducible first | exact HB.out | apply below_alloc | apply pw_below_drewN | apply below_drew1) | exact HB.out))) : w.heap.size ≤ gb244)); have n3_ := Aside0.mk ((by rw [hg]; exact (below_size (by repeat (first | (with_reducible first | exact HB.out | apply below_alloc | apply pw_below_drewN | apply below_drew1) | exact HB.out))) : w.heap.size ≤ gb244)); clear HB; have HB := n0_; have BK244 := n1_; have GW244 := n2_; have GE244 := n3_; clear n0_ n1_ n2_ n3_; clear hb hbox hg; have hcz19_0 : w18.cell? ⟨gb244, 0, none⟩ = some (.int .i64 a0_0) := (blk_cell BK244.out 0).trans rfl; have hcz19_1 : w18.cell? ⟨gb244, 1, none⟩ = some (.int .i64 a0_1) := (blk_cell BK244.out 1).trans rfl; have hcz19_2 : w18.cell? ⟨gb244, 2, none⟩ = some (.int .i64 a0_2) := (blk_cell BK244.out 2).trans rfl; have hcz19_3 : w18.cell? ⟨gb244, 3, none⟩ = some (.int .i64 a0_3) := (blk_cell BK244.out 3).trans rfl; have hcz19_4 : w18.cell? ⟨gb244, 4, none⟩ = some (.slice A0_4 l0_4.length c0_4) := (blk_cell BK244.out 4).trans rfl; have hfz19_0 := blk_frozen BK244.out 0; have hfz19_1 := blk_frozen BK244.out 1; have hfz19_2 := blk_frozen BK244.out 2; have hfz19_3 := blk_frozen BK244.out 3; have hfz19_4 := blk_frozen BK244.out 4) | (go_at_call 53; (with_reducible refine (weighhouseref17_in.calls a0_1 false _ A5.out).mono ?_); rintro e w' ⟨rfl, ⟨nd, rfl⟩⟩))
          go_ret
          exact ⟨by first | rfl | (simp [errW_none, errW_some] <;> rfl) | (simp [*, errW_none, errW_some] <;> rfl), by repeat (first | (with_reducible first | exact HB.out | apply below_alloc | apply pw_below_drewN | apply below_drew1 | refine below_set ?_ GE244.out) | exact HB.out)⟩
      · rw [if_neg c4] at H
        have c4b0 : (a0_0 == 2) = false := beq_eq_false_iff_ne.mpr c4
        have c4b1 : (a0_0 != 2) = true := bne_iff_ne.mpr c4
        by_cases c20 : (l0_4.length : Int) = 0
        · rw [if_pos c20] at H
          have c20b0 : ((l0_4.length : Int) == 0) = true := beq_iff_eq.mpr c20
          have c20b1 : ((l0_4.length : Int) != 0) = false := bne_eq_false_iff_eq.mpr c20
          clear c20
          replace H := Option.bind_eq_some_iff.mp H
          obtain ⟨t249, A210, H⟩ := H
          replace H : (if t249 = true then ((weighhouseref17_in.f a0_2).bind fun t250 => (if t250 = true then ((weighhouseref17_in.f a0_3).bind fun t251 => (if t251 = true then ((weighhouseref17_log.f k l0_4).bind fun t252 => (some t252)) else (some false))) else (some false))) else (some false)) = some r := H
          have A21 := Aside0.mk A210
          clear A210
          by_cases c22 : t249 = true
          · subst c22
            have H1 : ((weighhouseref17_in.f a0_2).bind fun t250 => (if t250 = true then ((weighhouseref17_in.f a0_3).bind fun t251 => (if t251 = true then ((weighhouseref17_log.f k l0_4).bind fun t252 => (some t252)) else (some false))) else (some false))) = some r := by rw [if_pos rfl] at H; exact H
            clear H
            have H := H1
            clear H1
            replace H := Option.bind_eq_some_iff.mp H
            obtain ⟨t250, A230, H⟩ := H
            replace H : (if t250 = true then ((weighhouseref17_in.f a0_3).bind fun t251 => (if t251 = true then ((weighhouseref17_log.f k l0_4).bind fun t252 => (some t252)) else (some false))) else (some false)) = some r := H
            have A23 := Aside0.mk A230
            clear A230
            by_cases c24 : t250 = true
            · subst c24
              have H1 : ((weighhouseref17_in.f a0_3).bind fun t251 => (if t251 = true then ((weighhouseref17_log.f k l0_4).bind fun t252 => (some t252)) else (some false))) = some r := by rw [if_pos rfl] at H; exact H
              clear H
              have H := H1
              clear H1
              replace H := Option.bind_eq_some_iff.mp H
              obtain ⟨t251, A250, H⟩ := H
              replace H : (if t251 = true then ((weighhouseref17_log.f k l0_4).bind fun t252 => (some t252)) else (some false)) = some r := H
              have A25 := Aside0.mk A250
              clear A250
              by_cases c26 : t251 = true
              · subst c26
                have H1 : ((weighhouseref17_log.f k l0_4).bind fun t252 => (some t252)) = some r := by rw [if_pos rfl] at H; exact H
                clear H
                have H := H1
                clear H1
                replace H := Option.bind_eq_some_iff.mp H
                obtain ⟨t252, A270, H⟩ := H
                replace H : (some t252) = some r := H
                have A27 := Aside0.mk A270
                clear A270
                obtain rfl := Option.some.inj H
                go_enter Try.func22, Try.ntmps22
                go_wp2_with (first | ((with_reducible refine gate_dst (N := 1) rfl ?_); (try (refine gate_guard (by rfl) ?_; dsimp only)); refine box_event ?hg (N := 1) ?hd (cs := #[.int .i64 a0_0, .int .i64 a0_1, .int .i64 a0_2, .int .i64 a0_3, .slice A0_4 l0_4.length c0_4]) (t := 46) ?hr ?_; (case hd => rfl); (case hg => rfl); (case hr => first | (go_simp; done) | (go_simp; rfl)); intro gb244 hg w28 hbox hb; have n0_ := Aside0.mk (below_step (by repeat (first | (with_reducible first | exact HB.out | apply below_alloc | apply pw_below_drewN | apply below_drew1) | exact HB.out)) hb); have n1_ := Aside0.mk (hbox); have n2_ := Aside0.mk ((by rw [hg]; exact (below_size (by repeat (first | (with_reducible first | exact HB.out | apply below_alloc | apply pw_below_drewN | apply below_drew1) | exact HB.out))) : w.heap.size ≤ gb244)); have n3_ := Aside0.mk ((by rw [hg]; exact (below_size (by repeat (first | (with_reducible first | exact HB.out | apply below_alloc | apply pw_below_drewN | apply below_drew1) | exact HB.out))) : w.heap.size ≤ gb244)); clear HB; have HB := n0_; have BK244 := n1_; have GW244 := n2_; have GE244 := n3_; clear n0_ n1_ n2_ n3_; clear hb hbox hg; have hcz29_0 : w28.cell? ⟨gb244, 0, none⟩ = some (.int .i64 a0_0) := (blk_cell BK244.out 0).trans rfl; have hcz29_1 : w28.cell? ⟨gb244, 1, none⟩ = some (.int .i64 a0_1) := (blk_cell BK244.out 1).trans rfl; have hcz29_2 : w28.cell? ⟨gb244, 2, none⟩ = some (.int .i64 a0_2) := (blk_cell BK244.out 2).trans rfl; have hcz29_3 : w28.cell? ⟨gb244, 3, none⟩ = some (.int .i64 a0_3) := (blk_cell BK244.out 3).trans rfl; have hcz29_4 : w28.cell? ⟨gb244, 4, none⟩ = some (.slice A0_4 l0_4.length c0_4) := (blk_cell BK244.out 4).trans rfl; have hfz29_0 := blk_frozen BK244.out 0; have hfz29_1 := blk_frozen BK244.out 1; have hfz29_2 := blk_frozen BK244.out 2; have hfz29_3 := blk_frozen BK244.out 3; have hfz29_4 := blk_frozen BK244.out 4) | (go_at_call 53; (with_reducible refine (weighhouseref17_in.calls a0_1 true _ A21.out).mono ?_); rintro e w' ⟨rfl, ⟨nd, rfl⟩⟩) | (go_at_call 53; (with_reducible refine (weighhouseref17_in.calls a0_2 true _ A23.out).mono ?_); rintro e w' ⟨rfl, ⟨nd, rfl⟩⟩) | (go_at_call 53; (with_reducible refine (weighhouseref17_in.calls a0_3 true _ A25.out).mono ?_); rintro e w' ⟨rfl, ⟨nd, rfl⟩⟩) | (go_at_call 54; (with_reducible refine (weighhouseref17_log.calls k _ _ l0_4 t252 _ ?side1 ?side2 A27.out).mono ?_); (case side1 => repeat (first | exact (Kd.C_below HR0_4.out (by repeat (first | (with_reducible first | exact HB.out | apply below_alloc | apply pw_below_drewN | apply below_drew1 | refine below_set ?_ GE244.out) | exact HB.out))) | (with_reducible refine Kd.C_alloc ?_ _) | (with_reducible refine Kd.C_drewN ?_ _) | (with_reducible refine Kd.C_drew ?_))); (case side2 => exact HC0_4.out); rintro e w' ⟨rfl, ⟨nd, rfl⟩⟩))
                go_ret
                exact ⟨by first | rfl | (simp [errW_none, errW_some] <;> rfl) | (simp [*, errW_none, errW_some] <;> rfl), by repeat (first | (with_reducible first | exact HB.out | apply below_alloc | apply pw_below_drewN | apply below_drew1 | refine below_set ?_ GE244.out) | exact HB.out)⟩
              · replace c26 := Bool.eq_false_iff.mpr c26
                subst c26
                have H1 : (some false) = some r := by rw [if_neg (show ¬ (false = true) by decide)] at H; exact H
                clear H
                have H := H1
                clear H1
                obtain rfl := Option.some.inj H
                go_enter Try.func22, Try.ntmps22
                go_wp2_with (first | ((with_reducible refine gate_dst (N := 1) rfl ?_); (try (refine gate_guard (by rfl) ?_; dsimp only)); refine box_event ?hg (N := 1) ?hd (cs := #[.int .i64 a0_0, .int .i64 a0_1, .int .i64 a0_2, .int .i64 a0_3, .slice A0_4 l0_4.length c0_4]) (t := 46) ?hr ?_; (case hd => rfl); (case hg => rfl); (case hr => first | (go_simp; done) | (go_simp; rfl)); intro gb244 hg w30 hbox hb; have n0_ := Aside0.mk (below_step (by repeat (first | (with_reducible first | exact HB.out | apply below_alloc | apply pw_below_drewN | apply below_drew1) | exact HB.out)) hb); have n1_ := Aside0.mk (hbox); have n2_ := Aside0.mk ((by rw [hg]; exact (below_size (by repeat (first | (with_reducible first | exact HB.out | apply below_alloc | apply pw_below_drewN | apply below_drew1) | exact HB.out))) : w.heap.size ≤ gb244)); have n3_ := Aside0.mk ((by rw [hg]; exact (below_size (by repeat (first | (with_reducible first | exact HB.out | apply below_alloc | apply pw_below_drewN | apply below_drew1) | exact HB.out))) : w.heap.size ≤ gb244)); clear HB; have HB := n0_; have BK244 := n1_; have GW244 := n2_; have GE244 := n3_; clear n0_ n1_ n2_ n3_; clear hb hbox hg; have hcz31_0 : w30.cell? ⟨gb244, 0, none⟩ = some (.int .i64 a0_0) := (blk_cell BK244.out 0).trans rfl; have hcz31_1 : w30.cell? ⟨gb244, 1, none⟩ = some (.int .i64 a0_1) := (blk_cell BK244.out 1).trans rfl; have hcz31_2 : w30.cell? ⟨gb244, 2, none⟩ = some (.int .i64 a0_2) := (blk_cell BK244.out 2).trans rfl; have hcz31_3 : w30.cell? ⟨gb244, 3, none⟩ = some (.int .i64 a0_3) := (blk_cell BK244.out 3).trans rfl; have hcz31_4 : w30.cell? ⟨gb244, 4, none⟩ = some (.slice A0_4 l0_4.length c0_4) := (blk_cell BK244.out 4).trans rfl; have hfz31_0 := blk_frozen BK244.out 0; have hfz31_1 := blk_frozen BK244.out 1; have hfz31_2 := blk_frozen BK244.out 2; have hfz31_3 := blk_frozen BK244.out 3; have hfz31_4 := blk_frozen BK244.out 4) | (go_at_call 53; (with_reducible refine (weighhouseref17_in.calls a0_1 true _ A21.out).mono ?_); rintro e w' ⟨rfl, ⟨nd, rfl⟩⟩) | (go_at_call 53; (with_reducible refine (weighhouseref17_in.calls a0_2 true _ A23.out).mono ?_); rintro e w' ⟨rfl, ⟨nd, rfl⟩⟩) | (go_at_call 53; (with_reducible refine (weighhouseref17_in.calls a0_3 false _ A25.out).mono ?_); rintro e w' ⟨rfl, ⟨nd, rfl⟩⟩))
                go_ret
                exact ⟨by first | rfl | (simp [errW_none, errW_some] <;> rfl) | (simp [*, errW_none, errW_some] <;> rfl), by repeat (first | (with_reducible first | exact HB.out | apply below_alloc | apply pw_below_drewN | apply below_drew1 | refine below_set ?_ GE244.out) | exact HB.out)⟩
            · replace c24 := Bool.eq_false_iff.mpr c24
              subst c24
              have H1 : (some false) = some r := by rw [if_neg (show ¬ (false = true) by decide)] at H; exact H
              clear H
              have H := H1
              clear H1
              obtain rfl := Option.some.inj H
              go_enter Try.func22, Try.ntmps22
              go_wp2_with (first | ((with_reducible refine gate_dst (N := 1) rfl ?_); (try (refine gate_guard (by rfl) ?_; dsimp only)); refine box_event ?hg (N := 1) ?hd (cs := #[.int .i64 a0_0, .int .i64 a0_1, .int .i64 a0_2, .int .i64 a0_3, .slice A0_4 l0_4.length c0_4]) (t := 46) ?hr ?_; (case hd => rfl); (case hg => rfl); (case hr => first | (go_simp; done) | (go_simp; rfl)); intro gb244 hg w32 hbox hb; have n0_ := Aside0.mk (below_step (by repeat (first | (with_reducible first | exact HB.out | apply below_alloc | apply pw_below_drewN | apply below_drew1) | exact HB.out)) hb); have n1_ := Aside0.mk (hbox); have n2_ := Aside0.mk ((by rw [hg]; exact (below_size (by repeat (first | (with_reducible first | exact HB.out | apply below_alloc | apply pw_below_drewN | apply below_drew1) | exact HB.out))) : w.heap.size ≤ gb244)); have n3_ := Aside0.mk ((by rw [hg]; exact (below_size (by repeat (first | (with_reducible first | exact HB.out | apply below_alloc | apply pw_below_drewN | apply below_drew1) | exact HB.out))) : w.heap.size ≤ gb244)); clear HB; have HB := n0_; have BK244 := n1_; have GW244 := n2_; have GE244 := n3_; clear n0_ n1_ n2_ n3_; clear hb hbox hg; have hcz33_0 : w32.cell? ⟨gb244, 0, none⟩ = some (.int .i64 a0_0) := (blk_cell BK244.out 0).trans rfl; have hcz33_1 : w32.cell? ⟨gb244, 1, none⟩ = some (.int .i64 a0_1) := (blk_cell BK244.out 1).trans rfl; have hcz33_2 : w32.cell? ⟨gb244, 2, none⟩ = some (.int .i64 a0_2) := (blk_cell BK244.out 2).trans rfl; have hcz33_3 : w32.cell? ⟨gb244, 3, none⟩ = some (.int .i64 a0_3) := (blk_cell BK244.out 3).trans rfl; have hcz33_4 : w32.cell? ⟨gb244, 4, none⟩ = some (.slice A0_4 l0_4.length c0_4) := (blk_cell BK244.out 4).trans rfl; have hfz33_0 := blk_frozen BK244.out 0; have hfz33_1 := blk_frozen BK244.out 1; have hfz33_2 := blk_frozen BK244.out 2; have hfz33_3 := blk_frozen BK244.out 3; have hfz33_4 := blk_frozen BK244.out 4) | (go_at_call 53; (with_reducible refine (weighhouseref17_in.calls a0_1 true _ A21.out).mono ?_); rintro e w' ⟨rfl, ⟨nd, rfl⟩⟩) | (go_at_call 53; (with_reducible refine (weighhouseref17_in.calls a0_2 false _ A23.out).mono ?_); rintro e w' ⟨rfl, ⟨nd, rfl⟩⟩))
              go_ret
              exact ⟨by first | rfl | (simp [errW_none, errW_some] <;> rfl) | (simp [*, errW_none, errW_some] <;> rfl), by repeat (first | (with_reducible first | exact HB.out | apply below_alloc | apply pw_below_drewN | apply below_drew1 | refine below_set ?_ GE244.out) | exact HB.out)⟩
          · replace c22 := Bool.eq_false_iff.mpr c22
            subst c22
            have H1 : (some false) = some r := by rw [if_neg (show ¬ (false = true) by decide)] at H; exact H
            clear H
            have H := H1
            clear H1
            obtain rfl := Option.some.inj H
            go_enter Try.func22, Try.ntmps22
            go_wp2_with (first | ((with_reducible refine gate_dst (N := 1) rfl ?_); (try (refine gate_guard (by rfl) ?_; dsimp only)); refine box_event ?hg (N := 1) ?hd (cs := #[.int .i64 a0_0, .int .i64 a0_1, .int .i64 a0_2, .int .i64 a0_3, .slice A0_4 l0_4.length c0_4]) (t := 46) ?hr ?_; (case hd => rfl); (case hg => rfl); (case hr => first | (go_simp; done) | (go_simp; rfl)); intro gb244 hg w34 hbox hb; have n0_ := Aside0.mk (below_step (by repeat (first | (with_reducible first | exact HB.out | apply below_alloc | apply pw_below_drewN | apply below_drew1) | exact HB.out)) hb); have n1_ := Aside0.mk (hbox); have n2_ := Aside0.mk ((by rw [hg]; exact (below_size (by repeat (first | (with_reducible first | exact HB.out | apply below_alloc | apply pw_below_drewN | apply below_drew1) | exact HB.out))) : w.heap.size ≤ gb244)); have n3_ := Aside0.mk ((by rw [hg]; exact (below_size (by repeat (first | (with_reducible first | exact HB.out | apply below_alloc | apply pw_below_drewN | apply below_drew1) | exact HB.out))) : w.heap.size ≤ gb244)); clear HB; have HB := n0_; have BK244 := n1_; have GW244 := n2_; have GE244 := n3_; clear n0_ n1_ n2_ n3_; clear hb hbox hg; have hcz35_0 : w34.cell? ⟨gb244, 0, none⟩ = some (.int .i64 a0_0) := (blk_cell BK244.out 0).trans rfl; have hcz35_1 : w34.cell? ⟨gb244, 1, none⟩ = some (.int .i64 a0_1) := (blk_cell BK244.out 1).trans rfl; have hcz35_2 : w34.cell? ⟨gb244, 2, none⟩ = some (.int .i64 a0_2) := (blk_cell BK244.out 2).trans rfl; have hcz35_3 : w34.cell? ⟨gb244, 3, none⟩ = some (.int .i64 a0_3) := (blk_cell BK244.out 3).trans rfl; have hcz35_4 : w34.cell? ⟨gb244, 4, none⟩ = some (.slice A0_4 l0_4.length c0_4) := (blk_cell BK244.out 4).trans rfl; have hfz35_0 := blk_frozen BK244.out 0; have hfz35_1 := blk_frozen BK244.out 1; have hfz35_2 := blk_frozen BK244.out 2; have hfz35_3 := blk_frozen BK244.out 3; have hfz35_4 := blk_frozen BK244.out 4) | (go_at_call 53; (with_reducible refine (weighhouseref17_in.calls a0_1 false _ A21.out).mono ?_); rintro e w' ⟨rfl, ⟨nd, rfl⟩⟩))
            go_ret
            exact ⟨by first | rfl | (simp [errW_none, errW_some] <;> rfl) | (simp [*, errW_none, errW_some] <;> rfl), by repeat (first | (with_reducible first | exact HB.out | apply below_alloc | apply pw_below_drewN | apply below_drew1 | refine below_set ?_ GE244.out) | exact HB.out)⟩
        · rw [if_neg c20] at H
          have c20b0 : ((l0_4.length : Int) == 0) = false := beq_eq_false_iff_ne.mpr c20
          have c20b1 : ((l0_4.length : Int) != 0) = true := bne_iff_ne.mpr c20
          have c20b2 : ¬ (l0_4 = []) := fun h_ => c20 (by rw [h_]; rfl)
          obtain rfl := Option.some.inj H
          go_enter Try.func22, Try.ntmps22
          go_wp2_with (first | ((with_reducible refine gate_dst (N := 1) rfl ?_); (try (refine gate_guard (by rfl) ?_; dsimp only)); refine box_event ?hg (N := 1) ?hd (cs := #[.int .i64 a0_0, .int .i64 a0_1, .int .i64 a0_2, .int .i64 a0_3, .slice A0_4 l0_4.length c0_4]) (t := 46) ?hr ?_; (case hd => rfl); (case hg => rfl); (case hr => first | (go_simp; done) | (go_simp; rfl)); intro gb244 hg w36 hbox hb; have n0_ := Aside0.mk (below_step (by repeat (first | (with_reducible first | exact HB.out | apply below_alloc | apply pw_below_drewN | apply below_drew1) | exact HB.out)) hb); have n1_ := Aside0.mk (hbox); have n2_ := Aside0.mk ((by rw [hg]; exact (below_size (by repeat (first | (with_reducible first | exact HB.out | apply below_alloc | apply pw_below_drewN | apply below_drew1) | exact HB.out))) : w.heap.size ≤ gb244)); have n3_ := Aside0.mk ((by rw [hg]; exact (below_size (by repeat (first | (with_reducible first | exact HB.out | apply below_alloc | apply pw_below_drewN | apply below_drew1) | exact HB.out))) : w.heap.size ≤ gb244)); clear HB; have HB := n0_; have BK244 := n1_; have GW244 := n2_; have GE244 := n3_; clear n0_ n1_ n2_ n3_; clear hb hbox hg; have hcz37_0 : w36.cell? ⟨gb244, 0, none⟩ = some (.int .i64 a0_0) := (blk_cell BK244.out 0).trans rfl; have hcz37_1 : w36.cell? ⟨gb244, 1, none⟩ = some (.int .i64 a0_1) := (blk_cell BK244.out 1).trans rfl; have hcz37_2 : w36.cell? ⟨gb244, 2, none⟩ = some (.int .i64 a0_2) := (blk_cell BK244.out 2).trans rfl; have hcz37_3 : w36.cell? ⟨gb244, 3, none⟩ = some (.int .i64 a0_3) := (blk_cell BK244.out 3).trans rfl; have hcz37_4 : w36.cell? ⟨gb244, 4, none⟩ = some (.slice A0_4 l0_4.length c0_4) := (blk_cell BK244.out 4).trans rfl; have hfz37_0 := blk_frozen BK244.out 0; have hfz37_1 := blk_frozen BK244.out 1; have hfz37_2 := blk_frozen BK244.out 2; have hfz37_3 := blk_frozen BK244.out 3; have hfz37_4 := blk_frozen BK244.out 4))
          go_ret
          exact ⟨by first | rfl | (simp [errW_none, errW_some] <;> rfl) | (simp [*, errW_none, errW_some] <;> rfl), by repeat (first | (with_reducible first | exact HB.out | apply below_alloc | apply pw_below_drewN | apply below_drew1 | refine below_set ?_ GE244.out) | exact HB.out)⟩
    · rw [if_neg c3] at H
      have c3b0 : decide (a0_0 ≤ 3) = false := decide_eq_false c3
      clear c3
      obtain rfl := Option.some.inj H
      go_enter Try.func22, Try.ntmps22
      go_wp2_with (first | ((with_reducible refine gate_dst (N := 1) rfl ?_); (try (refine gate_guard (by rfl) ?_; dsimp only)); refine box_event ?hg (N := 1) ?hd (cs := #[.int .i64 a0_0, .int .i64 a0_1, .int .i64 a0_2, .int .i64 a0_3, .slice A0_4 l0_4.length c0_4]) (t := 46) ?hr ?_; (case hd => rfl); (case hg => rfl); (case hr => first | (go_simp; done) | (go_simp; rfl)); intro gb244 hg w38 hbox hb; have n0_ := Aside0.mk (below_step (by repeat (first | (with_reducible first | exact HB.out | apply below_alloc | apply pw_below_drewN | apply below_drew1) | exact HB.out)) hb); have n1_ := Aside0.mk (hbox); have n2_ := Aside0.mk ((by rw [hg]; exact (below_size (by repeat (first | (with_reducible first | exact HB.out | apply below_alloc | apply pw_below_drewN | apply below_drew1) | exact HB.out))) : w.heap.size ≤ gb244)); have n3_ := Aside0.mk ((by rw [hg]; exact (below_size (by repeat (first | (with_reducible first | exact HB.out | apply below_alloc | apply pw_below_drewN | apply below_drew1) | exact HB.out))) : w.heap.size ≤ gb244)); clear HB; have HB := n0_; have BK244 := n1_; have GW244 := n2_; have GE244 := n3_; clear n0_ n1_ n2_ n3_; clear hb hbox hg; have hcz39_0 : w38.cell? ⟨gb244, 0, none⟩ = some (.int .i64 a0_0) := (blk_cell BK244.out 0).trans rfl; have hcz39_1 : w38.cell? ⟨gb244, 1, none⟩ = some (.int .i64 a0_1) := (blk_cell BK244.out 1).trans rfl; have hcz39_2 : w38.cell? ⟨gb244, 2, none⟩ = some (.int .i64 a0_2) := (blk_cell BK244.out 2).trans rfl; have hcz39_3 : w38.cell? ⟨gb244, 3, none⟩ = some (.int .i64 a0_3) := (blk_cell BK244.out 3).trans rfl; have hcz39_4 : w38.cell? ⟨gb244, 4, none⟩ = some (.slice A0_4 l0_4.length c0_4) := (blk_cell BK244.out 4).trans rfl; have hfz39_0 := blk_frozen BK244.out 0; have hfz39_1 := blk_frozen BK244.out 1; have hfz39_2 := blk_frozen BK244.out 2; have hfz39_3 := blk_frozen BK244.out 3; have hfz39_4 := blk_frozen BK244.out 4))
      go_ret
      exact ⟨by first | rfl | (simp [errW_none, errW_some] <;> rfl) | (simp [*, errW_none, errW_some] <;> rfl), by repeat (first | (with_reducible first | exact HB.out | apply below_alloc | apply pw_below_drewN | apply below_drew1 | refine below_set ?_ GE244.out) | exact HB.out)⟩
  · rw [if_neg c2] at H
    have c2b0 : decide (1 ≤ a0_0) = false := decide_eq_false c2
    clear c2
    obtain rfl := Option.some.inj H
    go_enter Try.func22, Try.ntmps22
    go_wp2_with (first | ((with_reducible refine gate_dst (N := 1) rfl ?_); (try (refine gate_guard (by rfl) ?_; dsimp only)); refine box_event ?hg (N := 1) ?hd (cs := #[.int .i64 a0_0, .int .i64 a0_1, .int .i64 a0_2, .int .i64 a0_3, .slice A0_4 l0_4.length c0_4]) (t := 46) ?hr ?_; (case hd => rfl); (case hg => rfl); (case hr => first | (go_simp; done) | (go_simp; rfl)); intro gb244 hg w40 hbox hb; have n0_ := Aside0.mk (below_step (by repeat (first | (with_reducible first | exact HB.out | apply below_alloc | apply pw_below_drewN | apply below_drew1) | exact HB.out)) hb); have n1_ := Aside0.mk (hbox); have n2_ := Aside0.mk ((by rw [hg]; exact (below_size (by repeat (first | (with_reducible first | exact HB.out | apply below_alloc | apply pw_below_drewN | apply below_drew1) | exact HB.out))) : w.heap.size ≤ gb244)); have n3_ := Aside0.mk ((by rw [hg]; exact (below_size (by repeat (first | (with_reducible first | exact HB.out | apply below_alloc | apply pw_below_drewN | apply below_drew1) | exact HB.out))) : w.heap.size ≤ gb244)); clear HB; have HB := n0_; have BK244 := n1_; have GW244 := n2_; have GE244 := n3_; clear n0_ n1_ n2_ n3_; clear hb hbox hg; have hcz41_0 : w40.cell? ⟨gb244, 0, none⟩ = some (.int .i64 a0_0) := (blk_cell BK244.out 0).trans rfl; have hcz41_1 : w40.cell? ⟨gb244, 1, none⟩ = some (.int .i64 a0_1) := (blk_cell BK244.out 1).trans rfl; have hcz41_2 : w40.cell? ⟨gb244, 2, none⟩ = some (.int .i64 a0_2) := (blk_cell BK244.out 2).trans rfl; have hcz41_3 : w40.cell? ⟨gb244, 3, none⟩ = some (.int .i64 a0_3) := (blk_cell BK244.out 3).trans rfl; have hcz41_4 : w40.cell? ⟨gb244, 4, none⟩ = some (.slice A0_4 l0_4.length c0_4) := (blk_cell BK244.out 4).trans rfl; have hfz41_0 := blk_frozen BK244.out 0; have hfz41_1 := blk_frozen BK244.out 1; have hfz41_2 := blk_frozen BK244.out 2; have hfz41_3 := blk_frozen BK244.out 3; have hfz41_4 := blk_frozen BK244.out 4))
    go_ret
    exact ⟨by first | rfl | (simp [errW_none, errW_some] <;> rfl) | (simp [*, errW_none, errW_some] <;> rfl), by repeat (first | (with_reducible first | exact HB.out | apply below_alloc | apply pw_below_drewN | apply below_drew1 | refine below_set ?_ GE244.out) | exact HB.out)⟩

end Go.Proofs.Ytlmlkcobkmhmbaa.Q
end

section
-- written by hprint.py (a program of these sessions) out of the translation; Lean checks it
namespace Go.Proofs.Ytlmlkcobkmhmbaa.Q
open Go.RowKit Go.Proofs.YtlmlkcobkmhmbaaW.Hb Go.Proofs.YtlmlkcobkmhmbaaW.PrintWords Go.Proofs.YtlmlkcobkmhmbaaW.PrintLast Go.Proofs.YtlmlkcobkmhmbaaW.PrintMore
attribute [local go_sem] max2_int min2_int max_two min_two max_three min_three max_four min_four   -- for this text's walks alone
set_option linter.unusedVariables false
set_option linter.unusedSimpArgs false

/-! ### weighhouseref01_Number: function 62 -/
def weighhouseref01_Number.l0 : Nat → Int → List Int → Int → Option (List Int)
  | 0, _, _, _ => none
  | k + 1, x0, x3, x4 => if x4 ≥ 0 then (if 0 ≤ (IntKind.u64.wrap (x4)) then (if x3.length < 140737488355328 then (weighhouseref01_Number.l0 k x0 (x3 ++ [(shr .u64 (IntKind.u64.wrap (x0)) (IntKind.u64.wrap (x4))) % 256]) (wrap64 (x4 - 8))) else (none)) else (none)) else (some x3)
def weighhouseref01_Number.f (k : Nat) (a0 : Int) : Option (List Int) := weighhouseref01_Number.l0 k a0 ([] : List Int) 56
theorem weighhouseref01_Number.mono_l : ∀ k, (∀ y0 y1 y2, LeO (weighhouseref01_Number.l0 k y0 y1 y2) (weighhouseref01_Number.l0 (k + 1) y0 y1 y2))
  | 0 => fun _ _ _ r h => by simp [weighhouseref01_Number.l0] at h
  | k + 1 => by
    have ih0 := weighhouseref01_Number.mono_l k
    · intro y0 y1 y2
      unfold weighhouseref01_Number.l0
      repeat' first
      | (with_reducible exact ih0 _ _ _)
      | (with_reducible exact LeO.refl _)
      | (with_reducible exact LeO.none _)
      | (with_reducible refine LeO.ite ?_ ?_)
      | (with_reducible refine LeO.bind ?_ (fun _ => ?_))
      | exact ih0 _ _ _
      | exact LeO.none _
      | refine LeO.ite ?_ ?_
      | refine LeO.bind ?_ (fun _ => ?_)
theorem weighhouseref01_Number.mono : ∀ a0 k, LeO (weighhouseref01_Number.f k a0) (weighhouseref01_Number.f (k + 1) a0) := by
  intro a0 k
  have ih0 := weighhouseref01_Number.mono_l k
  unfold weighhouseref01_Number.f
  repeat' first
      | (with_reducible exact ih0 _ _ _)
      | (with_reducible exact LeO.refl _)
      | (with_reducible exact LeO.none _)
      | (with_reducible refine LeO.ite ?_ ?_)
      | (with_reducible refine LeO.bind ?_ (fun _ => ?_))
      | exact ih0 _ _ _
      | exact LeO.none _
      | refine LeO.ite ?_ ?_
      | refine LeO.bind ?_ (fun _ => ?_)
set_option maxHeartbeats 8000000 in
set_option maxRecDepth 100000 in
theorem weighhouseref01_Number.calls (k : Nat) (a0 : Int) (r : List Int) (w : World) (h : weighhouseref01_Number.f k a0 = some r) :
    Calls Try.prog 62 #[.int .i64 a0] w fun e w' => ∃ v0_ : Value, e = .returned (v0_) ∧ Kd.R (Kd.int .u8) 5 w' w.heap.size (fun _ => True) v0_ r ∧ Below w.heap.size w w' := by
  have HB := Aside0.mk (Below.refl w.heap.size w)
  have H : (weighhouseref01_Number.l0 k a0 ([] : List Int) 56) = some r := h
  clear h
  have H' := Aside0.mk H
  clear H
  go_enter Try.func62, Try.ntmps62
  go_wp2
  go_loopg [3, 4] k (fun kq v3 v4 w' => ∃ (x3_1 : List Int) (x4_1 : Int), v4 = .int .i64 x4_1 ∧ Aside0 (weighhouseref01_Number.l0 kq a0 x3_1 x4_1 = some r) ∧ Aside0 (kq ≤ k) ∧ Aside0 (Kd.R (Kd.int .u8) 5 w' w.heap.size (fun _ => True) v3 x3_1) ∧ Aside0 (Below w.heap.size w w'))
  case atStart => exact ⟨(([] : List Int)), (56), (by first | rfl | (simp; done) | (simp [*]; done)), H', ⟨Nat.le_refl _⟩, ⟨by first | exact Kd.R_nil _ _ _ _ _ | exact Kd.N_nil _ _ _ _ _ | exact Kd.V_nil _ _ _ _ _ | exact Kd.Q_nil _ _ _ _ _ | exact Kd.S_nil _ _ _ _ _⟩, ⟨by repeat (first | (with_reducible first | exact HB.out | apply below_alloc | apply pw_below_drewN | apply below_drew1) | exact HB.out)⟩⟩
  case round =>
    clear H'
    obtain ⟨x3_1, x4_1, rfl, HA, HK1, HO_3, HB⟩ := hrel
    cases gk with
    | zero => exact absurd HA.out (by simp [weighhouseref01_Number.l0])
    | succ k1 =>
      have H := HA.out
      clear HA
      simp only [weighhouseref01_Number.l0] at H
      by_cases c2 : x4_1 ≥ 0
      · rw [if_pos c2] at H
        have c2b0 : decide (0 ≤ x4_1) = true := decide_eq_true c2
        clear c2
        obtain ⟨ji3, hji3⟩ : ∃ j_ : Int, (IntKind.u64.wrap (x4_1)) = j_ := ⟨_, rfl⟩
        replace H : (if 0 ≤ (ji3) then (if x3_1.length < 140737488355328 then (weighhouseref01_Number.l0 k1 a0 (x3_1 ++ [(shr .u64 (IntKind.u64.wrap (a0)) (ji3)) % 256]) (wrap64 (x4_1 - 8))) else (none)) else (none)) = some r := by first | (rw [hji3] at H; exact H) | (simp only [hji3] at H ⊢; exact H)
        by_cases c4 : 0 ≤ (ji3)
        · rw [if_pos c4] at H
          have c4b0 := eq_true c4
          have c4b1 : decide (0 ≤ (ji3)) = true := decide_eq_true c4
          clear c4
          obtain ⟨ji5, hji5⟩ : ∃ j_ : Int, (shr .u64 (IntKind.u64.wrap (a0)) (ji3)) = j_ := ⟨_, rfl⟩
          replace H : (if x3_1.length < 140737488355328 then (weighhouseref01_Number.l0 k1 a0 (x3_1 ++ [(ji5) % 256]) (wrap64 (x4_1 - 8))) else (none)) = some r := by first | (rw [hji5] at H; exact H) | (simp only [hji5] at H ⊢; exact H)
          have hji5_ : ((IntKind.u64.wrap (a0)) / 2 ^ min (ji3).toNat 64) = ji5 := hji5
          have hji5z : (ji3) ≤ 64 → ((IntKind.u64.wrap (a0)) / 2 ^ (ji3).toNat) = ji5 := shr_small hji5
          by_cases c6 : x3_1.length < 140737488355328
          · rw [if_pos c6] at H
            have LMc6 := Aside0.mk c6
            clear c6
            obtain ⟨y253, hy253⟩ : ∃ y_ : List Int, y_ = (x3_1 ++ [(ji5) % 256]) := ⟨_, rfl⟩
            replace H : (weighhouseref01_Number.l0 k1 a0 y253 (wrap64 (x4_1 - 8))) = some r := by first | (rw [hy253]; with_reducible exact H) | (have H2_ := (Option.bind_some _ _).symm.trans H; rw [hy253]; with_reducible exact H2_) | (have H2_ := (Option.bind_some _ _).symm.trans H; with_reducible exact H2_) | with_reducible exact H | (rw [hy253]; exact H) | exact H
            have Ny253 := Aside0.mk hy253
            clear hy253
            have H' := Aside0.mk H
            clear H
            go_wp2_with (first | ((with_reducible refine gate_builtin (b := .append) (xs := #[.tmp 9, .tmp 16]) rfl ?_); at_builtin; refine Kd.R_append (Kd.int .u8) (w0 := w) w.heap.size rfl (.tmp 9) (.tmp 16) 35 5 (.int .u8 0) 1 rfl Try.underlying35 info5 rfl (by decide) (by omega) u3 x3_1 ((ji5) % 256) [.int .u8 ((ji5) % 256)] (fun _ => True) (fun _ => False) rfl rfl ?aP (fun _ hk => hk.elim) ?aF ?aO ?aB ?aS ?aL ?_; (case aP => exact rfl); (case aB => exact (by repeat (first | (with_reducible first | exact HB.out | apply below_alloc | apply pw_below_drewN | apply below_drew1) | exact HB.out))); (case aF => exact (fun _ _ => trivial)); (case aO => exact (by (with_reducible repeat (first | apply Kd.R_alloc | apply Kd.R_drewN | apply Kd.R_drew)); exact HO_3.out)); (case aS => exact (below_size (by repeat (first | (with_reducible first | exact HB.out | apply below_alloc | apply pw_below_drewN | apply below_drew1) | exact HB.out)))); (case aL => have := LMc6.out; omega); intro v254 w7 ho hb hg hat; rw [← Ny253.out] at ho; have n0_ := Aside0.mk (hb); have n1_ := Aside0.mk (ho); clear HB; clear HO_3; have HB := n0_; have HO255 := n1_; clear n0_ n1_; clear ho hb hg hat))
            go_roundg k1
            case measure => have := HK1.out; omega
            case rel => exact ⟨(y253), (wrap64 (x4_1 - 8)), (by first | rfl | (simp; done) | (simp [*]; done)), H', ⟨by have := HK1.out; omega⟩, ⟨by (with_reducible repeat (first | apply Kd.R_alloc | apply Kd.R_drewN | apply Kd.R_drew)); exact HO255.out⟩, ⟨by repeat (first | (with_reducible first | exact HB.out | apply below_alloc | apply pw_below_drewN | apply below_drew1) | exact HB.out)⟩⟩
          · rw [if_neg c6] at H
            exact absurd H (by simp)
        · rw [if_neg c4] at H
          exact absurd H (by simp)
      · rw [if_neg c2] at H
        have c2b0 : decide (0 ≤ x4_1) = false := decide_eq_false c2
        clear c2
        obtain rfl := Option.some.inj H
        go_wp2
        go_ret
        exact ⟨_, by first | rfl | (simp [errW_none, errW_some] <;> rfl) | (simp [*, errW_none, errW_some] <;> rfl), by (with_reducible repeat (first | apply Kd.R_alloc | apply Kd.R_drewN | apply Kd.R_drew)); exact HO_3.out, by repeat (first | (with_reducible first | exact HB.out | apply below_alloc | apply pw_below_drewN | apply below_drew1) | exact HB.out)⟩

end Go.Proofs.Ytlmlkcobkmhmbaa.Q
end

section
-- written by hprint.py (a program of these sessions) out of the translation; Lean checks it
namespace Go.Proofs.Ytlmlkcobkmhmbaa.Q
open Go.RowKit Go.Proofs.YtlmlkcobkmhmbaaW.Hb Go.Proofs.YtlmlkcobkmhmbaaW.PrintWords Go.Proofs.YtlmlkcobkmhmbaaW.PrintLast Go.Proofs.YtlmlkcobkmhmbaaW.PrintMore
attribute [local go_sem] max2_int min2_int max_two min_two max_three min_three max_four min_four   -- for this text's walks alone
set_option linter.unusedVariables false
set_option linter.unusedSimpArgs false

/-! ### weighhouseref17_numbers: function 39 -/
def weighhouseref17_numbers.l0 : Nat → List Int → List Int → Int → Option (List Int)
  | 0, _, _, _ => none
  | k + 1, x0, x3, x4 => if x4 < (x0.length : Int) then (if 0 ≤ x4 then ((weighhouseref01_Number.f k (rd x0 x4)).bind fun t257 => (if x3.length + t257.length < 140737488355328 then (weighhouseref17_numbers.l0 k x0 (x3 ++ t257) (wrap64 (x4 + 1))) else (none))) else (none)) else (some x3)
def weighhouseref17_numbers.f (k : Nat) (l0 : List Int) : Option (List Int) := weighhouseref17_numbers.l0 k l0 ([] : List Int) 0
theorem weighhouseref17_numbers.mono_l : ∀ k, (∀ y0 y1 y2, LeO (weighhouseref17_numbers.l0 k y0 y1 y2) (weighhouseref17_numbers.l0 (k + 1) y0 y1 y2))
  | 0 => fun _ _ _ r h => by simp [weighhouseref17_numbers.l0] at h
  | k + 1 => by
    have ih0 := weighhouseref17_numbers.mono_l k
    · intro y0 y1 y2
      unfold weighhouseref17_numbers.l0
      repeat' first
      | (with_reducible exact ih0 _ _ _)
      | (with_reducible exact weighhouseref01_Number.mono _ _)
      | (with_reducible exact LeO.refl _)
      | (with_reducible exact LeO.none _)
      | (with_reducible refine LeO.ite ?_ ?_)
      | (with_reducible refine LeO.bind ?_ (fun _ => ?_))
      | exact ih0 _ _ _
      | exact weighhouseref01_Number.mono _ _
      | exact LeO.none _
      | refine LeO.ite ?_ ?_
      | refine LeO.bind ?_ (fun _ => ?_)
theorem weighhouseref17_numbers.mono : ∀ a0 k, LeO (weighhouseref17_numbers.f k a0) (weighhouseref17_numbers.f (k + 1) a0) := by
  intro a0 k
  have ih0 := weighhouseref17_numbers.mono_l k
  unfold weighhouseref17_numbers.f
  repeat' first
      | (with_reducible exact ih0 _ _ _)
      | (with_reducible exact weighhouseref01_Number.mono _ _)
      | (with_reducible exact LeO.refl _)
      | (with_reducible exact LeO.none _)
      | (with_reducible refine LeO.ite ?_ ?_)
      | (with_reducible refine LeO.bind ?_ (fun _ => ?_))
      | exact ih0 _ _ _
      | exact weighhouseref01_Number.mono _ _
      | exact LeO.none _
      | refine LeO.ite ?_ ?_
      | refine LeO.bind ?_ (fun _ => ?_)
set_option maxHeartbeats 8000000 in
set_option maxRecDepth 100000 in
theorem weighhouseref17_numbers.calls (k : Nat) (A0 : Option Addr) (c0 : Nat) (l0 : List Int) (r : List Int) (w : World) (hr0 : Kd.C (Kd.int .i64) w A0 l0.length l0) (hc0 : l0.length ≤ c0) (h : weighhouseref17_numbers.f k l0 = some r) :
    Calls Try.prog 39 #[.slice A0 l0.length c0] w fun e w' => ∃ v0_ : Value, e = .returned (v0_) ∧ Kd.R (Kd.int .u8) 5 w' w.heap.size (fun _ => True) v0_ r ∧ Below w.heap.size w w' := by
  have HR0 := Aside0.mk hr0
  have HC0 := Aside0.mk hc0
  clear hr0 hc0
  have HB := Aside0.mk (Below.refl w.heap.size w)
  have H : (weighhouseref17_numbers.l0 k l0 ([] : List Int) 0) = some r := h
  clear h
  have H' := Aside0.mk H
  clear H
  go_enter Try.func39, Try.ntmps39
  go_wp2
  go_loopg [3, 4] k (fun kq v3 v4 w' => ∃ (x3_1 : List Int) (x4_1 : Int), v4 = .int .i64 x4_1 ∧ Aside0 (weighhouseref17_numbers.l0 kq l0 x3_1 x4_1 = some r) ∧ Aside0 (kq ≤ k) ∧ Aside0 (Kd.R (Kd.int .u8) 5 w' w.heap.size (fun _ => True) v3 x3_1) ∧ Aside0 (Below w.heap.size w w'))
  case atStart => exact ⟨(([] : List Int)), (0), (by first | rfl | (simp; done) | (simp [*]; done)), H', ⟨Nat.le_refl _⟩, ⟨by first | exact Kd.R_nil _ _ _ _ _ | exact Kd.N_nil _ _ _ _ _ | exact Kd.V_nil _ _ _ _ _ | exact Kd.Q_nil _ _ _ _ _ | exact Kd.S_nil _ _ _ _ _⟩, ⟨by repeat (first | (with_reducible first | exact HB.out | apply below_alloc | apply pw_below_drewN | apply below_drew1) | exact HB.out)⟩⟩
  case round =>
    clear H'
    obtain ⟨x3_1, x4_1, rfl, HA, HK1, HO_3, HB⟩ := hrel
    cases gk with
    | zero => exact absurd HA.out (by simp [weighhouseref17_numbers.l0])
    | succ k1 =>
      have H := HA.out
      clear HA
      simp only [weighhouseref17_numbers.l0] at H
      by_cases c2 : x4_1 < (l0.length : Int)
      · rw [if_pos c2] at H
        have c2b0 : decide (x4_1 < (l0.length : Int)) = true := decide_eq_true c2
        clear c2
        by_cases c3 : 0 ≤ x4_1
        · rw [if_pos c3] at H
          have c3b0 : decide (0 ≤ x4_1) = true := decide_eq_true c3
          clear c3
          replace H := Option.bind_eq_some_iff.mp H
          obtain ⟨t257, A40, H⟩ := H
          replace H : (if x3_1.length + t257.length < 140737488355328 then (weighhouseref17_numbers.l0 k1 l0 (x3_1 ++ t257) (wrap64 (x4_1 + 1))) else (none)) = some r := H
          have A4 := Aside0.mk A40
          clear A40
          by_cases c5 : x3_1.length + t257.length < 140737488355328
          · rw [if_pos c5] at H
            have LMc5 := Aside0.mk c5
            clear c5
            obtain ⟨y260, hy260⟩ : ∃ y_ : List Int, y_ = (x3_1 ++ t257) := ⟨_, rfl⟩
            replace H : (weighhouseref17_numbers.l0 k1 l0 y260 (wrap64 (x4_1 + 1))) = some r := by first | (rw [hy260]; with_reducible exact H) | (have H2_ := (Option.bind_some _ _).symm.trans H; rw [hy260]; with_reducible exact H2_) | (have H2_ := (Option.bind_some _ _).symm.trans H; with_reducible exact H2_) | with_reducible exact H | (rw [hy260]; exact H) | exact H
            have Ny260 := Aside0.mk hy260
            clear hy260
            have H' := Aside0.mk H
            clear H
            have p256 : 0 ≤ (x4_1 : Int) := of_decide_eq_true (by first | (with_reducible assumption) | assumption)
            have q256 : x4_1 < (l0.length : Int) := of_decide_eq_true (by first | (with_reducible assumption) | assumption)
            obtain ⟨ad256, e256, hx256_0⟩ := Kd.at_int HR0.out x4_1 p256 q256
            cases e256
            replace hx256_0 := (HB.out.cell (World.block_lt_of_cell? w _ hx256_0)).trans hx256_0
            replace p256 := eq_true p256
            replace q256 := eq_true q256
            go_wp2_with (first | ((with_reducible refine gate_callee (f := 62) rfl ?_); refine goesL_ (some 16) rfl rfl Try.func62 (by kernel_rfl) rfl #[.int .i64 (rd l0 x4_1)] rfl (by (try simp only [List.map_toArray, List.map_cons, List.map_nil]); first | done | rfl | (simp only [List.length_drop, List.length_take]; rfl)) ?_; (with_reducible refine (weighhouseref01_Number.calls k1 (rd l0 x4_1) t257 _ A4.out).mono ?_); rintro e w6 ⟨v258, rfl, ho0, hb⟩; refine ⟨_, rfl, ?_⟩; have n0_ := Aside0.mk (Kd.R_elder' (by (with_reducible repeat (first | apply Kd.R_alloc | apply Kd.R_drewN | apply Kd.R_drew)); exact HO_3.out) (Kd.R_base ho0) hb); have n1_ := Aside0.mk (Kd.R_lower (Kd.R_new' ho0 (Kd.R_lt (by (with_reducible repeat (first | apply Kd.R_alloc | apply Kd.R_drewN | apply Kd.R_drew)); exact HO_3.out))) (below_size (by repeat (first | (with_reducible first | exact HB.out | apply below_alloc | apply pw_below_drewN | apply below_drew1) | exact HB.out)))); have n2_ := Aside0.mk (below_step (by repeat (first | (with_reducible first | exact HB.out | apply below_alloc | apply pw_below_drewN | apply below_drew1) | exact HB.out)) hb); clear HO_3; clear HB; have HO_3 := n0_; have HO259 := n1_; have HB := n2_; clear n0_ n1_ n2_; (try clear hb); (try clear hb2); (try clear hk); (try clear hi); (try clear ho0); obtain ⟨Ao8, co8, eo8⟩ := Kd.R_slice HO259.out; subst eo8) | ((with_reducible refine gate_builtin (b := .append) (xs := #[.tmp 11, .tmp 16]) rfl ?_); at_builtin; refine Kd.R_append_rows (Kd.int .u8) (w0 := w) w.heap.size rfl (.tmp 11) (.tmp 16) 35 5 (.int .u8 0) 1 rfl Try.underlying35 info5 rfl (by decide) (by omega) u3 x3_1 t257 _ _ _ (fun k_ => some k_ ≠ (.slice Ao8 t257.length co8 : Value).ownBlock) (fun _ => False) rfl rfl ?aO ?aR (fun _ _ h => h) (fun _ h => h.elim) ?aF ?aB ?aS ?aL ?_; (case aR => repeat (first | exact (Kd.R_reads' HO259.out).2.2 | (with_reducible refine Kd.C_alloc ?_ _) | (with_reducible refine Kd.C_drewN ?_ _) | (with_reducible refine Kd.C_drew ?_))); (case aB => exact (by repeat (first | (with_reducible first | exact HB.out | apply below_alloc | apply pw_below_drewN | apply below_drew1) | exact HB.out))); (case aF => exact (fun k_ hk => Kd.fresh' (Kd.R_lt (by (with_reducible repeat (first | apply Kd.R_alloc | apply Kd.R_drewN | apply Kd.R_drew)); exact HO259.out)) k_ hk)); (case aO => exact (by (with_reducible repeat (first | apply Kd.R_alloc | apply Kd.R_drewN | apply Kd.R_drew)); exact Kd.R_mono HO_3.out (fun _ hk => hk.2))); (case aS => exact (below_size (by repeat (first | (with_reducible first | exact HB.out | apply below_alloc | apply pw_below_drewN | apply below_drew1) | exact HB.out)))); (case aL => have := LMc5.out; omega); intro v261 w7 ho hb hg hat; rw [← Ny260.out] at ho; have n0_ := Aside0.mk (Kd.R_after (ok := (fun _ => True)) (by (with_reducible repeat (first | apply Kd.R_alloc | apply Kd.R_drewN | apply Kd.R_drew)); exact HO259.out) hg hat); have n1_ := Aside0.mk (hb); have n2_ := Aside0.mk (ho); clear HO259; clear HB; clear HO_3; have HO259 := n0_; have HB := n1_; have HO262 := n2_; clear n0_ n1_ n2_; clear ho hb hg hat))
            go_roundg k1
            case measure => have := HK1.out; omega
            case rel => exact ⟨(y260), (wrap64 (x4_1 + 1)), (by first | rfl | (simp; done) | (simp [*]; done)), H', ⟨by have := HK1.out; omega⟩, ⟨by (with_reducible repeat (first | apply Kd.R_alloc | apply Kd.R_drewN | apply Kd.R_drew)); exact Kd.R_mono HO262.out (fun _ hk => trivial)⟩, ⟨by repeat (first | (with_reducible first | exact HB.out | apply below_alloc | apply pw_below_drewN | apply below_drew1) | exact HB.out)⟩⟩
          · rw [if_neg c5] at H
            exact absurd H (by simp)
        · rw [if_neg c3] at H
          exact absurd H (by simp)
      · rw [if_neg c2] at H
        have c2b0 : decide (x4_1 < (l0.length : Int)) = false := decide_eq_false c2
        clear c2
        obtain rfl := Option.some.inj H
        go_wp2
        go_ret
        exact ⟨_, by first | rfl | (simp [errW_none, errW_some] <;> rfl) | (simp [*, errW_none, errW_some] <;> rfl), by (with_reducible repeat (first | apply Kd.R_alloc | apply Kd.R_drewN | apply Kd.R_drew)); exact HO_3.out, by repeat (first | (with_reducible first | exact HB.out | apply below_alloc | apply pw_below_drewN | apply below_drew1) | exact HB.out)⟩

end Go.Proofs.Ytlmlkcobkmhmbaa.Q
end

section
-- written by hprint.py (a program of these sessions) out of the translation; Lean checks it
namespace Go.Proofs.Ytlmlkcobkmhmbaa.Q
open Go.RowKit Go.Proofs.YtlmlkcobkmhmbaaW.Hb Go.Proofs.YtlmlkcobkmhmbaaW.PrintWords Go.Proofs.YtlmlkcobkmhmbaaW.PrintLast Go.Proofs.YtlmlkcobkmhmbaaW.PrintMore
attribute [local go_sem] max2_int min2_int max_two min_two max_three min_three max_four min_four   -- for this text's walks alone
set_option linter.unusedVariables false
set_option linter.unusedSimpArgs false

/-! ### weighhouseref01_Text: function 63 -/
def weighhouseref01_Text.f (a0 : ByteArray) : Option (List Int) := (some (([(wrap64 ((a0.size : Int) / 256)) % 256, (a0.size : Int) % 256] : List Int) : List Int)).bind fun y263 => (if y263.length + a0.size < 140737488355328 then (some (y263 ++ bytesOf a0)) else (none))
set_option maxHeartbeats 8000000 in
set_option maxRecDepth 100000 in
theorem weighhouseref01_Text.calls (a0 : ByteArray) (r : List Int) (w : World) (h : weighhouseref01_Text.f a0 = some r) :
    Calls Try.prog 63 #[.string a0] w fun e w' => ∃ v0_ : Value, e = .returned (v0_) ∧ Kd.R (Kd.int .u8) 5 w' w.heap.size (fun _ => True) v0_ r ∧ Below w.heap.size w w' := by
  have HB := Aside0.mk (Below.refl w.heap.size w)
  have H : ((some (([(wrap64 ((a0.size : Int) / 256)) % 256, (a0.size : Int) % 256] : List Int) : List Int)).bind fun y263 => (if y263.length + a0.size < 140737488355328 then (some (y263 ++ bytesOf a0)) else (none))) = some r := h
  clear h
  obtain ⟨y263, hy263⟩ : ∃ y_ : List Int, y_ = (([(wrap64 ((a0.size : Int) / 256)) % 256, (a0.size : Int) % 256] : List Int)) := ⟨_, rfl⟩
  replace H : (if y263.length + a0.size < 140737488355328 then (some (y263 ++ bytesOf a0)) else (none)) = some r := by first | (rw [hy263]; with_reducible exact H) | (have H2_ := (Option.bind_some _ _).symm.trans H; rw [hy263]; with_reducible exact H2_) | (have H2_ := (Option.bind_some _ _).symm.trans H; with_reducible exact H2_) | with_reducible exact H | (rw [hy263]; exact H) | exact H
  have Ny263 := Aside0.mk hy263
  clear hy263
  by_cases c2 : y263.length + a0.size < 140737488355328
  · rw [if_pos c2] at H
    have LMc2 := Aside0.mk c2
    clear c2
    obtain ⟨y266, hy266⟩ : ∃ y_ : List Int, y_ = (y263 ++ bytesOf a0) := ⟨_, rfl⟩
    replace H : (some y266) = some r := by first | (rw [hy266]; with_reducible exact H) | (have H2_ := (Option.bind_some _ _).symm.trans H; rw [hy266]; with_reducible exact H2_) | (have H2_ := (Option.bind_some _ _).symm.trans H; with_reducible exact H2_) | with_reducible exact H | (rw [hy266]; exact H) | exact H
    have Ny266 := Aside0.mk hy266
    clear hy266
    obtain rfl := Option.some.inj H
    go_enter Try.func63, Try.ntmps63
    go_wp2_with (first | ((with_reducible refine gate_dst (N := 11) rfl ?_); refine Kd.R_lit (Kd.int .u8) _ 5 ?hg (N := 11) ?hd (xs := ([(wrap64 ((a0.size : Int) / 256)) % 256, (a0.size : Int) % 256] : List Int)) (inner := [.int .u8 ((wrap64 ((a0.size : Int) / 256)) % 256), .int .u8 ((a0.size : Int) % 256)]) (ok := fun _ => True) (okp := fun _ => True) ?hr ?hp (fun _ hk => hk) trivial (Below.refl _ _) (Nat.le_refl _) (by simp) ?_; (case hd => rfl); (case hg => rfl); (case hr => first | (go_simp; done) | (go_simp; rfl)); (case hp => exact (Reps.one (show Kd.M (Kd.int .u8) _ _ _ ((wrap64 ((a0.size : Int) / 256)) % 256) [.int .u8 ((wrap64 ((a0.size : Int) / 256)) % 256)] from rfl) (Reps.one (show Kd.M (Kd.int .u8) _ _ _ ((a0.size : Int) % 256) [.int .u8 ((a0.size : Int) % 256)] from rfl) (Reps.none _ _)))); intro v264 w3 ho4 hb hg_ hnew_; clear hg_ hnew_; (first | rw [← Ny263.out] at ho4 | (simp only [Int.reduceToNat] at ho4; rw [← Ny263.out] at ho4)); have n0_ := Aside0.mk (Kd.R_lower ho4 (below_size (by repeat (first | (with_reducible first | exact HB.out | apply below_alloc | apply pw_below_drewN | apply below_drew1) | exact HB.out)))); have n1_ := Aside0.mk (below_step (by repeat (first | (with_reducible first | exact HB.out | apply below_alloc | apply pw_below_drewN | apply below_drew1) | exact HB.out)) hb); clear HB; have HO265 := n0_; have HB := n1_; clear n0_ n1_; clear hb ho4) | (at_builtin; refine print_append_str (w0 := w) w.heap.size rfl (.tmp 11) _ 35 9 5 rfl Try.underlying35 Try.underlying9 info5 v264 y263 a0 rfl rfl ?aO ?aB ?aS ?aL ?_; (case aB => exact (by repeat (first | (with_reducible first | exact HB.out | apply below_alloc | apply pw_below_drewN | apply below_drew1) | exact HB.out))); (case aO => exact (Kd.own_of_R (by (with_reducible repeat (first | apply Kd.R_alloc | apply Kd.R_drewN | apply Kd.R_drew)); exact HO265.out))); (case aS => exact (below_size (by repeat (first | (with_reducible first | exact HB.out | apply below_alloc | apply pw_below_drewN | apply below_drew1) | exact HB.out)))); (case aL => have := LMc2.out; omega); intro v267 w5 ho0 hb hg; have ho := Kd.R_of_own (h1 := fun _ => rfl) (ok := fun _ => True) ho0 (fun _ _ => trivial); clear ho0; have hat := True.intro; rw [← Ny266.out] at ho; change Kd.R (Kd.int .u8) 5 w5 w.heap.size (fun _ => True) v267 y266 at ho; have n0_ := Aside0.mk (hb); have n1_ := Aside0.mk (ho); clear HB; clear HO265; have HB := n0_; have HO268 := n1_; clear n0_ n1_; clear ho hb hg hat))
    go_ret
    exact ⟨_, by first | rfl | (simp [errW_none, errW_some] <;> rfl) | (simp [*, errW_none, errW_some] <;> rfl), by (with_reducible repeat (first | apply Kd.R_alloc | apply Kd.R_drewN | apply Kd.R_drew)); exact HO268.out, by repeat (first | (with_reducible first | exact HB.out | apply below_alloc | apply pw_below_drewN | apply below_drew1) | exact HB.out)⟩
  · rw [if_neg c2] at H
    exact absurd H (by simp)

end Go.Proofs.Ytlmlkcobkmhmbaa.Q
end

section
-- written by hprint.py (a program of these sessions) out of the translation; Lean checks it
namespace Go.Proofs.Ytlmlkcobkmhmbaa.Q
open Go.RowKit Go.Proofs.YtlmlkcobkmhmbaaW.Hb Go.Proofs.YtlmlkcobkmhmbaaW.PrintWords Go.Proofs.YtlmlkcobkmhmbaaW.PrintLast Go.Proofs.YtlmlkcobkmhmbaaW.PrintMore
attribute [local go_sem] max2_int min2_int max_two min_two max_three min_three max_four min_four   -- for this text's walks alone
set_option linter.unusedVariables false
set_option linter.unusedSimpArgs false

/-! ### weighhouseref17_entries: function 40 -/
def weighhouseref17_entries.l0 : Nat → List (S113) → List Int → Int → Option (List Int)
  | 0, _, _, _ => none
  | k + 1, x0, x3, x4 => if x4 < (x0.length : Int) then (if 0 ≤ x4 then ((weighhouseref01_Number.f k ((rd_T113 x0 x4).f0)).bind fun t273 => (if x3.length + t273.length < 140737488355328 then ((some (x3 ++ t273 : List Int)).bind fun y276 => ((weighhouseref01_Text.f ((rd_T113 x0 x4).f1)).bind fun t280 => (if y276.length + t280.length < 140737488355328 then (weighhouseref17_entries.l0 k x0 (y276 ++ t280) (wrap64 (x4 + 1))) else (none)))) else (none))) else (none)) else (some x3)
def weighhouseref17_entries.f (k : Nat) (l0 : List (S113)) : Option (List Int) := weighhouseref17_entries.l0 k l0 (([(wrap64 ((l0.length : Int) / 256)) % 256, (l0.length : Int) % 256] : List Int)) 0
theorem weighhouseref17_entries.mono_l : ∀ k, (∀ y0 y1 y2, LeO (weighhouseref17_entries.l0 k y0 y1 y2) (weighhouseref17_entries.l0 (k + 1) y0 y1 y2))
  | 0 => fun _ _ _ r h => by simp [weighhouseref17_entries.l0] at h
  | k + 1 => by
    have ih0 := weighhouseref17_entries.mono_l k
    · intro y0 y1 y2
      unfold weighhouseref17_entries.l0
      repeat' first
      | (with_reducible exact ih0 _ _ _)
      | (with_reducible exact weighhouseref01_Number.mono _ _)
      | (with_reducible exact LeO.refl _)
      | (with_reducible exact LeO.none _)
      | (with_reducible refine LeO.ite ?_ ?_)
      | (with_reducible refine LeO.bind ?_ (fun _ => ?_))
      | exact ih0 _ _ _
      | exact weighhouseref01_Number.mono _ _
      | exact LeO.none _
      | refine LeO.ite ?_ ?_
      | refine LeO.bind ?_ (fun _ => ?_)
theorem weighhouseref17_entries.mono : ∀ a0 k, LeO (weighhouseref17_entries.f k a0) (weighhouseref17_entries.f (k + 1) a0) := by
  intro a0 k
  have ih0 := weighhouseref17_entries.mono_l k
  unfold weighhouseref17_entries.f
  repeat' first
      | (with_reducible exact ih0 _ _ _)
      | (with_reducible exact weighhouseref01_Number.mono _ _)
      | (with_reducible exact LeO.refl _)
      | (with_reducible exact LeO.none _)
      | (with_reducible refine LeO.ite ?_ ?_)
      | (with_reducible refine LeO.bind ?_ (fun _ => ?_))
      | exact ih0 _ _ _
      | exact weighhouseref01_Number.mono _ _
      | exact LeO.none _
      | refine LeO.ite ?_ ?_
      | refine LeO.bind ?_ (fun _ => ?_)
def weighhouseref17_entries.T5 : Bool × List (List Nat × List Nat) := (true, [([], []), ([], []), ([], []), ([1, 2], [1, 2]), ([3], [3]), ([4], [4]), ([5], [5]), ([0, 6, 6], [0, 6]), ([], []), ([], []), ([8, 9], [8, 9]), ([10], [10]), ([11], [11]), ([12, 7], [12]), ([7, 13, 13], [7, 13]), ([14, 14, 0, 1, 2, 3, 4, 5, 6, 7, 8, 9, 10, 11, 12, 13, 14], [0, 14])])
def weighhouseref17_entries.B5 : List Nat := [0, 0, 0, 6, 14, 30, 62, 127, 0, 0, 768, 1792, 3840, 8191, 16383, 32767]
theorem weighhouseref17_entries.tab5 : rtab .any (opsOf Try.f40 5) = weighhouseref17_entries.T5 := by kernel_rfl
theorem weighhouseref17_entries.bits5 : waitsOk weighhouseref17_entries.T5.2 weighhouseref17_entries.B5 = true := by kernel_rfl
set_option maxHeartbeats 8000000 in
set_option maxRecDepth 100000 in
theorem weighhouseref17_entries.calls (k : Nat) (A0 : Option Addr) (c0 : Nat) (l0 : List (S113)) (r : List Int) (w : World) (hr0 : Kd.C k113 w A0 l0.length l0) (hc0 : l0.length ≤ c0) (h : weighhouseref17_entries.f k l0 = some r) :
    Calls Try.prog 40 #[.slice A0 l0.length c0] w fun e w' => ∃ v0_ : Value, e = .returned (v0_) ∧ Kd.R (Kd.int .u8) 5 w' w.heap.size (fun _ => True) v0_ r ∧ Below w.heap.size w w' := by
  have HR0 := Aside0.mk hr0
  have HC0 := Aside0.mk hc0
  clear hr0 hc0
  have HB := Aside0.mk (Below.refl w.heap.size w)
  have H : (weighhouseref17_entries.l0 k l0 (([(wrap64 ((l0.length : Int) / 256)) % 256, (l0.length : Int) % 256] : List Int)) 0) = some r := h
  clear h
  obtain ⟨y269, hy269⟩ : ∃ y_ : List Int, y_ = (([(wrap64 ((l0.length : Int) / 256)) % 256, (l0.length : Int) % 256] : List Int)) := ⟨_, rfl⟩
  replace H : (weighhouseref17_entries.l0 k l0 y269 0) = some r := by first | (rw [hy269]; with_reducible exact H) | (have H2_ := (Option.bind_some _ _).symm.trans H; rw [hy269]; with_reducible exact H2_) | (have H2_ := (Option.bind_some _ _).symm.trans H; with_reducible exact H2_) | with_reducible exact H | (rw [hy269]; exact H) | exact H
  have Ny269 := Aside0.mk hy269
  clear hy269
  have H' := Aside0.mk H
  clear H
  go_enter Try.func40, Try.ntmps40
  go_wp2_with (first | ((with_reducible refine gate_dst (N := 13) rfl ?_); refine Kd.R_lit (Kd.int .u8) _ 5 ?hg (N := 13) ?hd (xs := ([(wrap64 ((l0.length : Int) / 256)) % 256, (l0.length : Int) % 256] : List Int)) (inner := [.int .u8 ((wrap64 ((l0.length : Int) / 256)) % 256), .int .u8 ((l0.length : Int) % 256)]) (ok := fun _ => True) (okp := fun _ => True) ?hr ?hp (fun _ hk => hk) trivial (Below.refl _ _) (Nat.le_refl _) (by simp) ?_; (case hd => rfl); (case hg => rfl); (case hr => first | (go_simp; done) | (go_simp; rfl)); (case hp => exact (Reps.one (show Kd.M (Kd.int .u8) _ _ _ ((wrap64 ((l0.length : Int) / 256)) % 256) [.int .u8 ((wrap64 ((l0.length : Int) / 256)) % 256)] from rfl) (Reps.one (show Kd.M (Kd.int .u8) _ _ _ ((l0.length : Int) % 256) [.int .u8 ((l0.length : Int) % 256)] from rfl) (Reps.none _ _)))); intro v270 w2 ho3 hb hg_ hnew_; clear hg_ hnew_; (first | rw [← Ny269.out] at ho3 | (simp only [Int.reduceToNat] at ho3; rw [← Ny269.out] at ho3)); have n0_ := Aside0.mk (Kd.R_lower ho3 (below_size (by repeat (first | (with_reducible first | exact HB.out | apply below_alloc | apply pw_below_drewN | apply below_drew1) | exact HB.out)))); have n1_ := Aside0.mk (below_step (by repeat (first | (with_reducible first | exact HB.out | apply below_alloc | apply pw_below_drewN | apply below_drew1) | exact HB.out)) hb); clear HB; have HO271 := n0_; have HB := n1_; clear n0_ n1_; clear hb ho3))
  go_loopg [3, 4] k (fun kq v3 v4 w' => ∃ (x3_1 : List Int) (x4_1 : Int), v4 = .int .i64 x4_1 ∧ Aside0 (weighhouseref17_entries.l0 kq l0 x3_1 x4_1 = some r) ∧ Aside0 (kq ≤ k) ∧ Aside0 (Kd.R (Kd.int .u8) 5 w' w.heap.size (fun _ => True) v3 x3_1) ∧ Aside0 (Below w.heap.size w w'))
  case atStart => exact ⟨(y269), (0), (by first | rfl | (simp; done) | (simp [*]; done)), H', ⟨Nat.le_refl _⟩, ⟨by (with_reducible repeat (first | apply Kd.R_alloc | apply Kd.R_drewN | apply Kd.R_drew)); exact HO271.out⟩, ⟨by repeat (first | (with_reducible first | exact HB.out | apply below_alloc | apply pw_below_drewN | apply below_drew1) | exact HB.out)⟩⟩
  case round =>
    clear H'
    try clear p2
    obtain ⟨x3_1, x4_1, rfl, HA, HK1, HO_3, HB⟩ := hrel
    cases gk with
    | zero => exact absurd HA.out (by simp [weighhouseref17_entries.l0])
    | succ k1 =>
      have H := HA.out
      clear HA
      simp only [weighhouseref17_entries.l0] at H
      by_cases c4 : x4_1 < (l0.length : Int)
      · rw [if_pos c4] at H
        have c4b0 : decide (x4_1 < (l0.length : Int)) = true := decide_eq_true c4
        clear c4
        by_cases c5 : 0 ≤ x4_1
        · rw [if_pos c5] at H
          have c5b0 : decide (0 ≤ x4_1) = true := decide_eq_true c5
          clear c5
          replace H := Option.bind_eq_some_iff.mp H
          obtain ⟨t273, A60, H⟩ := H
          replace H : (if x3_1.length + t273.length < 140737488355328 then ((some (x3_1 ++ t273 : List Int)).bind fun y276 => ((weighhouseref01_Text.f ((rd_T113 l0 x4_1).f1)).bind fun t280 => (if y276.length + t280.length < 140737488355328 then (weighhouseref17_entries.l0 k1 l0 (y276 ++ t280) (wrap64 (x4_1 + 1))) else (none)))) else (none)) = some r := H
          have A6 := Aside0.mk A60
          clear A60
          by_cases c7 : x3_1.length + t273.length < 140737488355328
          · rw [if_pos c7] at H
            have LMc7 := Aside0.mk c7
            clear c7
            obtain ⟨y276, hy276⟩ : ∃ y_ : List Int, y_ = (x3_1 ++ t273) := ⟨_, rfl⟩
            replace H : ((weighhouseref01_Text.f ((rd_T113 l0 x4_1).f1)).bind fun t280 => (if y276.length + t280.length < 140737488355328 then (weighhouseref17_entries.l0 k1 l0 (y276 ++ t280) (wrap64 (x4_1 + 1))) else (none))) = some r := by first | (rw [hy276]; with_reducible exact H) | (have H2_ := (Option.bind_some _ _).symm.trans H; rw [hy276]; with_reducible exact H2_) | (have H2_ := (Option.bind_some _ _).symm.trans H; with_reducible exact H2_) | with_reducible exact H | (rw [hy276]; exact H) | exact H
            have Ny276 := Aside0.mk hy276
            clear hy276
            replace H := Option.bind_eq_some_iff.mp H
            obtain ⟨t280, A80, H⟩ := H
            replace H : (if y276.length + t280.length < 140737488355328 then (weighhouseref17_entries.l0 k1 l0 (y276 ++ t280) (wrap64 (x4_1 + 1))) else (none)) = some r := H
            have A8 := Aside0.mk A80
            clear A80
            by_cases c9 : y276.length + t280.length < 140737488355328
            · rw [if_pos c9] at H
              have LMc9 := Aside0.mk c9
              clear c9
              obtain ⟨y283, hy283⟩ : ∃ y_ : List Int, y_ = (y276 ++ t280) := ⟨_, rfl⟩
              replace H : (weighhouseref17_entries.l0 k1 l0 y283 (wrap64 (x4_1 + 1))) = some r := by first | (rw [hy283]; with_reducible exact H) | (have H2_ := (Option.bind_some _ _).symm.trans H; rw [hy283]; with_reducible exact H2_) | (have H2_ := (Option.bind_some _ _).symm.trans H; with_reducible exact H2_) | with_reducible exact H | (rw [hy283]; exact H) | exact H
              have Ny283 := Aside0.mk hy283
              clear hy283
              have H' := Aside0.mk H
              clear H
              try go_wp2
              have n0_ := Aside0.mk (Kd.R_drew HO_3.out)
              have n1_ := Aside0.mk (below_drew1 HB.out)
              clear HO_3
              clear HB
              have HO_3 := n0_
              have HB := n1_
              clear n0_ n1_
              have p272 : 0 ≤ (x4_1 : Int) := of_decide_eq_true (by first | (with_reducible assumption) | assumption)
              have q272 : x4_1 < (l0.length : Int) := of_decide_eq_true (by first | (with_reducible assumption) | assumption)
              obtain ⟨ad272, e272, hx272_0, hx272_1⟩ := at_T113 HR0.out x4_1 p272 q272
              have hw272_1 := hx272_1
              have hw272_0 := hx272_0
              cases e272
              replace hx272_0 := (HB.out.cell (World.block_lt_of_cell? w _ hx272_0)).trans hx272_0
              replace hx272_1 := (HB.out.cell (World.block_lt_of_cell? w _ hx272_1)).trans hx272_1
              replace p272 := eq_true p272
              replace q272 := eq_true q272
              have p279 : 0 ≤ (x4_1 : Int) := of_decide_eq_true (by first | (with_reducible assumption) | assumption)
              have q279 : x4_1 < (l0.length : Int) := of_decide_eq_true (by first | (with_reducible assumption) | assumption)
              obtain ⟨ad279, e279, hx279_0, hx279_1⟩ := at_T113 HR0.out x4_1 p279 q279
              have hw279_1 := hx279_1
              have hw279_0 := hx279_0
              obtain rfl : ad272 = ad279 := (by injection e279)
              replace hx279_0 := (HB.out.cell (World.block_lt_of_cell? w _ hx279_0)).trans hx279_0
              replace hx279_1 := (HB.out.cell (World.block_lt_of_cell? w _ hx279_1)).trans hx279_1
              replace p279 := eq_true p279
              replace q279 := eq_true q279
              refine start_ (n := 16) (S := fun w' => w'.cell? (ad272.add ((x4_1).toNat * 2)) = some (.int .i64 ((rd_T113 l0 x4_1).f0)) ∧ w'.cell? ⟨(ad272.add ((x4_1).toNat * 2)).block, (ad272.add ((x4_1).toNat * 2)).off + 1, none⟩ = some (.string ((rd_T113 l0 x4_1).f1)) ∧ w'.cell? (ad272.add ((x4_1).toNat * 2)) = some (.int .i64 ((rd_T113 l0 x4_1).f0)) ∧ w'.cell? ⟨(ad272.add ((x4_1).toNat * 2)).block, (ad272.add ((x4_1).toNat * 2)).off + 1, none⟩ = some (.string ((rd_T113 l0 x4_1).f1))) (ds := []) #[false, false, false, false, false, false, false, false, false, false, false, false, false, false, false, false] (by kernel_rfl) rfl rfl ⟨((HB.out.cell (World.block_lt_of_cell? w _ hw272_0)).trans hw272_0), ((HB.out.cell (World.block_lt_of_cell? w _ hw272_1)).trans hw272_1), ((HB.out.cell (World.block_lt_of_cell? w _ hw279_0)).trans hw279_0), ((HB.out.cell (World.block_lt_of_cell? w _ hw279_1)).trans hw279_1)⟩ (fun hHeld => ?_); refine with_tabW weighhouseref17_entries.tab5 weighhouseref17_entries.bits5 (fun HT_ HW_ => ?_)
              generalize wr.drew = w10 at HO_3 HB hx272_0 hx272_1 hx279_0 hx279_1 hHeld ⊢
              refine pure_ (i := 0) (N := some 20) (v := ?_) (a' := ?_) #[true, false, false, false, false, false, false, false, false, false, false, false, false, false, false, false] rfl rfl (any_of HT_.out (by kernel_rfl)) (fun _ _ _ h => h) (Or.inl ⟨by rfl, ?_⟩) ?_ ?_
              rotate_left
              · intro w'
                go_simp
                with_reducible rfl
              rotate_left
              · simp only [Act.put, List.setIfInBounds_toArray, List.set_cons_zero, List.set_cons_succ, i64_w, i32_w]
                rfl
              refine pure_ (i := 1) (N := some 21) (v := ?_) (a' := ?_) #[true, true, false, false, false, false, false, false, false, false, false, false, false, false, false, false] rfl rfl (any_of HT_.out (by kernel_rfl)) (fun _ _ _ h => h) (Or.inl ⟨by rfl, ?_⟩) ?_ ?_
              rotate_left
              · intro w'
                go_simp
                with_reducible rfl
              rotate_left
              · simp only [Act.put, List.setIfInBounds_toArray, List.set_cons_zero, List.set_cons_succ, i64_w, i32_w]
                rfl
              refine pure_ (i := 2) (N := some 22) (v := ?_) (a' := ?_) #[true, true, true, false, false, false, false, false, false, false, false, false, false, false, false, false] rfl rfl (any_of HT_.out (by kernel_rfl)) (fun _ _ _ h => h) (Or.inl ⟨by rfl, ?_⟩) ?_ ?_
              rotate_left
              · intro w'
                go_simp
                with_reducible rfl
              rotate_left
              · simp only [Act.put, List.setIfInBounds_toArray, List.set_cons_zero, List.set_cons_succ, i64_w, i32_w]
                rfl
              refine pure_ (i := 3) (N := some 23) (v := ?_) (a' := ?_) #[true, true, true, true, false, false, false, false, false, false, false, false, false, false, false, false] rfl rfl (any_of HT_.out (by kernel_rfl)) (fun _ _ _ h => h) (Or.inl ⟨by rfl, ?_⟩) ?_ ?_
              rotate_left
              · intro w'
                go_simp
                with_reducible rfl
              rotate_left
              · simp only [Act.put, List.setIfInBounds_toArray, List.set_cons_zero, List.set_cons_succ, i64_w, i32_w]
                rfl
              refine pure_ (i := 4) (N := some 24) (v := ?_) (a' := ?_) #[true, true, true, true, true, false, false, false, false, false, false, false, false, false, false, false] rfl rfl (any_of HT_.out (by kernel_rfl)) (fun _ _ _ h => h) (Or.inl ⟨by rfl, ?_⟩) ?_ ?_
              rotate_left
              · intro w'
                go_simp
                with_reducible rfl
              rotate_left
              · simp only [Act.put, List.setIfInBounds_toArray, List.set_cons_zero, List.set_cons_succ, i64_w, i32_w]
                rfl
              refine pure_ (i := 8) (N := some 28) (v := ?_) (a' := ?_) #[true, true, true, true, true, false, false, false, true, false, false, false, false, false, false, false] rfl rfl (any_of HT_.out (by kernel_rfl)) (fun _ _ _ h => h) (Or.inl ⟨by rfl, ?_⟩) ?_ ?_
              rotate_left
              · intro w'
                go_simp
                with_reducible rfl
              rotate_left
              · simp only [Act.put, List.setIfInBounds_toArray, List.set_cons_zero, List.set_cons_succ, i64_w, i32_w]
                rfl
              refine pure_ (i := 9) (N := some 29) (v := ?_) (a' := ?_) #[true, true, true, true, true, false, false, false, true, true, false, false, false, false, false, false] rfl rfl (any_of HT_.out (by kernel_rfl)) (fun _ _ _ h => h) (Or.inl ⟨by rfl, ?_⟩) ?_ ?_
              rotate_left
              · intro w'
                go_simp
                with_reducible rfl
              rotate_left
              · simp only [Act.put, List.setIfInBounds_toArray, List.set_cons_zero, List.set_cons_succ, i64_w, i32_w]
                rfl
              refine pure_ (i := 10) (N := some 30) (v := ?_) (a' := ?_) #[true, true, true, true, true, false, false, false, true, true, true, false, false, false, false, false] rfl rfl (any_of HT_.out (by kernel_rfl)) (fun _ _ _ h => h) (Or.inl ⟨by rfl, ?_⟩) ?_ ?_
              rotate_left
              · intro w'
                go_simp
                with_reducible rfl
              rotate_left
              · simp only [Act.put, List.setIfInBounds_toArray, List.set_cons_zero, List.set_cons_succ, i64_w, i32_w]
                rfl
              refine pure_ (i := 11) (N := some 31) (v := ?_) (a' := ?_) #[true, true, true, true, true, false, false, false, true, true, true, true, false, false, false, false] rfl rfl (any_of HT_.out (by kernel_rfl)) (fun _ _ _ h => h) (Or.inl ⟨by rfl, ?_⟩) ?_ ?_
              rotate_left
              · intro w'
                go_simp
                with_reducible rfl
              rotate_left
              · simp only [Act.put, List.setIfInBounds_toArray, List.set_cons_zero, List.set_cons_succ, i64_w, i32_w]
                rfl
              refine take_ (i := 5) (N := some 25) (v := ?_) (a' := ?_) #[true, true, true, true, true, true, false, false, true, true, true, true, false, false, false, false] rfl rfl (take_ofW HT_.out HW_.out (by kernel_rfl)) (fun _ _ _ h => h) (Or.inl ⟨by rfl, ?_⟩) hHeld ?_ ?_
              rotate_left
              · rintro w' ⟨s0, s1, s2, s3⟩
                go_simp
                with_reducible rfl
              rotate_left
              · simp only [Act.put, List.setIfInBounds_toArray, List.set_cons_zero, List.set_cons_succ, i64_w, i32_w]
                rfl
              refine take_ (i := 12) (N := some 32) (v := ?_) (a' := ?_) #[true, true, true, true, true, true, false, false, true, true, true, true, true, false, false, false] rfl rfl (take_ofW HT_.out HW_.out (by kernel_rfl)) (fun _ _ _ h => h) (Or.inl ⟨by rfl, ?_⟩) hHeld ?_ ?_
              rotate_left
              · rintro w' ⟨s0, s1, s2, s3⟩
                go_simp
                with_reducible rfl
              rotate_left
              · simp only [Act.put, List.setIfInBounds_toArray, List.set_cons_zero, List.set_cons_succ, i64_w, i32_w]
                rfl
              refine one_ (i := 6) (N := some 26) #[true, true, true, true, true, true, true, false, true, true, true, true, true, false, false, false] rfl rfl (one_of HT_.out (by kernel_rfl)) (by decide) (fun K hK => ?_)
              refine goes_ Try.func62 (by kernel_rfl) rfl #[.int .i64 ((rd_T113 l0 x4_1).f0)] (by rfl) rfl rfl (by (try simp only [List.map_toArray, List.map_cons, List.map_nil]); first | done | rfl | (simp only [List.length_drop, List.length_take]; rfl)) ?_
              with_reducible refine (weighhouseref01_Number.calls k1 ((rd_T113 l0 x4_1).f0) t273 _ A6.out).mono ?_
              rintro e w11 ⟨v274, rfl, ho0, hb⟩
              refine ⟨_, rfl, ?_⟩
              have n0_ := Aside0.mk (Kd.R_elder' (by (with_reducible repeat (first | apply Kd.R_alloc | apply Kd.R_drewN | apply Kd.R_drew)); exact HO_3.out) (Kd.R_base ho0) hb)
              have n1_ := Aside0.mk (Kd.R_lower (Kd.R_new' ho0 (Kd.R_lt (by (with_reducible repeat (first | apply Kd.R_alloc | apply Kd.R_drewN | apply Kd.R_drew)); exact HO_3.out))) (below_size (by repeat (first | (with_reducible first | exact HB.out | apply below_alloc | apply pw_below_drewN | apply below_drew1) | exact HB.out))))
              have n2_ := Aside0.mk (below_step (by repeat (first | (with_reducible first | exact HB.out | apply below_alloc | apply pw_below_drewN | apply below_drew1) | exact HB.out)) hb)
              clear HO_3
              clear HB
              have HO_3 := n0_
              have HO275 := n1_
              have HB := n2_
              clear n0_ n1_ n2_
              (try clear hb)
              (try clear hb2)
              (try clear hk)
              (try clear hi)
              (try clear ho0)
              obtain ⟨Ao13, co13, eo13⟩ := Kd.R_slice HO275.out
              (first | subst eo13 | (injection eo13 with f1_ f2_ f3_; have f4_ := f1_.symm; have f5_ := f3_.symm; clear f1_ f2_ f3_; subst f4_; subst f5_))
              refine hK.out _ _ ⟨((HB.out.cell (World.block_lt_of_cell? w _ hw272_0)).trans hw272_0), ((HB.out.cell (World.block_lt_of_cell? w _ hw272_1)).trans hw272_1), ((HB.out.cell (World.block_lt_of_cell? w _ hw279_0)).trans hw279_0), ((HB.out.cell (World.block_lt_of_cell? w _ hw279_1)).trans hw279_1)⟩ (fun hHeld => ?_)
              clear hK K
              refine norm_ (a' := ?_) ?_ ?_
              rotate_left
              · show Act.put _ (some 26) _ = _
                simp only [Act.put, List.setIfInBounds_toArray, List.set_cons_zero, List.set_cons_succ, i64_w, i32_w]
                rfl
              refine one_ (i := 7) (N := some 27) #[true, true, true, true, true, true, true, true, true, true, true, true, true, false, false, false] rfl rfl (one_of HT_.out (by kernel_rfl)) (by decide) (fun K hK => ?_)
              refine Kd.R_append_rows_step (Kd.int .u8) (w0 := w) w.heap.size (by rfl) (.tmp 20) (.tmp 26) 35 5 (.int .u8 0) 1 rfl Try.underlying35 info5 rfl (by decide) (by omega) u3 x3_1 t273 _ _ _ (fun k_ => some k_ ≠ (.slice Ao13 t273.length co13 : Value).ownBlock) (fun _ => False) rfl rfl ?aO ?aR (fun _ _ h => h) (fun _ h => h.elim) ?aF ?aB ?aS ?aL ?_
              (case aR => repeat (first | exact (Kd.R_reads' HO275.out).2.2 | (with_reducible refine Kd.C_alloc ?_ _) | (with_reducible refine Kd.C_drewN ?_ _) | (with_reducible refine Kd.C_drew ?_)))
              (case aB => exact (by repeat (first | (with_reducible first | exact HB.out | apply below_alloc | apply pw_below_drewN | apply below_drew1) | exact HB.out)))
              (case aF => exact (fun k_ hk => Kd.fresh' (Kd.R_lt (by (with_reducible repeat (first | apply Kd.R_alloc | apply Kd.R_drewN | apply Kd.R_drew)); exact HO275.out)) k_ hk))
              (case aO => exact (by (with_reducible repeat (first | apply Kd.R_alloc | apply Kd.R_drewN | apply Kd.R_drew)); exact Kd.R_mono HO_3.out (fun _ hk => hk.2)))
              (case aS => exact (below_size (by repeat (first | (with_reducible first | exact HB.out | apply below_alloc | apply pw_below_drewN | apply below_drew1) | exact HB.out))))
              (case aL => have := LMc7.out; omega)
              intro v277 w12 ho hb hg hat
              rw [← Ny276.out] at ho
              have n0_ := Aside0.mk (Kd.R_after (ok := (fun _ => True)) (by (with_reducible repeat (first | apply Kd.R_alloc | apply Kd.R_drewN | apply Kd.R_drew)); exact HO275.out) hg hat)
              have n1_ := Aside0.mk (hb)
              have n2_ := Aside0.mk (ho)
              clear HO275
              clear HB
              clear HO_3
              have HO275 := n0_
              have HB := n1_
              have HO278 := n2_
              clear n0_ n1_ n2_
              clear ho hb hg hat
              refine hK.out _ _ ⟨((HB.out.cell (World.block_lt_of_cell? w _ hw272_0)).trans hw272_0), ((HB.out.cell (World.block_lt_of_cell? w _ hw272_1)).trans hw272_1), ((HB.out.cell (World.block_lt_of_cell? w _ hw279_0)).trans hw279_0), ((HB.out.cell (World.block_lt_of_cell? w _ hw279_1)).trans hw279_1)⟩ (fun hHeld => ?_)
              clear hK K
              refine norm_ (a' := ?_) ?_ ?_
              rotate_left
              · show Act.put _ (some 27) _ = _
                simp only [Act.put, List.setIfInBounds_toArray, List.set_cons_zero, List.set_cons_succ, i64_w, i32_w]
                rfl
              refine one_ (i := 13) (N := some 33) #[true, true, true, true, true, true, true, true, true, true, true, true, true, true, false, false] rfl rfl (one_of HT_.out (by kernel_rfl)) (by decide) (fun K hK => ?_)
              refine goes_ Try.func63 (by kernel_rfl) rfl #[.string ((rd_T113 l0 x4_1).f1)] (by rfl) rfl rfl (by (try simp only [List.map_toArray, List.map_cons, List.map_nil]); first | done | rfl | (simp only [List.length_drop, List.length_take]; rfl)) ?_
              with_reducible refine (weighhouseref01_Text.calls ((rd_T113 l0 x4_1).f1) t280 _ A8.out).mono ?_
              rintro e w14 ⟨v281, rfl, ho0, hb⟩
              refine ⟨_, rfl, ?_⟩
              have n0_ := Aside0.mk (Kd.R_elder' (by (with_reducible repeat (first | apply Kd.R_alloc | apply Kd.R_drewN | apply Kd.R_drew)); exact HO275.out) (Kd.R_base ho0) hb)
              have n1_ := Aside0.mk (Kd.R_elder' (by (with_reducible repeat (first | apply Kd.R_alloc | apply Kd.R_drewN | apply Kd.R_drew)); exact HO278.out) (Kd.R_base ho0) hb)
              have n2_ := Aside0.mk (Kd.R_lower (Kd.R_new' (Kd.R_new' ho0 (Kd.R_lt (by (with_reducible repeat (first | apply Kd.R_alloc | apply Kd.R_drewN | apply Kd.R_drew)); exact HO275.out))) (Kd.R_lt (by (with_reducible repeat (first | apply Kd.R_alloc | apply Kd.R_drewN | apply Kd.R_drew)); exact HO278.out))) (below_size (by repeat (first | (with_reducible first | exact HB.out | apply below_alloc | apply pw_below_drewN | apply below_drew1) | exact HB.out))))
              have n3_ := Aside0.mk (below_step (by repeat (first | (with_reducible first | exact HB.out | apply below_alloc | apply pw_below_drewN | apply below_drew1) | exact HB.out)) hb)
              clear HO275
              clear HO278
              clear HB
              have HO275 := n0_
              have HO278 := n1_
              have HO282 := n2_
              have HB := n3_
              clear n0_ n1_ n2_ n3_
              (try clear hb)
              (try clear hb2)
              (try clear hk)
              (try clear hi)
              (try clear ho0)
              obtain ⟨Ao16, co16, eo16⟩ := Kd.R_slice HO282.out
              (first | subst eo16 | (injection eo16 with f1_ f2_ f3_; have f4_ := f1_.symm; have f5_ := f3_.symm; clear f1_ f2_ f3_; subst f4_; subst f5_))
              refine hK.out _ _ ⟨((HB.out.cell (World.block_lt_of_cell? w _ hw272_0)).trans hw272_0), ((HB.out.cell (World.block_lt_of_cell? w _ hw272_1)).trans hw272_1), ((HB.out.cell (World.block_lt_of_cell? w _ hw279_0)).trans hw279_0), ((HB.out.cell (World.block_lt_of_cell? w _ hw279_1)).trans hw279_1)⟩ (fun hHeld => ?_)
              clear hK K
              refine norm_ (a' := ?_) ?_ ?_
              rotate_left
              · show Act.put _ (some 33) _ = _
                simp only [Act.put, List.setIfInBounds_toArray, List.set_cons_zero, List.set_cons_succ, i64_w, i32_w]
                rfl
              refine one_ (i := 14) (N := some 34) #[true, true, true, true, true, true, true, true, true, true, true, true, true, true, true, false] rfl rfl (one_of HT_.out (by kernel_rfl)) (by decide) (fun K hK => ?_)
              refine Kd.R_append_rows_step (Kd.int .u8) (w0 := w) w.heap.size (by rfl) (.tmp 27) (.tmp 33) 35 5 (.int .u8 0) 1 rfl Try.underlying35 info5 rfl (by decide) (by omega) v277 y276 t280 _ _ _ (fun k_ => some k_ ≠ (.slice Ao13 t273.length co13 : Value).ownBlock ∧ some k_ ≠ (.slice Ao16 t280.length co16 : Value).ownBlock) (fun _ => False) rfl rfl ?aO ?aR (fun _ _ h => h) (fun _ h => h.elim) ?aF ?aB ?aS ?aL ?_
              (case aR => repeat (first | exact (Kd.R_reads' HO282.out).2.2 | (with_reducible refine Kd.C_alloc ?_ _) | (with_reducible refine Kd.C_drewN ?_ _) | (with_reducible refine Kd.C_drew ?_)))
              (case aB => exact (by repeat (first | (with_reducible first | exact HB.out | apply below_alloc | apply pw_below_drewN | apply below_drew1) | exact HB.out)))
              (case aF => exact (fun k_ hk => ⟨Kd.fresh' (Kd.R_lt (by (with_reducible repeat (first | apply Kd.R_alloc | apply Kd.R_drewN | apply Kd.R_drew)); exact HO275.out)) k_ hk, Kd.fresh' (Kd.R_lt (by (with_reducible repeat (first | apply Kd.R_alloc | apply Kd.R_drewN | apply Kd.R_drew)); exact HO282.out)) k_ hk⟩))
              (case aO => exact (by (with_reducible repeat (first | apply Kd.R_alloc | apply Kd.R_drewN | apply Kd.R_drew)); exact HO278.out))
              (case aS => exact (below_size (by repeat (first | (with_reducible first | exact HB.out | apply below_alloc | apply pw_below_drewN | apply below_drew1) | exact HB.out))))
              (case aL => have := LMc9.out; omega)
              intro v284 w15 ho hb hg hat
              rw [← Ny283.out] at ho
              have n0_ := Aside0.mk (Kd.R_after (ok := (fun k_ => some k_ ≠ (.slice Ao16 t280.length co16 : Value).ownBlock)) (by (with_reducible repeat (first | apply Kd.R_alloc | apply Kd.R_drewN | apply Kd.R_drew)); exact Kd.R_mono HO275.out (fun _ hk => ⟨hk.2, hk.1.2⟩)) hg hat)
              have n1_ := Aside0.mk (Kd.R_after (ok := (fun k_ => some k_ ≠ (.slice Ao13 t273.length co13 : Value).ownBlock)) (by (with_reducible repeat (first | apply Kd.R_alloc | apply Kd.R_drewN | apply Kd.R_drew)); exact Kd.R_mono HO282.out (fun _ hk => ⟨hk.1.2, hk.2⟩)) hg hat)
              have n2_ := Aside0.mk (hb)
              have n3_ := Aside0.mk (ho)
              clear HO275
              clear HO282
              clear HB
              clear HO278
              have HO275 := n0_
              have HO282 := n1_
              have HB := n2_
              have HO285 := n3_
              clear n0_ n1_ n2_ n3_
              clear ho hb hg hat
              refine hK.out _ _ ⟨((HB.out.cell (World.block_lt_of_cell? w _ hw272_0)).trans hw272_0), ((HB.out.cell (World.block_lt_of_cell? w _ hw272_1)).trans hw272_1), ((HB.out.cell (World.block_lt_of_cell? w _ hw279_0)).trans hw279_0), ((HB.out.cell (World.block_lt_of_cell? w _ hw279_1)).trans hw279_1)⟩ (fun hHeld => ?_)
              clear hK K
              refine norm_ (a' := ?_) ?_ ?_
              rotate_left
              · show Act.put _ (some 34) _ = _
                simp only [Act.put, List.setIfInBounds_toArray, List.set_cons_zero, List.set_cons_succ, i64_w, i32_w]
                rfl
              refine pure_ (i := 15) (N := some 3) (v := ?_) (a' := ?_) #[true, true, true, true, true, true, true, true, true, true, true, true, true, true, true, true] rfl rfl (any_of HT_.out (by kernel_rfl)) (fun _ _ _ h => h) (Or.inl ⟨by rfl, ?_⟩) ?_ ?_
              rotate_left
              · intro w'
                go_simp
                with_reducible rfl
              rotate_left
              · simp only [Act.put, List.setIfInBounds_toArray, List.set_cons_zero, List.set_cons_succ, i64_w, i32_w]
                rfl
              refine done_ (done_of HT_.out (by kernel_rfl)) ?_
              try go_wp2
              go_roundg k1
              case measure => have := HK1.out; omega
              case rel => exact ⟨(y283), (wrap64 (x4_1 + 1)), (by first | rfl | (simp; done) | (simp [*]; done)), H', ⟨by have := HK1.out; omega⟩, ⟨by (with_reducible repeat (first | apply Kd.R_alloc | apply Kd.R_drewN | apply Kd.R_drew)); exact Kd.R_mono HO285.out (fun _ hk => trivial)⟩, ⟨by repeat (first | (with_reducible first | exact HB.out | apply below_alloc | apply pw_below_drewN | apply below_drew1) | exact HB.out)⟩⟩
            · rw [if_neg c9] at H
              exact absurd H (by simp)
          · rw [if_neg c7] at H
            exact absurd H (by simp)
        · rw [if_neg c5] at H
          exact absurd H (by simp)
      · rw [if_neg c4] at H
        have c4b0 : decide (x4_1 < (l0.length : Int)) = false := decide_eq_false c4
        clear c4
        obtain rfl := Option.some.inj H
        go_wp2
        go_ret
        exact ⟨_, by first | rfl | (simp [errW_none, errW_some] <;> rfl) | (simp [*, errW_none, errW_some] <;> rfl), by (with_reducible repeat (first | apply Kd.R_alloc | apply Kd.R_drewN | apply Kd.R_drew)); exact HO_3.out, by repeat (first | (with_reducible first | exact HB.out | apply below_alloc | apply pw_below_drewN | apply below_drew1) | exact HB.out)⟩

end Go.Proofs.Ytlmlkcobkmhmbaa.Q
end
