-- written by hprint.py (a program of these sessions) out of the translation; Lean checks it
import Derived.Test.YtlmlkcobkmhmbaaQ0
import Derived.Test.YtlmlkcobkmhmbaaQf74
import Derived.Test.YtlmlkcobkmhmbaaQf30
import Derived.Test.YtlmlkcobkmhmbaaQf51
import Derived.Test.YtlmlkcobkmhmbaaQf52
import Derived.Test.YtlmlkcobkmhmbaaQf21
namespace Go.Proofs.Ytlmlkcobkmhmbaa.Q
open Go.RowKit Go.Proofs.YtlmlkcobkmhmbaaW.Hb Go.Proofs.YtlmlkcobkmhmbaaW.PrintWords Go.Proofs.YtlmlkcobkmhmbaaW.PrintLast Go.Proofs.YtlmlkcobkmhmbaaW.PrintMore
attribute [local go_sem] max2_int min2_int max_two min_two max_three min_three max_four min_four   -- for this text's walks alone
set_option linter.unusedVariables false
set_option linter.unusedSimpArgs false

/-! ### message_Fold: function 8, by hand -/
abbrev St := S25
abbrev Rec := S49
def rightR (r : Rec) : Bool := decide (1 ≤ r.f0) && decide (r.f0 ≤ 3) && (decide (r.f0 = 2) || decide (r.f4.length = 0)) && !([r.f1, r.f2, r.f3].any outR) && entB r.f4
theorem rightR_f (r : Rec) : message_RightRecord.f r.f0 r.f1 r.f2 r.f3 r.f4 = some (rightR r) := by
  unfold message_RightRecord.f rightR message_numbers.f message_entries.f
  by_cases h1 : r.f0 ≥ 1
  · by_cases h2 : r.f0 ≤ 3
    · have h1' : decide (1 ≤ r.f0) = true := decide_eq_true h1
      have h2' : decide (r.f0 ≤ 3) = true := decide_eq_true h2
      rw [if_pos h1, if_pos h2, h1', h2']
      by_cases h3 : r.f0 = 2
      · rw [if_pos h3]
        simp only [h3, decide_true, Bool.true_or, Bool.true_and, Option.bind_some]
        cases hn : [r.f1, r.f2, r.f3].any outR <;> simp
      · rw [if_neg h3]
        have h3' : decide (r.f0 = 2) = false := decide_eq_false h3
        rw [h3']
        by_cases h4 : r.f4.length = 0
        · rw [if_pos (by omega)]
          simp only [h4, decide_true, Bool.or_true, Bool.true_and, Option.bind_some]
          cases hn : [r.f1, r.f2, r.f3].any outR <;> simp
        · rw [if_neg (by omega)]
          simp [h4]
    · rw [if_pos h1, if_neg h2]
      simp [h2]
  · rw [if_neg h1]
    have : ¬ 1 ≤ r.f0 := h1
    simp [this]
theorem rightR_f3 {r : Rec} (h : rightR r = true) : 0 ≤ r.f3 ∧ r.f3 ≤ 1099511627776 := by
  simp only [rightR, List.any_cons, List.any_nil, outR, Bool.and_eq_true, Bool.not_eq_true', Bool.or_eq_false_iff, decide_eq_false_iff_not, decide_eq_true_eq] at h
  omega
theorem rightR_k3 {r : Rec} (h : rightR r = true) (h1 : ¬ r.f0 = 1) (h2 : ¬ r.f0 = 2) : r.f0 = 3 := by
  simp only [rightR, Bool.and_eq_true, decide_eq_true_eq] at h
  omega
def fstep (s : St) (r : Rec) : Option St :=
  if rightR r = false then none
  else if r.f0 = 1 then (if r.f1 < s.f0 ∨ r.f1 < r.f2 then none else some ⟨r.f1, r.f2, s.f2, s.f3⟩)
  else if r.f0 = 2 then (if (s.f3.length : Int) < r.f3 ∨ 2048 - r.f3 < (r.f4.length : Int) then none else some ⟨s.f0, s.f1, s.f2, s.f3.take r.f3.toNat ++ r.f4⟩)
  else (if (s.f3.length : Int) < r.f3 ∨ r.f3 < s.f2 then none else some ⟨s.f0, s.f1, r.f3, s.f3⟩)
def foldR (l : List Rec) : Option St := l.foldlM fstep z25
theorem foldR_none (l : List Rec) (k : Nat) (s : St) (hk : k < l.length) (h : foldR (l.take k) = some s) (hs : fstep s l[k] = none) : foldR l = none := by
  have e : l = l.take k ++ l[k] :: l.drop (k + 1) := by rw [List.getElem_cons_drop, List.take_append_drop]
  unfold foldR at h ⊢
  rw [e, List.foldlM_append, h]
  show List.foldlM fstep s (l[k] :: List.drop (k + 1) l) = none
  rw [List.foldlM_cons, hs]
  rfl
theorem foldR_some (l : List Rec) (k : Nat) (s s' : St) (hk : k < l.length) (h : foldR (l.take k) = some s) (hs : fstep s l[k] = some s') : foldR (l.take (k + 1)) = some s' := by
  unfold foldR at h ⊢
  rw [List.take_succ_eq_append_getElem hk, List.foldlM_append, h]
  simp [hs]
def fres (l : List Rec) : St × Bool := match foldR l with | some s => (s, true) | none => (z25, false)
def message_Fold.f (l0 : List Rec) : Option (Int × Int × Int × List S74 × Bool) := some ((fres l0).1.f0, (fres l0).1.f1, (fres l0).1.f2, (fres l0).1.f3, (fres l0).2)
/-- What Fold hands back. -/
def FoldRes (w : World) (s : St) (b : Bool) (e : Ending) (w' : World) : Prop := ∃ v3_ : Value, e = .returned (.tuple #[.agg #[.int .i64 s.f0, .int .i64 s.f1, .int .i64 s.f2, v3_], .bool b]) ∧ Kd.R k74 74 w' w.heap.size (fun _ => True) v3_ s.f3 ∧ Below w.heap.size w w'
theorem at_RecN {w : World} {A : Option Addr} {n : Nat} {xs : List Rec} (h : Kd.C k49 w A n xs) (i : Nat) (hi : i < xs.length) :
    ∃ ad A4 c4, A = some ad ∧ w.cell? (ad.add (i * 5)) = some (.int .i64 xs[i].f0) ∧ w.cell? ⟨(ad.add (i * 5)).block, (ad.add (i * 5)).off + 1, none⟩ = some (.int .i64 xs[i].f1) ∧ w.cell? ⟨(ad.add (i * 5)).block, (ad.add (i * 5)).off + 2, none⟩ = some (.int .i64 xs[i].f2) ∧ w.cell? ⟨(ad.add (i * 5)).block, (ad.add (i * 5)).off + 3, none⟩ = some (.int .i64 xs[i].f3) ∧ w.cell? ⟨(ad.add (i * 5)).block, (ad.add (i * 5)).off + 4, none⟩ = some (.slice A4 xs[i].f4.length c4) ∧ xs[i].f4.length ≤ c4 ∧ Kd.C k74 w A4 xs[i].f4.length xs[i].f4 := by
  obtain ⟨ad, A4, c4, e, h0, h1, h2, h3, h4, h5, h6⟩ := at_T49 h i (by omega) (by have := h.1; omega)
  rw [Int.toNat_natCast] at h0 h1 h2 h3 h4
  have e2 : rd_T49 xs i = xs[i] := by simp [rd_T49, List.getD_eq_getElem?_getD, hi]
  rw [e2] at h0 h1 h2 h3 h4 h5 h6
  exact ⟨ad, A4, c4, e, h0, h1, h2, h3, h4, h5, h6⟩
theorem fold_facts {wr w1 : World} {g : Nat} {a b c v r0 r1 r2 r3 r4 : Value} (hS : Blk wr g 25 #[a, b, c, v]) (hb : Below (wr.alloc (.cells #[r0, r1, r2, r3, r4] 49)).heap.size (wr.alloc (.cells #[r0, r1, r2, r3, r4] 49)) w1) :
    w1.cell? ⟨wr.heap.size, 0, none⟩ = some r0 ∧ w1.cell? ⟨wr.heap.size, 1, none⟩ = some r1 ∧ w1.cell? ⟨wr.heap.size, 2, none⟩ = some r2 ∧ w1.cell? ⟨wr.heap.size, 3, none⟩ = some r3 ∧ w1.cell? ⟨wr.heap.size, 4, none⟩ = some r4 ∧
    w1.cell? ⟨g, 0, none⟩ = some a ∧ w1.cell? ⟨g, 1, none⟩ = some b ∧ w1.cell? ⟨g, 2, none⟩ = some c ∧ w1.cell? ⟨g, 3, none⟩ = some v ∧
    w1.frozen? ⟨g, 0, none⟩ = false ∧ w1.frozen? ⟨g, 1, none⟩ = false ∧ w1.frozen? ⟨g, 2, none⟩ = false ∧ w1.frozen? ⟨g, 3, none⟩ = false ∧ Aside0 (Blk w1 g 25 #[a, b, c, v]) := by
  have h1 := (hS.alloc (.cells #[r0, r1, r2, r3, r4] 49)).after hb
  have h2 := (Blk.new wr 49 #[r0, r1, r2, r3, r4]).after hb
  exact ⟨h2.cell 0, h2.cell 1, h2.cell 2, h2.cell 3, h2.cell 4, h1.cell 0, h1.cell 1, h1.cell 2, h1.cell 3, h1.frozen 0, h1.frozen 1, h1.frozen 2, h1.frozen 3, ⟨h1⟩⟩
theorem fold_ret {R : Ending → World → Prop} {a : Act} {W : World} {g : Nat} {c0 c1 c2 c3 : Value} {b : Bool} (hB : Blk W g 25 #[c0, c1, c2, c3]) (h2 : a.tmps[2]? = some (.pointer (some ⟨g, 0, none⟩))) (h3 : a.tmps[3]? = some (.bool b)) (hd : a.defers = []) (hR : R (.returned (.tuple #[.agg #[c0, c1, c2, c3], .bool b])) W) :
    bodyPost Try.prog Try.f8 R Exit.ret a W := by
  have q0 : W.cell? ⟨g, 0, none⟩ = some c0 := hB.cell 0
  have q1 : W.cell? ⟨g, 1, none⟩ = some c1 := hB.cell 1
  have q2 : W.cell? ⟨g, 2, none⟩ = some c2 := hB.cell 2
  have q3 : W.cell? ⟨g, 3, none⟩ = some c3 := hB.cell 3
  exact bodyPost_ret (v := .tuple #[.agg #[c0, c1, c2, c3], .bool b]) (by simp [results, Try.results8, go_sem, q0, q1, q2, q3, h2, h3]) hd hR
theorem fres_none {l : List Rec} (h : foldR l = none) : fres l = (z25, false) := by simp [fres, h]
theorem fres_some {l : List Rec} {s : St} (h : foldR l = some s) : fres l = (s, true) := by simp [fres, h]
theorem fold_zero {w W : World} {l0 : List Rec} (h : foldR l0 = none) (hW : Below w.heap.size w W) : FoldRes w (fres l0).1 (fres l0).2 (.returned (.tuple #[.agg #[.int .i64 0, .int .i64 0, .int .i64 0, .slice none 0 0], .bool false])) W := by
  rw [fres_none h]
  exact ⟨_, rfl, Kd.R_nil _ _ _ _ _, hW⟩
set_option maxRecDepth 100000 in
set_option maxHeartbeats 1000000 in
theorem message_Fold.walk (A0 : Option Addr) (c0 : Nat) (l0 : List Rec) (w : World) (hr0 : Kd.C k49 w A0 l0.length l0) (hc0 : l0.length ≤ c0) :
    Calls Try.prog 8 #[.slice A0 l0.length c0] w (FoldRes w (fres l0).1 (fres l0).2) := by
  have HR := Aside0.mk hr0
  clear hr0
  have hm : l0.length ≤ 9223372036854775807 := HR.out.2.1
  go_enter Try.func8, Try.ntmps8
  go_wp2
  go_loopw [3, 10] (fun ok i wr => ∃ (k : Nat) (s : St) (v : Value), k ≤ l0.length ∧ i = .int .i64 k ∧ ok = .bool false ∧ Aside0 (foldR (l0.take k) = some s) ∧ Aside0 (Blk wr w.heap.size 25 #[.int .i64 s.f0, .int .i64 s.f1, .int .i64 s.f2, v]) ∧ Aside0 (Kd.R k74 74 wr w.heap.size (fun _ => True) v s.f3) ∧ Aside0 (Below w.heap.size w wr)) (fun _ i _ => l0.length - (intOf i).toNat)
  case atStart => exact ⟨0, z25, .slice none 0 0, Nat.zero_le _, rfl, rfl, ⟨rfl⟩, ⟨Blk.new _ _ _⟩, ⟨Kd.R_nil _ _ _ _ _⟩, ⟨(Below.refl _ _).alloc (Nat.le_refl _) _⟩⟩
  case round =>
    obtain ⟨k, s, v, hk, rfl, rfl, HF, HS, HV, HB⟩ := hrel
    by_cases hlt : k < l0.length
    · obtain ⟨ad, A4, c4, e, h0, h1, h2, h3, h4, h5, h6⟩ := at_RecN HR.out k hlt
      cases e
      obtain ⟨r, hr⟩ : ∃ r, r = l0[k] := ⟨_, rfl⟩
      rw [← hr] at h0 h1 h2 h3 h4 h5 h6
      have HN := Aside0.mk (show fstep s r = none → foldR l0 = none from fun h => foldR_none l0 k s hlt HF.out (by rw [← hr]; exact h))
      have HY := Aside0.mk (show ∀ s', fstep s r = some s' → foldR (l0.take (k + 1)) = some s' from fun s' h => foldR_some l0 k s s' hlt HF.out (by rw [← hr]; exact h))
      clear hr
      replace h0 := (HB.out.cell (World.block_lt_of_cell? w _ h0)).trans h0
      replace h1 := (HB.out.cell (World.block_lt_of_cell? w _ h1)).trans h1
      replace h2 := (HB.out.cell (World.block_lt_of_cell? w _ h2)).trans h2
      replace h3 := (HB.out.cell (World.block_lt_of_cell? w _ h3)).trans h3
      replace h4 := (HB.out.cell (World.block_lt_of_cell? w _ h4)).trans h4
      have HC := Aside0.mk (Kd.C_below h6 HB.out)
      clear h6
      have hv : ∃ A3 c3, v = .slice A3 s.f3.length c3 ∧ s.f3.length ≤ c3 := by
        obtain ⟨A3, c3, e3, hl3, _⟩ := Kd.R_reads HV.out
        exact ⟨A3, c3, e3, hl3⟩
      obtain ⟨A3, c3, rfl, hl3⟩ := hv
      have hs3 : wr.cell? ⟨w.heap.size, 3, none⟩ = some (.slice A3 s.f3.length c3) := HS.out.cell 3
      have hlw : w.heap.size < wr.heap.size := HS.out.lt
      have HRF := Aside0.mk (rightR_f r)
      cases hb : rightR r with
      | false =>
        rw [hb] at HRF
        have HZ := Aside0.mk (HN.out (by simp [fstep, hb]))
        clear hb HN HY
        by_cases k1 : r.f0 = 1
        · have k1b : (r.f0 == 1) = true := beq_iff_eq.mpr k1
          clear k1
          go_wp2_with (go_at_call 21; (with_reducible refine (message_RightRecord.calls r.f0 r.f1 r.f2 r.f3 A4 c4 r.f4 false _ (Kd.C_alloc HC.out _) h5 HRF.out).mono ?_); rintro e w1 ⟨rfl, hb1⟩; obtain ⟨r0, r1, r2, r3, r4, s0, s1, s2, s3, f0, f1, f2, f3, HS1⟩ := fold_facts HS.out hb1; have HV1 := Aside0.mk (Kd.R_below (Kd.R_alloc HV.out _) hb1); have HC1 := Aside0.mk (Kd.C_below (Kd.C_alloc HC.out _) hb1); have HB1 := Aside0.mk ((HB.out.alloc HB.out.size _).trans (hb1.mono (by simp; omega))); clear hb1)
          go_region
          go_wp2
          with_reducible refine fold_ret (g := w.heap.size) (b := false) ((((((HS1.out.set_ 0 _).set_ 1 _).set_ 0 _).set_ 1 _).set_ 2 _).set_ 3 _).drew ?_ ?_ ?_ ?_
          · rfl
          · rfl
          · rfl
          · exact fold_zero HZ.out (((((((HB1.out.setCell (Nat.le_refl _) _).setCell (Nat.le_refl _) _).setCell (Nat.le_refl _) _).setCell (Nat.le_refl _) _).setCell (Nat.le_refl _) _).setCell (Nat.le_refl _) _).drew)
        · have k1b : (r.f0 == 1) = false := beq_eq_false_iff_ne.mpr k1
          by_cases k2 : r.f0 = 2
          · have k2b : (r.f0 == 2) = true := beq_iff_eq.mpr k2
            clear k1 k2
            go_wp2_with (go_at_call 21; (with_reducible refine (message_RightRecord.calls r.f0 r.f1 r.f2 r.f3 A4 c4 r.f4 false _ (Kd.C_alloc HC.out _) h5 HRF.out).mono ?_); rintro e w1 ⟨rfl, hb1⟩; obtain ⟨r0, r1, r2, r3, r4, s0, s1, s2, s3, f0, f1, f2, f3, HS1⟩ := fold_facts HS.out hb1; have HV1 := Aside0.mk (Kd.R_below (Kd.R_alloc HV.out _) hb1); have HC1 := Aside0.mk (Kd.C_below (Kd.C_alloc HC.out _) hb1); have HB1 := Aside0.mk ((HB.out.alloc HB.out.size _).trans (hb1.mono (by simp; omega))); clear hb1)
            with_reducible refine fold_ret (g := w.heap.size) (b := false) ((((HS1.out.set_ 0 _).set_ 1 _).set_ 2 _).set_ 3 _) ?_ ?_ ?_ ?_
            · rfl
            · rfl
            · rfl
            · exact fold_zero HZ.out ((((HB1.out.setCell (Nat.le_refl _) _).setCell (Nat.le_refl _) _).setCell (Nat.le_refl _) _).setCell (Nat.le_refl _) _)
          · have k2b : (r.f0 == 2) = false := beq_eq_false_iff_ne.mpr k2
            by_cases k3 : r.f0 = 3
            · have k3b : (r.f0 == 3) = true := beq_iff_eq.mpr k3
              clear k1 k2 k3
              go_wp2_with (go_at_call 21; (with_reducible refine (message_RightRecord.calls r.f0 r.f1 r.f2 r.f3 A4 c4 r.f4 false _ (Kd.C_alloc HC.out _) h5 HRF.out).mono ?_); rintro e w1 ⟨rfl, hb1⟩; obtain ⟨r0, r1, r2, r3, r4, s0, s1, s2, s3, f0, f1, f2, f3, HS1⟩ := fold_facts HS.out hb1; have HV1 := Aside0.mk (Kd.R_below (Kd.R_alloc HV.out _) hb1); have HC1 := Aside0.mk (Kd.C_below (Kd.C_alloc HC.out _) hb1); have HB1 := Aside0.mk ((HB.out.alloc HB.out.size _).trans (hb1.mono (by simp; omega))); clear hb1)
              with_reducible refine fold_ret (g := w.heap.size) (b := false) (((((HS1.out.set_ 2 _).set_ 0 _).set_ 1 _).set_ 2 _).set_ 3 _) ?_ ?_ ?_ ?_
              · rfl
              · rfl
              · rfl
              · exact fold_zero HZ.out (((((HB1.out.setCell (Nat.le_refl _) _).setCell (Nat.le_refl _) _).setCell (Nat.le_refl _) _).setCell (Nat.le_refl _) _).setCell (Nat.le_refl _) _)
            · have k3b : (r.f0 == 3) = false := beq_eq_false_iff_ne.mpr k3
              clear k1 k2 k3
              go_wp2_with (go_at_call 21; (with_reducible refine (message_RightRecord.calls r.f0 r.f1 r.f2 r.f3 A4 c4 r.f4 false _ (Kd.C_alloc HC.out _) h5 HRF.out).mono ?_); rintro e w1 ⟨rfl, hb1⟩; obtain ⟨r0, r1, r2, r3, r4, s0, s1, s2, s3, f0, f1, f2, f3, HS1⟩ := fold_facts HS.out hb1; have HV1 := Aside0.mk (Kd.R_below (Kd.R_alloc HV.out _) hb1); have HC1 := Aside0.mk (Kd.C_below (Kd.C_alloc HC.out _) hb1); have HB1 := Aside0.mk ((HB.out.alloc HB.out.size _).trans (hb1.mono (by simp; omega))); clear hb1)
              with_reducible refine fold_ret (g := w.heap.size) (b := false) ((((HS1.out.set_ 0 _).set_ 1 _).set_ 2 _).set_ 3 _) ?_ ?_ ?_ ?_
              · rfl
              · rfl
              · rfl
              · exact fold_zero HZ.out ((((HB1.out.setCell (Nat.le_refl _) _).setCell (Nat.le_refl _) _).setCell (Nat.le_refl _) _).setCell (Nat.le_refl _) _)
      | true =>
        rw [hb] at HRF
        have Hb := Aside0.mk hb
        clear hb
        by_cases k1 : r.f0 = 1
        · have k1b : (r.f0 == 1) = true := beq_iff_eq.mpr k1
          have HE := Aside0.mk (show fstep s r = if r.f1 < s.f0 ∨ r.f1 < r.f2 then none else some ⟨r.f1, r.f2, s.f2, s.f3⟩ by simp [fstep, Hb.out, k1])
          clear k1
          by_cases a1 : r.f1 < s.f0
          · have HZ := Aside0.mk (HN.out (by rw [HE.out, if_pos (.inl a1)]))
            have d1 : decide (r.f1 < s.f0) = true := decide_eq_true a1
            go_wp2_with (go_at_call 21; (with_reducible refine (message_RightRecord.calls r.f0 r.f1 r.f2 r.f3 A4 c4 r.f4 true _ (Kd.C_alloc HC.out _) h5 HRF.out).mono ?_); rintro e w1 ⟨rfl, hb1⟩; obtain ⟨r0, r1, r2, r3, r4, s0, s1, s2, s3, f0, f1, f2, f3, HS1⟩ := fold_facts HS.out hb1; have HV1 := Aside0.mk (Kd.R_below (Kd.R_alloc HV.out _) hb1); have HC1 := Aside0.mk (Kd.C_below (Kd.C_alloc HC.out _) hb1); have HB1 := Aside0.mk ((HB.out.alloc HB.out.size _).trans (hb1.mono (by simp; omega))); clear hb1)
            go_region
            go_wp2
            with_reducible refine fold_ret (g := w.heap.size) (b := false) ((((((HS1.out.set_ 0 _).set_ 1 _).set_ 0 _).set_ 1 _).set_ 2 _).set_ 3 _).drew ?_ ?_ ?_ ?_
            · rfl
            · rfl
            · rfl
            · exact fold_zero HZ.out (((((((HB1.out.setCell (Nat.le_refl _) _).setCell (Nat.le_refl _) _).setCell (Nat.le_refl _) _).setCell (Nat.le_refl _) _).setCell (Nat.le_refl _) _).setCell (Nat.le_refl _) _).drew)
          · have d1 : decide (r.f1 < s.f0) = false := decide_eq_false a1
            by_cases a2 : r.f1 < r.f2
            · have HZ := Aside0.mk (HN.out (by rw [HE.out, if_pos (.inr a2)]))
              have d2 : decide (r.f1 < r.f2) = true := decide_eq_true a2
              go_wp2_with (go_at_call 21; (with_reducible refine (message_RightRecord.calls r.f0 r.f1 r.f2 r.f3 A4 c4 r.f4 true _ (Kd.C_alloc HC.out _) h5 HRF.out).mono ?_); rintro e w1 ⟨rfl, hb1⟩; obtain ⟨r0, r1, r2, r3, r4, s0, s1, s2, s3, f0, f1, f2, f3, HS1⟩ := fold_facts HS.out hb1; have HV1 := Aside0.mk (Kd.R_below (Kd.R_alloc HV.out _) hb1); have HC1 := Aside0.mk (Kd.C_below (Kd.C_alloc HC.out _) hb1); have HB1 := Aside0.mk ((HB.out.alloc HB.out.size _).trans (hb1.mono (by simp; omega))); clear hb1)
              go_region
              go_wp2
              with_reducible refine fold_ret (g := w.heap.size) (b := false) ((((((HS1.out.set_ 0 _).set_ 1 _).set_ 0 _).set_ 1 _).set_ 2 _).set_ 3 _).drew ?_ ?_ ?_ ?_
              · rfl
              · rfl
              · rfl
              · exact fold_zero HZ.out (((((((HB1.out.setCell (Nat.le_refl _) _).setCell (Nat.le_refl _) _).setCell (Nat.le_refl _) _).setCell (Nat.le_refl _) _).setCell (Nat.le_refl _) _).setCell (Nat.le_refl _) _).drew)
            · have d2 : decide (r.f1 < r.f2) = false := decide_eq_false a2
              have HG := Aside0.mk (HY.out _ (by rw [HE.out, if_neg (by omega)]))
              go_wp2_with (go_at_call 21; (with_reducible refine (message_RightRecord.calls r.f0 r.f1 r.f2 r.f3 A4 c4 r.f4 true _ (Kd.C_alloc HC.out _) h5 HRF.out).mono ?_); rintro e w1 ⟨rfl, hb1⟩; obtain ⟨r0, r1, r2, r3, r4, s0, s1, s2, s3, f0, f1, f2, f3, HS1⟩ := fold_facts HS.out hb1; have HV1 := Aside0.mk (Kd.R_below (Kd.R_alloc HV.out _) hb1); have HC1 := Aside0.mk (Kd.C_below (Kd.C_alloc HC.out _) hb1); have HB1 := Aside0.mk ((HB.out.alloc HB.out.size _).trans (hb1.mono (by simp; omega))); clear hb1)
              go_region
              go_wp2
              go_roundw
              case rel => exact ⟨k + 1, ⟨r.f1, r.f2, s.f2, s.f3⟩, _, by omega, by go_num, rfl, HG, ⟨((HS1.out.set_ 0 _).set_ 1 _).drew⟩, ⟨Kd.R_drew (Kd.R_set (Kd.R_set HV1.out HS1.out (by decide) 0 _) (HS1.out.set_ 0 _) (by decide) 1 _)⟩, ⟨((HB1.out.setCell (Nat.le_refl _) _).setCell (Nat.le_refl _) _).drew⟩⟩
              case measure => simp [intOf]; omega
        · have k1b : (r.f0 == 1) = false := beq_eq_false_iff_ne.mpr k1
          by_cases k2 : r.f0 = 2
          · have k2b : (r.f0 == 2) = true := beq_iff_eq.mpr k2
            have HE := Aside0.mk (show fstep s r = (if (s.f3.length : Int) < r.f3 ∨ 2048 - r.f3 < (r.f4.length : Int) then none else some ⟨s.f0, s.f1, s.f2, s.f3.take r.f3.toNat ++ r.f4⟩) by simp [fstep, Hb.out, k2])
            clear k1 k2
            obtain ⟨hr3a, hr3b⟩ := rightR_f3 Hb.out
            by_cases a1 : (s.f3.length : Int) < r.f3
            · have HZ := Aside0.mk (HN.out (by rw [HE.out, if_pos (.inl a1)]))
              go_wp2_with (go_at_call 21; (with_reducible refine (message_RightRecord.calls r.f0 r.f1 r.f2 r.f3 A4 c4 r.f4 true _ (Kd.C_alloc HC.out _) h5 HRF.out).mono ?_); rintro e w1 ⟨rfl, hb1⟩; obtain ⟨r0, r1, r2, r3, r4, s0, s1, s2, s3, f0, f1, f2, f3, HS1⟩ := fold_facts HS.out hb1; have HV1 := Aside0.mk (Kd.R_below (Kd.R_alloc HV.out _) hb1); have HC1 := Aside0.mk (Kd.C_below (Kd.C_alloc HC.out _) hb1); have HB1 := Aside0.mk ((HB.out.alloc HB.out.size _).trans (hb1.mono (by simp; omega))); clear hb1)
              with_reducible refine fold_ret (g := w.heap.size) (b := false) ((((HS1.out.set_ 0 _).set_ 1 _).set_ 2 _).set_ 3 _) ?_ ?_ ?_ ?_
              · rfl
              · rfl
              · rfl
              · exact fold_zero HZ.out ((((HB1.out.setCell (Nat.le_refl _) _).setCell (Nat.le_refl _) _).setCell (Nat.le_refl _) _).setCell (Nat.le_refl _) _)
            · by_cases a2 : 2048 - r.f3 < (r.f4.length : Int)
              · have HZ := Aside0.mk (HN.out (by rw [HE.out, if_pos (.inr a2)]))
                go_wp2_with (go_at_call 21; (with_reducible refine (message_RightRecord.calls r.f0 r.f1 r.f2 r.f3 A4 c4 r.f4 true _ (Kd.C_alloc HC.out _) h5 HRF.out).mono ?_); rintro e w1 ⟨rfl, hb1⟩; obtain ⟨r0, r1, r2, r3, r4, s0, s1, s2, s3, f0, f1, f2, f3, HS1⟩ := fold_facts HS.out hb1; have HV1 := Aside0.mk (Kd.R_below (Kd.R_alloc HV.out _) hb1); have HC1 := Aside0.mk (Kd.C_below (Kd.C_alloc HC.out _) hb1); have HB1 := Aside0.mk ((HB.out.alloc HB.out.size _).trans (hb1.mono (by simp; omega))); clear hb1)
                with_reducible refine fold_ret (g := w.heap.size) (b := false) ((((HS1.out.set_ 0 _).set_ 1 _).set_ 2 _).set_ 3 _) ?_ ?_ ?_ ?_
                · rfl
                · rfl
                · rfl
                · exact fold_zero HZ.out ((((HB1.out.setCell (Nat.le_refl _) _).setCell (Nat.le_refl _) _).setCell (Nat.le_refl _) _).setCell (Nat.le_refl _) _)
              · have d1 : decide ((s.f3.length : Int) < r.f3) = false := decide_eq_false a1
                have d2 : decide (2048 - r.f3 < (r.f4.length : Int)) = false := decide_eq_false a2
                go_wp2_with (go_at_call 21; (with_reducible refine (message_RightRecord.calls r.f0 r.f1 r.f2 r.f3 A4 c4 r.f4 true _ (Kd.C_alloc HC.out _) h5 HRF.out).mono ?_); rintro e w1 ⟨rfl, hb1⟩; obtain ⟨r0, r1, r2, r3, r4, s0, s1, s2, s3, f0, f1, f2, f3, HS1⟩ := fold_facts HS.out hb1; have HV1 := Aside0.mk (Kd.R_below (Kd.R_alloc HV.out _) hb1); have HC1 := Aside0.mk (Kd.C_below (Kd.C_alloc HC.out _) hb1); have HB1 := Aside0.mk ((HB.out.alloc HB.out.size _).trans (hb1.mono (by simp; omega))); clear hb1)
                have hn1 : (s.f3.take r.f3.toNat).length = r.f3.toNat := by rw [List.length_take]; omega
                have hCs : Kd.C k74 w1 A3 s.f3.length s.f3 := by
                  obtain ⟨A5, c5, e5, _, h5'⟩ := Kd.R_reads HV1.out
                  injection e5 with e6 e7 e8
                  rw [e6]
                  exact h5'
                have HL2 := Aside0.mk (C_lit_two k74 w1 w1.heap.size rfl 74 23 A3 A4 r.f3.toNat r.f4.length c3 c4 (s.f3.take r.f3.toNat) r.f4 hn1 rfl (Kd.C_take hCs (by omega)) HC1.out (by omega) h5)
                have HSM := Aside0.mk (show ([s.f3.take r.f3.toNat, r.f4] : List (List S74)).flatten.length * 24 ≤ 140737488355328 by simp only [List.flatten_cons, List.flatten_nil, List.append_nil, List.length_append]; omega)
                clear hn1 hCs
                have hb1 : 0 ≤ r.f3 ∧ r.f3 ≤ (c3 : Int) := by omega
                clear d1 d2
                have HG := Aside0.mk (HY.out _ (by rw [HE.out, if_neg (by omega)]))
                obtain ⟨L, hL⟩ : ∃ L, L = [s.f3.take r.f3.toNat, r.f4].flatten := ⟨_, rfl⟩
                have HL := Aside0.mk hL
                clear hL
                go_region_with (go_at_call 30; (with_reducible refine (message_Entry_30.calls (some ⟨w1.heap.size, 0, none⟩) 2 2 [s.f3.take r.f3.toNat, r.f4] _ rfl (Kd.C_drew HL2.out) (Nat.le_refl 2) HSM.out).mono ?_); rintro e w2 ⟨v2, rfl, hR2, hB2⟩; rw [← HL.out] at hR2; obtain ⟨A9, c9, rfl⟩ := Kd.R_slice hR2; have HS2 := ((HS1.out.alloc (.cells #[.slice A3 r.f3.toNat c3, .slice A4 r.f4.length c4] 23)).drew).after hB2; have g3 := HS2.frozen 3; have g4 : w2.cell? ⟨w.heap.size, 3, none⟩ = some (.slice A3 s.f3.length c3) := HS2.cell 3; have HS3 := Aside0.mk HS2; have HR3 := Aside0.mk hR2; have HB3 := Aside0.mk hB2; clear HS2 hR2 hB2)
                all_goals
                  go_wp2
                  go_roundw
                  case rel =>
                    have hsz : w.heap.size ≤ (w1.alloc (.cells #[.slice A3 r.f3.toNat c3, .slice A4 r.f4.length c4] 23)).drew.heap.size := ((HB1.out.alloc HB1.out.size (.cells #[.slice A3 r.f3.toNat c3, .slice A4 r.f4.length c4] 23)).drew).size
                    refine ⟨k + 1, ⟨s.f0, s.f1, s.f2, s.f3.take r.f3.toNat ++ r.f4⟩, _, by omega, by go_num, rfl, HG, ⟨HS3.out.set_ 3 _⟩, ⟨?_⟩, ⟨((((HB1.out.alloc HB1.out.size _).drew).trans (HB3.out.mono hsz)).setCell (Nat.le_refl _) _)⟩⟩
                    have hX := Kd.R_set (Kd.R_lower HR3.out hsz) HS3.out (by decide) 3 (.slice A9 L.length c9)
                    rw [show s.f3.take r.f3.toNat ++ r.f4 = L by rw [HL.out]; simp]
                    exact hX
                  case measure => simp [intOf]; omega
          · have k2b : (r.f0 == 2) = false := beq_eq_false_iff_ne.mpr k2
            have k3 : r.f0 = 3 := rightR_k3 Hb.out k1 k2
            have k3b : (r.f0 == 3) = true := beq_iff_eq.mpr k3
            have HE := Aside0.mk (show fstep s r = (if (s.f3.length : Int) < r.f3 ∨ r.f3 < s.f2 then none else some ⟨s.f0, s.f1, r.f3, s.f3⟩) by simp [fstep, Hb.out, k3])
            clear k1 k2 k3
            by_cases a1 : (s.f3.length : Int) < r.f3
            · have HZ := Aside0.mk (HN.out (by rw [HE.out, if_pos (.inl a1)]))
              go_wp2_with (go_at_call 21; (with_reducible refine (message_RightRecord.calls r.f0 r.f1 r.f2 r.f3 A4 c4 r.f4 true _ (Kd.C_alloc HC.out _) h5 HRF.out).mono ?_); rintro e w1 ⟨rfl, hb1⟩; obtain ⟨r0, r1, r2, r3, r4, s0, s1, s2, s3, f0, f1, f2, f3, HS1⟩ := fold_facts HS.out hb1; have HV1 := Aside0.mk (Kd.R_below (Kd.R_alloc HV.out _) hb1); have HC1 := Aside0.mk (Kd.C_below (Kd.C_alloc HC.out _) hb1); have HB1 := Aside0.mk ((HB.out.alloc HB.out.size _).trans (hb1.mono (by simp; omega))); clear hb1)
              with_reducible refine fold_ret (g := w.heap.size) (b := false) (((((HS1.out.set_ 2 _).set_ 0 _).set_ 1 _).set_ 2 _).set_ 3 _) ?_ ?_ ?_ ?_
              · rfl
              · rfl
              · rfl
              · exact fold_zero HZ.out (((((HB1.out.setCell (Nat.le_refl _) _).setCell (Nat.le_refl _) _).setCell (Nat.le_refl _) _).setCell (Nat.le_refl _) _).setCell (Nat.le_refl _) _)
            · by_cases a2 : r.f3 < s.f2
              · have HZ := Aside0.mk (HN.out (by rw [HE.out, if_pos (.inr a2)]))
                go_wp2_with (go_at_call 21; (with_reducible refine (message_RightRecord.calls r.f0 r.f1 r.f2 r.f3 A4 c4 r.f4 true _ (Kd.C_alloc HC.out _) h5 HRF.out).mono ?_); rintro e w1 ⟨rfl, hb1⟩; obtain ⟨r0, r1, r2, r3, r4, s0, s1, s2, s3, f0, f1, f2, f3, HS1⟩ := fold_facts HS.out hb1; have HV1 := Aside0.mk (Kd.R_below (Kd.R_alloc HV.out _) hb1); have HC1 := Aside0.mk (Kd.C_below (Kd.C_alloc HC.out _) hb1); have HB1 := Aside0.mk ((HB.out.alloc HB.out.size _).trans (hb1.mono (by simp; omega))); clear hb1)
                with_reducible refine fold_ret (g := w.heap.size) (b := false) (((((HS1.out.set_ 2 _).set_ 0 _).set_ 1 _).set_ 2 _).set_ 3 _) ?_ ?_ ?_ ?_
                · rfl
                · rfl
                · rfl
                · exact fold_zero HZ.out (((((HB1.out.setCell (Nat.le_refl _) _).setCell (Nat.le_refl _) _).setCell (Nat.le_refl _) _).setCell (Nat.le_refl _) _).setCell (Nat.le_refl _) _)
              · have HG := Aside0.mk (HY.out _ (by rw [HE.out, if_neg (by omega)]))
                go_wp2_with (go_at_call 21; (with_reducible refine (message_RightRecord.calls r.f0 r.f1 r.f2 r.f3 A4 c4 r.f4 true _ (Kd.C_alloc HC.out _) h5 HRF.out).mono ?_); rintro e w1 ⟨rfl, hb1⟩; obtain ⟨r0, r1, r2, r3, r4, s0, s1, s2, s3, f0, f1, f2, f3, HS1⟩ := fold_facts HS.out hb1; have HV1 := Aside0.mk (Kd.R_below (Kd.R_alloc HV.out _) hb1); have HC1 := Aside0.mk (Kd.C_below (Kd.C_alloc HC.out _) hb1); have HB1 := Aside0.mk ((HB.out.alloc HB.out.size _).trans (hb1.mono (by simp; omega))); clear hb1)
                go_roundw
                case rel => exact ⟨k + 1, ⟨s.f0, s.f1, r.f3, s.f3⟩, _, by omega, by go_num, rfl, HG, ⟨HS1.out.set_ 2 _⟩, ⟨Kd.R_set HV1.out HS1.out (by decide) 2 _⟩, ⟨HB1.out.setCell (Nat.le_refl _) _⟩⟩
                case measure => simp [intOf]; omega
    · have hT : l0.take k = l0 := List.take_of_length_le (by omega)
      have HF2 := Aside0.mk (show foldR l0 = some s by rw [← hT]; exact HF.out)
      clear hT HF
      obtain ⟨A3, c3, rfl, hl3⟩ : ∃ A3 c3, v = .slice A3 s.f3.length c3 ∧ s.f3.length ≤ c3 := by
        obtain ⟨A3, c3, e3, hl3, _⟩ := Kd.R_reads HV.out
        exact ⟨A3, c3, e3, hl3⟩
      have s0 : wr.cell? ⟨w.heap.size, 0, none⟩ = some (.int .i64 s.f0) := HS.out.cell 0
      have s1 : wr.cell? ⟨w.heap.size, 1, none⟩ = some (.int .i64 s.f1) := HS.out.cell 1
      have s2 : wr.cell? ⟨w.heap.size, 2, none⟩ = some (.int .i64 s.f2) := HS.out.cell 2
      have s3 : wr.cell? ⟨w.heap.size, 3, none⟩ = some (.slice A3 s.f3.length c3) := HS.out.cell 3
      have f0 := HS.out.frozen 0
      have f1 := HS.out.frozen 1
      have f2 := HS.out.frozen 2
      have f3 := HS.out.frozen 3
      go_wp2
      with_reducible refine fold_ret (g := w.heap.size) (b := true) ((((HS.out.set_ 0 _).set_ 1 _).set_ 2 _).set_ 3 _) ?_ ?_ ?_ ?_
      · rfl
      · rfl
      · rfl
      · rw [fres_some HF2.out]
        exact ⟨_, rfl, Kd.R_set (Kd.R_set (Kd.R_set (Kd.R_set HV.out HS.out (by decide) 0 _) (HS.out.set_ 0 _) (by decide) 1 _) ((HS.out.set_ 0 _).set_ 1 _) (by decide) 2 _) (((HS.out.set_ 0 _).set_ 1 _).set_ 2 _) (by decide) 3 _, ((((HB.out.setCell (Nat.le_refl _) _).setCell (Nat.le_refl _) _).setCell (Nat.le_refl _) _).setCell (Nat.le_refl _) _)⟩
theorem message_Fold.calls (A0 : Option Addr) (c0 : Nat) (l0 : List Rec) (r1 : Int) (r2 : Int) (r3 : Int) (r4 : List S74) (r5 : Bool) (w : World) (hr0 : Kd.C k49 w A0 l0.length l0) (hc0 : l0.length ≤ c0) (h : message_Fold.f l0 = some (r1, r2, r3, r4, r5)) :
    Calls Try.prog 8 #[.slice A0 l0.length c0] w fun e w' => ∃ v3_ : Value, e = .returned (.tuple #[.agg #[.int .i64 r1, .int .i64 r2, .int .i64 r3, v3_], .bool r5]) ∧ Kd.R k74 74 w' w.heap.size (fun _ => True) v3_ r4 ∧ Below w.heap.size w w' := by
  simp only [message_Fold.f, Option.some.injEq, Prod.mk.injEq] at h
  obtain ⟨rfl, rfl, rfl, rfl, rfl⟩ := h
  exact message_Fold.walk A0 c0 l0 w hr0 hc0


end Go.Proofs.Ytlmlkcobkmhmbaa.Q
