/- MessageBegins: the pure statement, proved: what can be folded can be folded up to any record, and the view and the commit only rise -/
import Derived.Test.YtlmlkcobkmhmbaaPdMessageBegins
namespace Go.Proofs.Ytlmlkcobkmhmbaa.PuMessageBegins
open Go.RowKit Go.Proofs.YtlmlkcobkmhmbaaW.PrintWords Go.Proofs.YtlmlkcobkmhmbaaW.Hb Go.Proofs.YtlmlkcobkmhmbaaW.Ho Go.Proofs.Ytlmlkcobkmhmbaa.Q Go.Proofs.Ytlmlkcobkmhmbaa.OpMessageBegins

theorem wrap_in {x : Int} (h0 : -9223372036854775808 ≤ x) (h1 : x ≤ 9223372036854775807) : wrap64 x = x := by
  unfold wrap64
  omega
def toE (e : S113) : S74 := ⟨e.f0, e.f1⟩
def toR (r : S46) : S49 := ⟨r.f0, r.f1, r.f2, r.f3, r.f4.map toE⟩

theorem log_loop (l : List S113) (hl : l.length * 24 ≤ 140737488351232) (d : Nat) : ∀ i, l.length - i = d → i ≤ l.length → Ev (fun k => weighhouselaw17_Log.l0 k l ((l.take i).map toE) i) (l.map toE) := by
  induction d with
  | zero =>
    intro i hd hi
    refine Ev.step (f := fun _ => some (l.map toE)) (fun k => ?_) (Ev.now _)
    simp only [weighhouselaw17_Log.l0]
    rw [if_neg (by omega), List.take_of_length_le (by omega)]
  | succ d ih =>
    intro i hd hi
    refine Ev.step (f := fun k => weighhouselaw17_Log.l0 k l ((l.take (i + 1)).map toE) ((i + 1 : Nat) : Int)) (fun k => ?_) (ih (i + 1) (by omega) (by omega))
    simp only [weighhouselaw17_Log.l0]
    have e1 : rd_T113 l (i : Int) = l[i]'(by omega) := by simp [rd_T113, List.getD_eq_getElem?_getD, show i < l.length by omega]
    rw [if_pos (by omega), if_pos (by omega), if_pos (by rw [List.length_map, List.length_take]; omega), wrap_in (by omega) (by omega), e1, List.take_succ_eq_append_getElem (by omega), List.map_append]
    rfl
theorem log_ev (l : List S113) (hl : l.length * 24 ≤ 140737488351232) : Ev (fun k => weighhouselaw17_Log.f k l) (l.map toE) := by
  have := log_loop l hl l.length 0 (by omega) (by omega)
  simpa [weighhouselaw17_Log.f] using this
theorem record_ev (r : S46) (hr : r.f4.length * 24 ≤ 140737488351232) : Ev (fun k => weighhouselaw17_Record.f k r.f0 r.f1 r.f2 r.f3 r.f4) (r.f0, r.f1, r.f2, r.f3, r.f4.map toE) := by
  unfold weighhouselaw17_Record.f
  exact Ev.bind (log_ev _ hr) (Ev.now _)
theorem records_loop (l : List S46) (hl : l.length * 56 ≤ 140737488351232) (hr : ∀ r ∈ l, r.f4.length * 24 ≤ 140737488351232) (d : Nat) : ∀ i, l.length - i = d → i ≤ l.length → Ev (fun k => weighhouselaw17_records.l0 k l ((l.take i).map toR) i) (l.map toR) := by
  induction d with
  | zero =>
    intro i hd hi
    refine Ev.step (f := fun _ => some (l.map toR)) (fun k => ?_) (Ev.now _)
    simp only [weighhouselaw17_records.l0]
    rw [if_neg (by omega), List.take_of_length_le (by omega)]
  | succ d ih =>
    intro i hd hi
    have hil : i < l.length := by omega
    have e1 : rd_T46 l (i : Int) = l[i] := by simp [rd_T46, List.getD_eq_getElem?_getD, hil]
    refine Ev.step (f := fun k => (weighhouselaw17_Record.f k l[i].f0 l[i].f1 l[i].f2 l[i].f3 l[i].f4).bind fun b => weighhouselaw17_records.l0 k l (((l.take i).map toR) ++ [(⟨b.1, b.2.1, b.2.2.1, b.2.2.2.1, b.2.2.2.2⟩ : S49)]) ((i + 1 : Nat) : Int)) (fun k => ?_) ?_
    · simp only [weighhouselaw17_records.l0]
      rw [if_pos (by omega), if_pos (by omega), e1]
      congr 1
      funext b
      rw [if_pos (by rw [List.length_map, List.length_take]; omega), wrap_in (by omega) (by omega)]
      rfl
    · refine Ev.bind (record_ev l[i] (hr _ (List.getElem_mem hil))) ?_
      have h1 := ih (i + 1) (by omega) (by omega)
      rw [List.take_succ_eq_append_getElem hil, List.map_append] at h1
      exact h1
theorem records_ev (l : List S46) (hl : l.length * 56 ≤ 140737488351232) (hr : ∀ r ∈ l, r.f4.length * 24 ≤ 140737488351232) : Ev (fun k => weighhouselaw17_records.f k l) (l.map toR) := by
  have := records_loop l hl hr l.length 0 (by omega) (by omega)
  simpa [weighhouselaw17_records.f] using this

/-! the fold -/
def Inv (s : St) : Prop := s.f1 ≤ s.f0 ∧ s.f2 ≤ 2048 ∧ s.f3.length ≤ 2048
theorem step_inv {s s' : St} {r : Rec} (hs : Inv s) (h : fstep s r = some s') : Inv s' ∧ s.f0 ≤ s'.f0 ∧ s.f2 ≤ s'.f2 := by
  unfold fstep at h
  obtain ⟨h1, h2, h3⟩ := hs
  split at h
  · cases h
  · rename_i hr
    have hr' : rightR r = true := by simpa using hr
    have hr3 := rightR_f3 hr'
    split at h
    · split at h
      · cases h
      · cases h
        refine ⟨⟨?_, ?_, ?_⟩, ?_, ?_⟩ <;> simp only <;> omega
    · split at h
      · split at h
        · cases h
        · cases h
          refine ⟨⟨h1, h2, ?_⟩, Int.le_refl _, Int.le_refl _⟩
          simp only [List.length_append, List.length_take]
          omega
      · split at h
        · cases h
        · cases h
          refine ⟨⟨?_, ?_, ?_⟩, ?_, ?_⟩ <;> simp only <;> omega
theorem fold_from (l : List Rec) : ∀ (s s' : St), Inv s → l.foldlM fstep s = some s' → Inv s' ∧ s.f0 ≤ s'.f0 ∧ s.f2 ≤ s'.f2 := by
  induction l with
  | nil =>
    intro s s' hs h
    cases h
    exact ⟨hs, Int.le_refl _, Int.le_refl _⟩
  | cons r l ih =>
    intro s s' hs h
    rw [List.foldlM_cons] at h
    obtain ⟨t, ht, h⟩ := Option.bind_eq_some_iff.1 h
    obtain ⟨h1, h2, h3⟩ := step_inv hs ht
    obtain ⟨h4, h5, h6⟩ := ih t s' h1 h
    exact ⟨h4, by omega, by omega⟩
theorem inv0 : Inv z25 := ⟨Int.le_refl _, by decide, by decide⟩
theorem fold_take (l : List Rec) (j : Nat) (s : St) (h : foldR l = some s) : ∃ t, foldR (l.take j) = some t ∧ Inv t ∧ t.f0 ≤ s.f0 ∧ t.f2 ≤ s.f2 := by
  unfold foldR at h ⊢
  rw [← List.take_append_drop j l, List.foldlM_append] at h
  obtain ⟨t, ht, h⟩ := Option.bind_eq_some_iff.1 h
  obtain ⟨h1, _, _⟩ := fold_from _ _ _ inv0 ht
  obtain ⟨_, h2, h3⟩ := fold_from _ _ _ h1 h
  exact ⟨t, ht, h1, h2, h3⟩
theorem idx (a n : Int) (hn : 0 ≤ n) (hn2 : n ≤ 140737488351232) :
    wrap64 (n + 1) = n + 1 ∧ 0 ≤ Int.tmod (wrap64 (wrap64 (Int.tmod a (wrap64 (n + 1)) + n) + 1)) (wrap64 (n + 1)) ∧ Int.tmod (wrap64 (wrap64 (Int.tmod a (wrap64 (n + 1)) + n) + 1)) (wrap64 (n + 1)) ≤ n := by
  have h1 : wrap64 (n + 1) = n + 1 := wrap_in (by omega) (by omega)
  rw [h1]
  have h2 : -(n + 1) < Int.tmod a (n + 1) := by
    have := Int.lt_tmod_of_pos a (show (0 : Int) < n + 1 by omega)
    omega
  have h3 : Int.tmod a (n + 1) < n + 1 := Int.tmod_lt_of_pos a (by omega)
  have h4 : wrap64 (Int.tmod a (n + 1) + n) = Int.tmod a (n + 1) + n := wrap_in (by omega) (by omega)
  rw [h4]
  have h5 : wrap64 (Int.tmod a (n + 1) + n + 1) = Int.tmod a (n + 1) + n + 1 := wrap_in (by omega) (by omega)
  rw [h5]
  refine ⟨rfl, Int.tmod_nonneg _ (by omega), ?_⟩
  have := Int.tmod_lt_of_pos (Int.tmod a (n + 1) + n + 1) (show (0 : Int) < n + 1 by omega)
  omega

theorem pure : Pure := by
  intro l a hl ha
  obtain ⟨hl1, _, hq⟩ := hl
  have hl2 : l.length * 56 ≤ 140737488351232 := hl1
  have hr : ∀ r ∈ l, r.f4.length * 24 ≤ 140737488351232 := fun r hr => (hq r hr).2.2.2.2.1
  obtain ⟨i1, i2, i3⟩ := idx a l.length (by omega) (by omega)
  generalize hj : Int.tmod (wrap64 (wrap64 (Int.tmod a (wrap64 ((l.length : Int) + 1)) + (l.length : Int)) + 1)) (wrap64 ((l.length : Int) + 1)) = j at i2 i3
  refine Ev.rounds (r := true) ?_
  unfold weighhouselaw17_MessageBegins.f
  refine Ev.bind (records_ev l hl2 hr) ?_
  simp only [hj]
  simp only [message_Fold.f, Option.bind_some, weighhouselaw17_knows.f]
  cases hf : foldR (l.map toR) with
  | none =>
    rw [fres_none hf]
    refine Ev.congr (f := fun _ => some true) (fun k => ?_) (Ev.now _)
    simp [z25]
  | some s =>
    rw [fres_some hf]
    obtain ⟨t, ht, hti, h1, h2⟩ := fold_take (l.map toR) j.toNat s hf
    rw [← List.map_take] at ht
    have hrec := records_ev (l.take j.toNat) (by rw [List.length_take]; omega) (fun r hr' => hr r (List.mem_of_mem_take hr'))
    refine Ev.congr (f := fun k => (weighhouselaw17_records.f k (l.take j.toNat)).bind fun x => if (fres x).2 = true then (if (fres x).1.f0 ≤ s.f0 then (if (fres x).1.f2 ≤ s.f2 then (if (fres x).1.f1 ≤ (fres x).1.f0 then (if (fres x).1.f2 ≤ 2048 then some true else some false) else some false) else some false) else some false) else some false) (fun k => ?_) ?_
    · rw [if_pos rfl, if_neg (by omega), if_pos i2, if_pos i3]
    · refine Ev.bind hrec ?_
      rw [fres_some ht]
      refine Ev.congr (f := fun _ => some true) (fun k => ?_) (Ev.now _)
      obtain ⟨g1, g2, _⟩ := hti
      rw [if_pos rfl, if_pos h1, if_pos h2, if_pos g1, if_pos g2]

end Go.Proofs.Ytlmlkcobkmhmbaa.PuMessageBegins
