import Derived.Test.YtjkimfjhfncldaaThNum
namespace Go.Proofs.Ytjkimfjhfncldaa.Th
open Go.RowKit Go.Proofs.Ytjkimfjhfncldaa.Q Go.Proofs.YtjkimfjhfncldaaW.PrintWords Go.Proofs.YtjkimfjhfncldaaW.PrintLast
def mB : Nat := 1048576
theorem mB_eq : mB = 1048576 := rfl
/-- The frame that bytes begin with. -/
def frm1 (r : List Int) : Option (List Int) :=
  if r.length < 8 then none else if mB < numN 0 (r.take 4) then none else if r.length < 8 + numN 0 (r.take 4) then none
  else if lit4 (sumN (r.take 4 ++ (r.take (8 + numN 0 (r.take 4))).drop 8)) = (r.take 8).drop 4 then some ((r.take (8 + numN 0 (r.take 4))).drop 8) else none
def frs : Nat → List Int → Nat → List (List Int) × Nat
  | 0, _, e => ([], e)
  | m + 1, b, e => match frm1 (b.drop e) with
    | none => ([], e)
    | some x => (x :: (frs m b (e + 8 + x.length)).1, (frs m b (e + 8 + x.length)).2)
theorem frm1_len {r x : List Int} (h : frm1 r = some x) : 8 + x.length ≤ r.length ∧ x.length = numN 0 (r.take 4) := by
  unfold frm1 at h
  split at h
  · cases h
  · split at h
    · cases h
    · split at h
      · cases h
      · split at h
        · cases h
          simp
          omega
        · cases h
theorem take_B {l : List Int} (hl : ∀ x ∈ l, IsB x) (n : Nat) : ∀ x ∈ l.take n, IsB x := fun x hx => hl x (List.mem_of_mem_take hx)
theorem drop_B {l : List Int} (hl : ∀ x ∈ l, IsB x) (n : Nat) : ∀ x ∈ l.drop n, IsB x := fun x hx => hl x (List.mem_of_mem_drop hx)
set_option maxRecDepth 10000 in
theorem frames_step (b : List Int) (hb : ∀ x ∈ b, IsB x) (hlen : b.length ≤ 140737488351232) (k e : Nat) (l : List (List Int)) (hK : 10 * (b.length + 4) + 20 ≤ k) (he : e ≤ b.length) (hl : (l.length + 1) * 24 ≤ 140737488355328) :
    wire_Frames.l0 (k + 1) b l e = match frm1 (b.drop e) with
      | none => some (l, (e : Int))
      | some x => wire_Frames.l0 k b (l ++ [x]) (e + 8 + x.length) := by
  rewrite [wire_Frames.l0, if_neg (by omega)]
  obtain ⟨r, hr⟩ : ∃ r, r = b.drop e := ⟨_, rfl⟩
  have hrl : r.length = b.length - e := by rw [hr]; simp
  have hrB : ∀ x ∈ r, IsB x := by rw [hr]; exact drop_B hb e
  rewrite [← hr]
  clear hr
  by_cases h8 : r.length < 8
  · rewrite [if_pos h8]
    unfold frm1
    rewrite [if_pos h8]
    rfl
  rewrite [if_neg h8]
  have h4 : (r.take 4).length = 4 := by rw [List.length_take]; omega
  have hq := four_big (r.take 4) (take_B hrB 4) h4
  have hnum := number_eq (r.take 4) (take_B hrB 4) (by omega) (k - 5)
  rewrite [h4, show k - 5 + 4 + 1 = k by omega] at hnum
  rewrite [hnum]
  clear hnum
  rewrite [Option.bind_some]
  obtain ⟨n, hn⟩ : ∃ n, n = numN 0 (r.take 4) := ⟨_, rfl⟩
  rewrite [← hn] at hq ⊢
  have hw : wrap64 (n : Int) = (n : Int) := w64 (by omega) (by omega)
  rewrite [hw]
  clear hw
  have hmb := mB_eq
  by_cases h1 : mB < n
  · have h1' : (1048576 : Int) < (n : Int) := by omega
    rewrite [if_pos h1']
    unfold frm1
    rewrite [if_neg h8, ← hn, if_pos h1]
    rfl
  have h1' : ¬ (1048576 : Int) < (n : Int) := by omega
  rewrite [if_neg h1']
  by_cases h2 : r.length < 8 + n
  · have h2' : ((r.length : Nat) : Int) - 8 < (n : Int) := by omega
    rewrite [if_pos h2']
    unfold frm1
    rewrite [if_neg h8, ← hn, if_neg h1, if_pos h2]
    rfl
  have h2' : ¬ ((r.length : Nat) : Int) - 8 < (n : Int) := by omega
  have h3' : ¬ (n : Int) < 0 := by omega
  rewrite [if_neg h2', if_neg h3']
  have ht : (8 + (n : Int)).toNat = 8 + n := by omega
  rewrite [ht]
  obtain ⟨x, hx⟩ : ∃ x, x = (r.take (8 + n)).drop 8 := ⟨_, rfl⟩
  have hxl : x.length = n := by rw [hx]; simp; omega
  have hxB : ∀ z ∈ x, IsB z := by rw [hx]; exact drop_B (take_B hrB _) _
  rewrite [← hx]
  have hB : ∀ z ∈ r.take 4 ++ x, IsB z := fun z hz => (List.mem_append.1 hz).elim (take_B hrB 4 z) (hxB z)
  have hsl : (r.take 4 ++ x).length = 4 + n := by rw [List.length_append, h4, hxl]
  have hS := Sum_eq (r.take 4 ++ x) hB (by omega) (k - (10 * (4 + n) + 1))
  rewrite [hsl, show k - (10 * (4 + n) + 1) + 10 * (4 + n) + 1 = k by omega] at hS
  rewrite [hS]
  clear hS
  rewrite [Option.bind_some]
  have hL := little_eq (sumN (r.take 4 ++ x)) (sumN_lt hB) (k - 3)
  rewrite [show k - 3 + 3 = k by omega] at hL
  rewrite [hL]
  clear hL
  rewrite [Option.bind_some]
  have hE := equal_eq (lit4 (sumN (r.take 4 ++ x))) ((r.take 8).drop 4) (by simp [lit4]) (k - 5)
  rewrite [show (lit4 (sumN (r.take 4 ++ x))).length = 4 from rfl, show k - 5 + 4 + 1 = k by omega] at hE
  rewrite [hE]
  clear hE
  rewrite [Option.bind_some]
  have hfm : frm1 r = if lit4 (sumN (r.take 4 ++ x)) = (r.take 8).drop 4 then some x else none := by
    unfold frm1
    rewrite [if_neg h8, ← hn, if_neg h1, if_neg h2, ← hx]
    rfl
  by_cases h5 : lit4 (sumN (r.take 4 ++ x)) = (r.take 8).drop 4
  · rewrite [if_pos (decide_eq_true h5), if_pos hl, hfm, if_pos h5]
    have hee : (n : Int).toNat = x.length := by omega
    rewrite [hee]
    rfl
  · rewrite [if_neg (by rw [decide_eq_false h5]; decide), hfm, if_neg h5]
    rfl
theorem frames_run (b : List Int) (hb : ∀ x ∈ b, IsB x) (hlen : b.length ≤ 140737488351232) (K : Nat) (hK : 10 * (b.length + 4) + 20 ≤ K) : ∀ (m e : Nat) (l : List (List Int)), e ≤ b.length → b.length < e + 8 * m + 8 → (l.length + m + 1) * 24 ≤ 140737488355328 → wire_Frames.l0 (K + m + 1) b l e = some (l ++ (frs (m + 1) b e).1, (((frs (m + 1) b e).2 : Nat) : Int)) := by
  intro m
  induction m with
  | zero =>
    intro e l he hm hl
    rewrite [frames_step b hb hlen (K + 0) e l (by omega) he hl, frs]
    have : frm1 (b.drop e) = none := by
      unfold frm1
      rw [if_pos (by rw [List.length_drop]; omega)]
    rewrite [this]
    simp
  | succ m ih =>
    intro e l he hm hl
    rewrite [frames_step b hb hlen (K + (m + 1)) e l (by omega) he (Nat.le_trans (Nat.mul_le_mul_right 24 (by omega)) hl), frs]
    cases hf : frm1 (b.drop e) with
    | none => simp
    | some x =>
      have hxl := frm1_len hf
      rewrite [List.length_drop] at hxl
      have := ih (e + 8 + x.length) (l ++ [x]) (by omega) (by omega) (by rw [List.length_append, List.length_singleton]; exact Nat.le_trans (Nat.mul_le_mul_right 24 (by omega)) hl)
      simp only [show K + (m + 1) = K + m + 1 by omega]
      rewrite [this]
      simp only [List.append_assoc, List.singleton_append]
end Go.Proofs.Ytjkimfjhfncldaa.Th
