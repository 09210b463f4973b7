import Derived.Test.YtjkimfjhfncldaaThRot
namespace Go.Proofs.Ytjkimfjhfncldaa.Th
open Go.RowKit Go.Proofs.Ytjkimfjhfncldaa.Q Go.Proofs.YtjkimfjhfncldaaW.PrintWords Go.Proofs.YtjkimfjhfncldaaW.PrintLast
def FL (l : List (List Int)) : List Int := (l.map frmL).flatten
theorem frmL_pre (x rest : List Int) : ((frmL x ++ rest).take 4) = bigL (x.length : Int) 4 ∧ ((frmL x ++ rest).take 8).drop 4 = lit4 (sumN (bigL (x.length : Int) 4 ++ x)) ∧ ((frmL x ++ rest).take (8 + x.length)).drop 8 = x := by
  have hl := frmL_len x
  refine ⟨?_, ?_, ?_⟩
  · rw [List.take_append_of_le_length (by omega), frmL_take]
  · rw [List.take_append_of_le_length (by omega), frmL_mid]
  · rw [List.take_append_of_le_length (by omega), List.take_of_length_le (by omega), frmL_drop]
theorem frm1_frmL (x rest : List Int) (hx : x.length ≤ 1048576) : frm1 (frmL x ++ rest) = some x := by
  obtain ⟨h1, h2, h3⟩ := frmL_pre x rest
  have hl := frmL_len x
  have hn : numN 0 (bigL (x.length : Int) 4) = x.length := numN_big4 _ (by omega)
  have hmb := mB_eq
  unfold frm1
  rw [h1, hn, h2, h3, List.length_append, hl, if_neg (by omega), if_neg (by omega), if_neg (by omega), if_pos rfl]
theorem frm1_cut (x : List Int) (hx : x.length ≤ 1048576) (c : Nat) (hc : c < (frmL x).length) : frm1 ((frmL x).take c) = none := by
  have hl := frmL_len x
  have hlen : ((frmL x).take c).length = c := by rw [List.length_take]; omega
  unfold frm1
  rw [hlen]
  by_cases h8 : c < 8
  · rw [if_pos h8]
  · have ht : ((frmL x).take c).take 4 = bigL (x.length : Int) 4 := by rw [List.take_take, show min 4 c = 4 by omega, frmL_take]
    have hn : numN 0 (bigL (x.length : Int) 4) = x.length := numN_big4 _ (by omega)
    rw [if_neg h8, ht, hn]
    split
    · rfl
    · rw [if_pos (by omega)]
theorem frs_row (rest : List Int) (hr : frm1 rest = none) : ∀ (l : List (List Int)) (m e : Nat) (b : List Int), (∀ x ∈ l, x.length ≤ 1048576) → l.length < m → b.drop e = FL l ++ rest → frs m b e = (l, e + (FL l).length)
  | [], 0, _, _, _, hm, _ => by simp at hm
  | [], m + 1, e, b, _, _, hb => by
    rw [frs, hb]
    simp [FL, hr]
  | x :: l, 0, _, _, _, hm, _ => by simp at hm
  | x :: l, m + 1, e, b, hx, hm, hb => by
    have hxl := hx x (by simp)
    have hFL : FL (x :: l) = frmL x ++ FL l := by simp [FL]
    have hl := frmL_len x
    have hd : b.drop (e + 8 + x.length) = FL l ++ rest := by
      rw [show e + 8 + x.length = e + (8 + x.length) by omega, ← List.drop_drop, hb, hFL, List.append_assoc, List.drop_append_of_le_length (by omega), List.drop_eq_nil_of_le (by omega), List.nil_append]
    have ih := frs_row rest hr l m (e + 8 + x.length) b (fun y hy => hx y (by simp [hy])) (by simpa using hm) hd
    rw [frs, hb, hFL, List.append_assoc, frm1_frmL x _ hxl]
    simp only [ih, List.length_append, hl]
    rw [show e + 8 + x.length + (FL l).length = e + (x.length + 8 + (FL l).length) by omega]
theorem FL_len (l : List (List Int)) : l.length ≤ (FL l).length := by
  unfold FL
  induction l with
  | nil => simp
  | cons x l ih =>
    rw [List.map_cons, List.flatten_cons, List.length_append, frmL_len, List.length_cons]
    omega
theorem FL_B {l : List (List Int)} (h : ∀ y ∈ l, ∀ x ∈ y, IsB x) : ∀ x ∈ FL l, IsB x := by
  intro x hx
  unfold FL at hx
  obtain ⟨f, hf, hxf⟩ := List.mem_flatten.1 hx
  obtain ⟨y, hy, rfl⟩ := List.mem_map.1 hf
  exact frmL_B (h y hy) x hxf
theorem FL_take (l : List (List Int)) (i : Nat) (hi : i < l.length) : FL (l.take (i + 1)) = FL (l.take i) ++ frmL l[i] := by
  unfold FL
  rw [List.take_succ_eq_append_getElem hi, List.map_append, List.flatten_append]
  simp
end Go.Proofs.Ytjkimfjhfncldaa.Th
