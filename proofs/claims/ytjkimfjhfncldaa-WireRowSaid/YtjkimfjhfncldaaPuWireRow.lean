/- WireRow: the pure statement, proved: frames one behind the other are told as they were -/
import Derived.Test.YtjkimfjhfncldaaPdWireRow
import Derived.Test.YtjkimfjhfncldaaThRow
namespace Go.Proofs.Ytjkimfjhfncldaa.PuWireRow
open Go.RowKit Go.Proofs.YtjkimfjhfncldaaW.PrintWords Go.Proofs.YtjkimfjhfncldaaW.Hb Go.Proofs.YtjkimfjhfncldaaW.Ho Go.Proofs.Ytjkimfjhfncldaa.Q Go.Proofs.Ytjkimfjhfncldaa.OpWireRow Go.Proofs.Ytjkimfjhfncldaa.Th

theorem frame_ev (l : List Int) (hl : ∀ x ∈ l, IsB x) (hn : l.length ≤ 1048576) : Ev (fun k => wire_Frame.f k l) (frmL l, 0) := by
  refine ⟨10 * (l.length + 4) + 3, fun k hk => ?_⟩
  have h := flen_eq l hl hn (k - (10 * (l.length + 4) + 3))
  rewrite [show k - (10 * (l.length + 4) + 3) + 10 * (l.length + 4) + 3 = k by omega] at h
  exact h
theorem frame_no (l : List Int) (hn : 1048576 < l.length) : Ev (fun k => wire_Frame.f k l) ([], 6) := by
  refine ⟨0, fun k _ => ?_⟩
  show wire_Frame.f k l = _
  unfold wire_Frame.f
  rw [if_pos (by omega)]
theorem frames_ev (b : List Int) (hb : ∀ x ∈ b, IsB x) (hlen : b.length ≤ 5000000000000) : Ev (fun k => wire_Frames.f k b) ((frs (b.length + 1) b 0).1, (((frs (b.length + 1) b 0).2 : Nat) : Int)) := ⟨11 * b.length + 100, fun k hk => frames_eq b hb hlen k hk⟩
theorem rd_row (L : List (List Int)) (i : Nat) (hi : i < L.length) : rd_L1 L (i : Int) = L[i] := by
  simp [rd_L1, List.getD_eq_getElem?_getD, hi]
theorem l1_ok (L : List (List Int)) (hL : L.length ≤ 4611686018427387904) (d : Nat) : ∀ i : Nat, L.length - i = d → i ≤ L.length → Ev (fun k => weighhouselaw01_WireRow.l1 k L L i) true := by
  induction d with
  | zero =>
    intro i hd hi
    refine Ev.step (f := fun _ => some true) (fun k => ?_) (Ev.now _)
    simp only [weighhouselaw01_WireRow.l1]
    rw [if_neg (by omega)]
    rfl
  | succ d ih =>
    intro i hd hi
    refine Ev.step (f := fun k => weighhouselaw01_WireRow.l1 k L L ((i + 1 : Nat) : Int)) (fun k => ?_) (ih (i + 1) (by omega) (by omega))
    simp only [weighhouselaw01_WireRow.l1]
    rw [if_pos (by omega), if_pos (by omega), if_pos (by omega), if_true, w64 (by omega) (by omega)]
    rfl
theorem j2_ok (L : List (List Int)) (hL : L.length ≤ 4611686018427387904) : Ev (fun k => weighhouselaw01_WireRow.j2 k L L false) true := by
  refine Ev.step (f := fun k => weighhouselaw01_WireRow.l1 k L L (0 : Nat)) (fun k => ?_) (l1_ok L hL L.length 0 (by omega) (by omega))
  simp only [weighhouselaw01_WireRow.j2]
  rw [if_neg (by decide)]
  rfl
theorem j1_true (x0 : List (List Int)) (x2 : Int) (x7 x11 : List Int) : Ev (fun k => weighhouselaw01_WireRow.j1 k x0 x2 x7 x11 true) true := by
  refine Ev.step (f := fun _ => some true) (fun k => ?_) (Ev.now _)
  simp only [weighhouselaw01_WireRow.j1, if_true]
  rfl
theorem j1_step (k : Nat) (x0 : List (List Int)) (x2 : Int) (x7 x11 : List Int) (c : Nat) (hc : Int.tmod (wrap64 ((Int.tmod x2 (x11.length : Int)) + (x11.length : Int))) (x11.length : Int) = (c : Int)) (hcl : c < x11.length) (hb : x7.length ≤ 4000000 ∧ x11.length ≤ 4000000) :
    weighhouselaw01_WireRow.j1 (k + 1) x0 x2 x7 x11 false = (wire_Frames.f k (x7 ++ x11.take c)).bind fun bt => (if (bt.1.length : Int) = (x0.length : Int) then (weighhouselaw01_WireRow.j2 k x0 bt.1 (bt.2 != (x7.length : Int))) else (weighhouselaw01_WireRow.j2 k x0 bt.1 true)) := by
  rewrite [weighhouselaw01_WireRow.j1, hc]
  clear hc
  rewrite [if_neg (by decide), if_neg (by omega), Option.bind_some, if_pos (by simp; omega), Option.bind_some, List.nil_append, if_pos (by omega), if_pos (by omega), Option.bind_some, Int.toNat_natCast, if_pos (by rw [List.length_take]; omega)]
  rfl
theorem j1_ok (L : List (List Int)) (x2 : Int) (last : List Int) (hL : ∀ y ∈ L, y.length ≤ 1048576 ∧ ∀ x ∈ y, IsB x) (hlast : last.length ≤ 1048576) (hlb : ∀ x ∈ last, IsB x) (hF : (FL L).length ≤ 2500000) : Ev (fun k => weighhouselaw01_WireRow.j1 k L x2 (FL L) (frmL last) false) true := by
  have hl := frmL_len last
  obtain ⟨q0, q1⟩ := tmod_in (a := x2) (n := ((frmL last).length : Int)) (by omega) (by omega)
  obtain ⟨c, hc⟩ := Int.eq_ofNat_of_zero_le q0
  rw [hc] at q1
  have hcl : c < (frmL last).length := by omega
  have hLl := FL_len L
  refine Ev.step (fun k => j1_step k L x2 (FL L) (frmL last) c hc hcl ⟨by omega, by omega⟩) ?_
  clear hc q0 q1
  have hB : ∀ x ∈ FL L ++ (frmL last).take c, IsB x := fun x hx => (List.mem_append.1 hx).elim (FL_B (fun y hy => (hL y hy).2) x) (take_B (frmL_B hlb) c x)
  have hlen : (FL L ++ (frmL last).take c).length ≤ 5000000 := by rw [List.length_append, List.length_take]; omega
  have hfr := frames_ev (FL L ++ (frmL last).take c) hB (by omega)
  have hrow := frs_row ((frmL last).take c) (frm1_cut last hlast c hcl) L ((FL L ++ (frmL last).take c).length + 1) 0 (FL L ++ (frmL last).take c) (fun y hy => (hL y hy).1) (by rw [List.length_append]; omega) (by rw [List.drop_zero])
  rw [hrow] at hfr
  dsimp only at hfr
  rw [Nat.zero_add] at hfr
  refine Ev.bind hfr ?_
  dsimp only
  simp only [if_true]
  rw [show ((((FL L).length : Nat) : Int) != ((FL L).length : Int)) = false from bne_self_eq_false _]
  exact j2_ok L (by omega)
theorem l0_step (k : Nat) (x0 : List (List Int)) (x1 : List Int) (x2 : Int) (x7 : List Int) (i : Nat) (hi : i < x0.length) (h0 : x0.length ≤ 4611686018427387904) (F : List Int) (e : Int) (hF : wire_Frame.f k x0[i] = some (F, e)) (hFl : F.length ≤ 4000000) :
    weighhouselaw01_WireRow.l0 (k + 1) x0 x1 x2 x7 (i : Int) = if e = 0 then (if (x7.length : Int) > 1048576 then some true else weighhouselaw01_WireRow.l0 k x0 x1 x2 (x7 ++ F) ((i + 1 : Nat) : Int)) else some true := by
  rewrite [weighhouselaw01_WireRow.l0, if_pos (by omega), if_pos (by omega), rd_row x0 i hi, hF, Option.bind_some, w64 (by omega) (by omega)]
  show (if e = 0 then _ else _) = _
  by_cases he : e = 0
  · rewrite [if_pos he, if_pos he]
    by_cases h7 : (x7.length : Int) > 1048576
    · rewrite [if_pos h7, if_pos h7]
      rfl
    · rewrite [if_neg h7, if_neg h7, if_pos (by dsimp only; omega)]
      rfl
  · rewrite [if_neg he, if_neg he]
    rfl
theorem l0_end (k : Nat) (x0 : List (List Int)) (x1 : List Int) (x2 : Int) (x7 : List Int) (i : Nat) (hi : x0.length ≤ i) (F : List Int) (e : Int) (hF : wire_Frame.f k x1 = some (F, e)) (n : Int) (hn : wrap64 ((x1.length : Int) + 8) = n) :
    weighhouselaw01_WireRow.l0 (k + 1) x0 x1 x2 x7 (i : Int) = if e = 0 then weighhouselaw01_WireRow.j1 k x0 x2 x7 F ((F.length : Int) != n) else weighhouselaw01_WireRow.j1 k x0 x2 x7 F true := by
  rewrite [weighhouselaw01_WireRow.l0, if_neg (by omega), hF, Option.bind_some, hn]
  rfl
theorem l0_ok (L : List (List Int)) (hLl : L.length ≤ 4611686018427387904) (hLB : ∀ y ∈ L, ∀ x ∈ y, IsB x) (last : List Int) (hlb : ∀ x ∈ last, IsB x) (x2 : Int) (d : Nat) : ∀ i : Nat, L.length - i = d → i ≤ L.length → (∀ y ∈ L.take i, y.length ≤ 1048576) → (FL (L.take i)).length ≤ 2500000 → Ev (fun k => weighhouselaw01_WireRow.l0 k L last x2 (FL (L.take i)) (i : Int)) true := by
  induction d with
  | zero =>
    intro i hd hi hok hF
    have hall : L.take i = L := List.take_of_length_le (by omega)
    rw [hall] at hF hok ⊢
    by_cases hn : last.length ≤ 1048576
    · have hw : wrap64 ((last.length : Int) + 8) = ((frmL last).length : Int) := by rw [w64 (by omega) (by omega), frmL_len]; omega
      obtain ⟨K, hK⟩ := frame_ev last hlb hn
      obtain ⟨K2, hK2⟩ := j1_ok L x2 last (fun y hy => ⟨hok y hy, hLB y hy⟩) hn hlb hF
      refine ⟨max K K2 + 1, fun k hk => ?_⟩
      obtain ⟨q, rfl⟩ : ∃ q, k = q + 1 := ⟨k - 1, by omega⟩
      dsimp only at hK hK2 ⊢
      rewrite [l0_end q L last x2 (FL L) i (by omega) _ _ (hK q (by omega)) _ hw, if_pos rfl, show ((((frmL last).length : Nat) : Int) != ((frmL last).length : Int)) = false from bne_self_eq_false _]
      exact hK2 q (by omega)
    · obtain ⟨K, hK⟩ := frame_no last (by omega)
      obtain ⟨K2, hK2⟩ := j1_true L x2 (FL L) []
      refine ⟨max K K2 + 1, fun k hk => ?_⟩
      obtain ⟨q, rfl⟩ : ∃ q, k = q + 1 := ⟨k - 1, by omega⟩
      dsimp only at hK hK2 ⊢
      rewrite [l0_end q L last x2 (FL L) i (by omega) _ _ (hK q (by omega)) _ rfl, if_neg (by decide)]
      exact hK2 q (by omega)
  | succ d ih =>
    intro i hd hi hok hF
    have hlt : i < L.length := by omega
    by_cases hn : L[i].length ≤ 1048576
    · obtain ⟨K, hK⟩ := frame_ev L[i] (hLB _ (List.getElem_mem hlt)) hn
      have hfl := frmL_len L[i]
      by_cases h7 : ((FL (L.take i)).length : Int) > 1048576
      · refine ⟨K + 1, fun k hk => ?_⟩
        obtain ⟨q, rfl⟩ : ∃ q, k = q + 1 := ⟨k - 1, by omega⟩
        dsimp only at hK ⊢
        rewrite [l0_step q L last x2 (FL (L.take i)) i hlt hLl _ _ (hK q (by omega)) (by omega), if_pos rfl, if_pos h7]
        rfl
      · have hT := FL_take L i hlt
        obtain ⟨K2, hK2⟩ := ih (i + 1) (by omega) (by omega) (by
          intro y hy
          rw [List.take_succ_eq_append_getElem hlt] at hy
          rcases List.mem_append.1 hy with h | h
          · exact hok y h
          · rw [List.mem_singleton.1 h]; exact hn) (by rw [hT, List.length_append]; omega)
        refine ⟨max K K2 + 1, fun k hk => ?_⟩
        obtain ⟨q, rfl⟩ : ∃ q, k = q + 1 := ⟨k - 1, by omega⟩
        dsimp only at hK hK2 ⊢
        rewrite [l0_step q L last x2 (FL (L.take i)) i hlt hLl _ _ (hK q (by omega)) (by omega), if_pos rfl, if_neg h7, ← hT]
        exact hK2 q (by omega)
    · obtain ⟨K, hK⟩ := frame_no L[i] (by omega)
      refine ⟨K + 1, fun k hk => ?_⟩
      obtain ⟨q, rfl⟩ : ∃ q, k = q + 1 := ⟨k - 1, by omega⟩
      dsimp only at hK ⊢
      rewrite [l0_step q L last x2 (FL (L.take i)) i hlt hLl _ _ (hK q (by omega)) (by simp), if_neg (by decide)]
      rfl
theorem pure : Pure := by
  intro x0 x1 x2 h0 h1 h2
  have hm : x0.length ≤ 4611686018427387904 := by have := h0.1; unfold reachBytes at this; omega
  have h := l0_ok x0 hm (fun y hy x hx => isB_wf ((h0.2.2 y hy).2.2 x hx)) x1 (fun x hx => isB_wf (h1.2.2 x hx)) x2 x0.length 0 (by omega) (by omega) (by simp) (by simp [FL])
  exact h.rounds

end Go.Proofs.Ytjkimfjhfncldaa.PuWireRow
