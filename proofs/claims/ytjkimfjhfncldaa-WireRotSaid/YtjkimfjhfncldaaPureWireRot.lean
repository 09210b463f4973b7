/- WireRot: the pure statement, proved: a frame with one byte that is another one is no frame of its length -/
import Derived.Test.YtjkimfjhfncldaaQf6
import Derived.Test.YtjkimfjhfncldaaThRot
namespace Go.Proofs.Ytjkimfjhfncldaa.Pure
open Go.RowKit Go.Proofs.Ytjkimfjhfncldaa.Q Go.Proofs.YtjkimfjhfncldaaW.PrintWords Go.Proofs.YtjkimfjhfncldaaW.PrintLast Go.Proofs.Ytjkimfjhfncldaa.Th

theorem rot_true (k : Nat) (x1 x2 : Int) (x7 : List Int) : weighhouselaw01_WireRot.j0 (k + 1) x1 x2 x7 true = some true := by
  simp only [weighhouselaw01_WireRot.j0, if_true]
  rfl
theorem rot_f (k : Nat) (l0 F : List Int) (e a1 a2 n : Int) (hF : wire_Frame.f k l0 = some (F, e)) (hn : wrap64 ((l0.length : Int) + 8) = n) : weighhouselaw01_WireRot.f k l0 a1 a2 = if e = 0 then (if (F.length : Int) = n then weighhouselaw01_WireRot.j0 k a1 a2 F (a2 == 0) else weighhouselaw01_WireRot.j0 k a1 a2 F true) else weighhouselaw01_WireRot.j0 k a1 a2 F true := by
  unfold weighhouselaw01_WireRot.f
  rewrite [hF, hn]
  rfl
theorem WireRot : weighhouselaw01_WireRot.Pure := by
  intro l0 a1 a2 h1 h2 h3 h4 h5
  have hl : ∀ x ∈ l0, IsB x := fun x hx => isB_wf (h3 x hx)
  by_cases hn : l0.length ≤ 1048576
  · obtain ⟨K, hK⟩ : ∃ K, 12 * l0.length + 1000 ≤ K := ⟨_, Nat.le_refl _⟩
    refine ⟨K + 1, ?_⟩
    have hF : wire_Frame.f (K + 1) l0 = some (frmL l0, 0) := by
      have h := flen_eq l0 hl hn (K + 1 - 10 * (l0.length + 4) - 3)
      rewrite [show K + 1 - 10 * (l0.length + 4) - 3 + 10 * (l0.length + 4) + 3 = K + 1 by omega] at h
      exact h
    have hlen := frmL_len l0
    have hFB := frmL_B hl
    have hw : wrap64 ((l0.length : Int) + 8) = ((frmL l0).length : Int) := by rw [w64 (by omega) (by omega)]; omega
    rewrite [rot_f (K + 1) l0 (frmL l0) 0 a1 a2 _ hF hw, if_pos rfl, if_pos rfl]
    clear hw hF
    by_cases h0 : a2 = 0
    · rewrite [show (a2 == 0) = true from by rw [h0]; rfl]
      exact rot_true _ _ _ _
    · have hb2 := isB_wf h5
      obtain ⟨q0, q1⟩ := tmod_in (a := a1) (n := ((frmL l0).length : Int)) (by omega) (by omega)
      rewrite [show (a2 == 0) = false from by simp [h0]]
      rewrite [weighhouselaw01_WireRot.j0]
      obtain ⟨z, hz⟩ : ∃ z, z = Int.tmod (wrap64 ((Int.tmod a1 ((frmL l0).length : Int)) + ((frmL l0).length : Int))) ((frmL l0).length : Int) := ⟨_, rfl⟩
      rewrite [← hz] at q0 q1 ⊢
      clear hz
      obtain ⟨p, rfl⟩ := Int.eq_ofNat_of_zero_le q0
      have hp : p < (frmL l0).length := by omega
      have hrd : rd (frmL l0) (p : Int) = (frmL l0)[p] := rd_getElem _ _ hp
      obtain ⟨hxB, hxne⟩ := xor_B (hFB _ (List.getElem_mem hp)) hb2 h0
      rewrite [if_neg (by decide), if_neg (by omega), if_pos q0, if_pos q1, hrd, Int.toNat_natCast]
      obtain ⟨b, hb⟩ : ∃ b, b = Go.bits .xor .u8 ((frmL l0)[p]) a2 := ⟨_, rfl⟩
      rewrite [← hb] at hxB hxne ⊢
      clear hb hrd
      have hSB : ∀ z ∈ (frmL l0).set p b, IsB z := fun z hz => (List.mem_or_eq_of_mem_set hz).elim (hFB z) (fun e => e ▸ hxB)
      have hFr := frames_eq ((frmL l0).set p b) hSB (by rw [List.length_set]; omega) K (by rw [List.length_set]; omega)
      rewrite [hFr, Option.bind_some]
      clear hFr
      dsimp only
      by_cases hc : (frs (((frmL l0).set p b).length + 1) ((frmL l0).set p b) 0).1.length = 1
      · have hend : (frs (((frmL l0).set p b).length + 1) ((frmL l0).set p b) 0).2 ≠ (frmL l0).length := by
          intro he
          rewrite [frs] at hc he
          cases hf : frm1 (((frmL l0).set p b).drop 0) with
          | none => rw [hf] at hc; cases hc
          | some x =>
            rewrite [hf] at hc he
            have hnil : (frs ((frmL l0).set p b).length ((frmL l0).set p b) (0 + 8 + x.length)).1 = [] := by
              refine List.eq_nil_of_length_eq_zero ?_
              have : ((frs ((frmL l0).set p b).length ((frmL l0).set p b) (0 + 8 + x.length)).1).length + 1 = 1 := hc
              omega
            have := frs_nil hnil
            have he' : (frs ((frmL l0).set p b).length ((frmL l0).set p b) (0 + 8 + x.length)).2 = (frmL l0).length := he
            rewrite [this] at he'
            exact rot l0 hl hn p hp b hxB hxne x hf (by omega)
        rewrite [if_pos (by omega), if_neg (by omega)]
        rfl
      · rewrite [if_neg (by omega)]
        rfl
  · refine ⟨2, ?_⟩
    have hF : wire_Frame.f 2 l0 = some ([], 6) := by
      unfold wire_Frame.f
      rw [if_pos (by omega)]
    rewrite [rot_f 2 l0 [] 6 a1 a2 _ hF rfl, if_neg (by decide)]
    exact rot_true _ _ _ _

end Go.Proofs.Ytjkimfjhfncldaa.Pure
