-- written by hprint.py (a program of these sessions) out of the translation; Lean checks it
import Derived.Test.YtjkimfjhfncldaaQ0
import Derived.Test.YtjkimfjhfncldaaQf59
namespace Go.Proofs.Ytjkimfjhfncldaa.Q
open Go.RowKit Go.Proofs.YtjkimfjhfncldaaW.Hb Go.Proofs.YtjkimfjhfncldaaW.PrintWords Go.Proofs.YtjkimfjhfncldaaW.PrintLast Go.Proofs.YtjkimfjhfncldaaW.PrintMore
attribute [local go_sem] max2_int min2_int max_two min_two max_three min_three max_four min_four   -- for this text's walks alone
set_option linter.unusedVariables false
set_option linter.unusedSimpArgs false

/-! ### slices_Concat_byte_byte: function 44, by hand -/
def slices_Concat_byte_byte.f (l0 : List (List Int)) : Option (List Int) := if l0.flatten.length ≤ 140737488355328 then some l0.flatten else none
set_option maxRecDepth 100000 in
set_option maxHeartbeats 1000000 in
theorem slices_Concat_byte_byte.walk (A : Option Addr) (n c : Nat) (ps : List (List Int)) (w : World) (hn : ps.length = n) (hr : (Kd.slice 5 (Kd.int .u8)).C w A ps.length ps) (hc : n ≤ c) (hsum : ps.flatten.length * 1 ≤ 140737488355328) :
    Calls Try.prog 44 #[.slice A n c] w (OwnRes (Kd.int .u8) 5 w ps.flatten) := by
  subst hn
  have HR := Aside0.mk hr
  clear hr
  have hm : ps.length ≤ 9223372036854775807 := HR.out.2.1
  go_enter Try.func44, Try.ntmps44
  go_wp2
  go_loop [3, 11] (fun s i => ∃ k : Nat, k ≤ ps.length ∧ i = .int .i64 k ∧ s = .int .i64 (tk ps k).length) (fun _ i => ps.length - (intOf i).toNat)
  case atStart => exact ⟨0, Nat.zero_le _, rfl, by rw [tk_zero]; rfl⟩
  case round =>
    obtain ⟨k, hk, rfl, rfl⟩ := hrel
    have hle := tk_le ps k
    have hle1 := tk_le ps (k + 1)
    by_cases hlt : k < ps.length
    · obtain ⟨ad, A', c', e, hcell, _, _⟩ := at_slice HR.out k hlt
      cases e
      have hs : (tk ps (k + 1)).length = (tk ps k).length + ps[k].length := by rw [tk_succ ps k hlt, List.length_append]
      have hb1 : (tk ps k).length + ps[k].length ≤ ps.flatten.length := by omega
      have HS := Aside0.mk hs
      clear hs
      have hz : ¬ ((tk ps k).length : Int) + (ps[k].length : Int) < 0 := by omega
      go_wp2
      go_round
      case rel => exact ⟨k + 1, by omega, by go_num, by rw [HS.out]; go_num⟩
      case measure => simp [intOf]; omega
    · have HT := Aside0.mk (tk_all ps k (by omega))
      have hl2 : (tk ps k).length * 1 ≤ 140737488355328 := by omega
      go_wp2_with (go_at_call 59; (with_reducible refine (slices_Grow_byte_byte.calls (tk ps k).length _ hl2).mono ?_); rintro e w1 ⟨v, rfl, hR, hB⟩)
      have HRv := Aside0.mk hR
      have HBv := Aside0.mk hB
      clear hR hB hle hle1
      go_loopw [6, 27] (fun s i wr => ∃ (j : Nat), j ≤ ps.length ∧ i = .int .i64 j ∧ Aside0 (Kd.R (Kd.int .u8) 5 wr w.heap.size (fun _ => True) s (tk ps j)) ∧ Aside0 (Below w.heap.size w wr)) (fun _ i _ => ps.length - (intOf i).toNat)
      case atStart => exact ⟨0, Nat.zero_le _, rfl, ⟨by rw [tk_zero]; exact HRv.out⟩, HBv⟩
      case round =>
        obtain ⟨j, hj, rfl, HRj, HB⟩ := hrel
        clear HRv HBv
        by_cases hlt2 : j < ps.length
        · obtain ⟨ad, A', c', e, hcell, hcl, hC⟩ := at_slice HR.out j hlt2
          cases e
          replace hcell := (HB.out.cell (World.block_lt_of_cell? w _ hcell)).trans hcell
          have HC := Aside0.mk (Kd.C_below hC HB.out)
          clear hC
          have HL := Aside0.mk (show ((tk ps j).length + ps[j].length) * 1 ≤ 140737488355328 by
            have h1 := tk_le ps (j + 1)
            rw [tk_succ ps j hlt2, List.length_append] at h1
            omega)
          have HS := Aside0.mk (tk_succ ps j hlt2)
          go_wp2_with ((with_reducible refine gate_builtin (b := .append) (xs := #[.tmp 31, .tmp 32]) rfl ?_); at_builtin; refine Kd.R_append_rows (Kd.int .u8) (w0 := w) (Rr := (Kd.int .u8).K wr) w.heap.size rfl (.tmp 31) (.tmp 32) 22 5 (.int .u8 0) 1 rfl Try.underlying22 info5 rfl (by decide) (by omega) u6 (tk ps j) ps[j] A' ps[j].length c' (fun _ => True) (fun _ => False) rfl rfl HRj.out HC.out (fun x cs hK => hK) (fun _ hk => hk.elim) (fun _ _ => trivial) HB.out HB.out.size HL.out ?_; intro v3 w3 hR3 hB3 _ _; have HR3 := Aside0.mk hR3; have HB3 := Aside0.mk hB3; clear hR3 hB3)
          go_roundw
          case rel => exact ⟨j + 1, by omega, by go_num, ⟨by rw [HS.out]; exact HR3.out⟩, HB3⟩
          case measure => simp [intOf]; omega
        · have HT2 := Aside0.mk (tk_all ps j (by omega))
          go_wp2
          go_ret
          exact ⟨u6, rfl, by rw [← HT2.out]; exact HRj.out, HB.out⟩
theorem slices_Concat_byte_byte.calls (A0 : Option Addr) (c0 : Nat) (l0 : List (List Int)) (r : List Int) (w : World) (hr0 : Kd.C (Kd.slice 5 (Kd.int .u8)) w A0 l0.length l0) (hc0 : l0.length ≤ c0) (h : slices_Concat_byte_byte.f l0 = some r) :
    Calls Try.prog 44 #[.slice A0 l0.length c0] w fun e w' => ∃ v0_ : Value, e = .returned (v0_) ∧ Kd.R (Kd.int .u8) 5 w' w.heap.size (fun _ => True) v0_ r ∧ Below w.heap.size w w' := by
  unfold slices_Concat_byte_byte.f at h
  split at h
  · obtain rfl := Option.some.inj h
    exact slices_Concat_byte_byte.walk A0 l0.length c0 l0 w rfl hr0 hc0 (by omega)
  · cases h


end Go.Proofs.Ytjkimfjhfncldaa.Q
