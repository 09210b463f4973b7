-- written by hprint.py (a program of these sessions) out of the translation; Lean checks it
import Derived.Test.YtjkimfjhfncldaaQ0
import Derived.Test.YtjkimfjhfncldaaQf22
import Derived.Test.YtjkimfjhfncldaaQf52
import Derived.Test.YtjkimfjhfncldaaQf43
namespace Go.Proofs.Ytjkimfjhfncldaa.Q
open Go.RowKit Go.Proofs.YtjkimfjhfncldaaW.Hb Go.Proofs.YtjkimfjhfncldaaW.PrintWords Go.Proofs.YtjkimfjhfncldaaW.PrintLast Go.Proofs.YtjkimfjhfncldaaW.PrintMore
attribute [local go_sem] max2_int min2_int max_two min_two max_three min_three max_four min_four   -- for this text's walks alone
set_option linter.unusedVariables false
set_option linter.unusedSimpArgs false

/-! ### wire_Writer_Int: function 25, by hand -/
def ints8 (xs : List Int) : List Int := xs.flatMap (fun x => bigL (IntKind.u64.wrap x) 8)
theorem ints8_len (xs : List Int) : (ints8 xs).length = 8 * xs.length := by
  unfold ints8
  induction xs with
  | nil => rfl
  | cons x xs ih => rw [List.flatMap_cons, List.length_append, ih, show (bigL (IntKind.u64.wrap x) 8).length = 8 by simp [bigL], List.length_cons]; omega
theorem ints8_take (xs : List Int) (k : Nat) (hk : k < xs.length) : ints8 (xs.take (k + 1)) = ints8 (xs.take k) ++ bigL (IntKind.u64.wrap xs[k]) 8 := by
  unfold ints8
  rw [List.take_succ_eq_append_getElem hk, List.flatMap_append]
  simp
theorem C_lit_one {α : Type} (d : Kd α) (W : World) (e t : TypeId) (A1 : Option Addr) (n1 c1 : Nat) (x1 : List α) (hn1 : x1.length = n1) (h1 : d.C W A1 x1.length x1) (hc1 : n1 ≤ c1) :
    (Kd.slice e d).C (W.alloc (.cells #[.slice A1 n1 c1] t)) (some ⟨W.heap.size, 0, none⟩) [x1].length [x1] := by
  subst hn1
  exact C_of_reps (d := Kd.slice e d) (Blk.new W t _) [x1] (Reps_one (c := [.slice A1 x1.length c1]) ⟨A1, c1, rfl, hc1, Kd.C_alloc h1 _⟩ rfl) (by simp)
theorem bigL_len' (n : Int) (m : Nat) : (bigL n m).length = m := by simp [bigL]
theorem u64_wrap_lo (x : Int) : 0 ≤ IntKind.u64.wrap x := by
  have := Int.emod_nonneg x (show (18446744073709551616 : Int) ≠ 0 by decide)
  have h : IntKind.u64.wrap x = x % 18446744073709551616 := rfl
  rw [h]
  exact this
theorem u64_wrap_hi (x : Int) : IntKind.u64.wrap x ≤ u64top := by
  have := Int.emod_lt_of_pos x (show (0 : Int) < 18446744073709551616 by decide)
  have h : IntKind.u64.wrap x = x % 18446744073709551616 := rfl
  rw [h]
  unfold u64top
  omega
/-- A call that ends in more. -/
theorem more_end {S : Nat → Prop} {w w1 w2 : World} {g : Nat} {l : List Int} (hb : Below w.heap.size w w1) (h : Wr w2 (SS S w1 w2) g l) (hf : Fr w1 w2 S) : Wr w2 (SS S w w2) g l ∧ Fr w w2 S :=
  ⟨h.mono (fun k hk => hk.elim .inl (fun h => .inr ⟨Nat.le_trans hb.size h.1, h.2⟩)), (Fr.of_below hb S).then_ hf (fun _ hk => .inl hk)⟩
set_option maxRecDepth 100000 in
set_option maxHeartbeats 1000000 in
theorem wire_Writer_Int.calls (S : Nat → Prop) (g : Nat) (l : List Int) (A : Option Addr) (n c : Nat) (xs : List Int) (w : World) (hn : xs.length = n) (hr : (Kd.int .i64).C w A xs.length xs) (hc : n ≤ c) (hsum : xs.length * 8 ≤ 140737488355328) (hW : Wr w S g l) (hl : l.length ≤ 1048576) :
    Calls Try.prog 25 #[.pointer (some ⟨g, 0, none⟩), .slice A n c] w fun e w' => e = .returned (.int .i64 (wmore l (ints8 xs)).2) ∧ Wr w' (SS S w w') g (wmore l (ints8 xs)).1 ∧ Fr w w' S := by
  subst hn
  have hm : xs.length ≤ 9223372036854775807 := hr.2.1
  have HR := Aside0.mk hr
  have HW := Aside0.mk hW
  clear hr hW
  go_enter Try.func25, Try.ntmps25
  go_wp2
  go_loopw [5, 10] (fun v i wr => ∃ j : Nat, j ≤ xs.length ∧ i = .int .i64 j ∧ Aside0 (Kd.R (Kd.int .u8) 5 wr w.heap.size (fun _ => True) v (ints8 (xs.take j))) ∧ Aside0 (Below w.heap.size w wr)) (fun _ i _ => xs.length - (intOf i).toNat)
  case atStart => exact ⟨0, Nat.zero_le _, rfl, ⟨Kd.R_nil _ _ _ _ _⟩, ⟨Below.refl _ _⟩⟩
  case round =>
    obtain ⟨j, hj, rfl, HRj, HB⟩ := hrel
    by_cases hlt : j < xs.length
    · obtain ⟨ad, e, hcell⟩ := at_intN HR.out j hlt
      cases e
      replace hcell := (HB.out.cell (World.block_lt_of_cell? w _ hcell)).trans hcell
      have HT := Aside0.mk (ints8_take xs j hlt)
      obtain ⟨x, hx⟩ : ∃ x, x = xs[j] := ⟨_, rfl⟩
      rw [← hx] at HT hcell
      obtain ⟨q, hq⟩ : ∃ q, q = bigL (IntKind.u64.wrap x) 8 := ⟨_, rfl⟩
      rw [← hq] at HT
      have hql : q.length = 8 := by rw [hq, bigL_len']
      have HL := Aside0.mk (show ((ints8 (xs.take j)).length + q.length) * 1 ≤ 140737488355328 by rw [ints8_len, List.length_take]; omega)
      have HQ := Aside0.mk hq
      have HQL := Aside0.mk hql
      clear hx hq hql
      go_wp2_with (first | (go_at_call 43; (with_reducible refine (wire_big.walkI (IntKind.u64.wrap x) 8 8 rfl _ (by omega) (u64_wrap_lo x) (u64_wrap_hi x)).mono ?_); rintro e w1 ⟨v1, rfl, hR1, hB1⟩; rw [← HQ.out] at hR1; obtain ⟨A1, c1, rfl, hc1, hC1⟩ := Kd.R_reads hR1; have HC1 := Aside0.mk hC1; have HO1 := Aside0.mk (Kd.R_below HRj.out hB1); have HB1 := Aside0.mk (HB.out.trans (hB1.mono HB.out.size)); clear hR1 hC1 hB1) | ((with_reducible refine gate_builtin (b := .append) (xs := #[.tmp 14, .tmp 17]) rfl ?_); at_builtin; refine Kd.R_append_rows (Kd.int .u8) (w0 := w) (Rr := (Kd.int .u8).K w1) w.heap.size rfl (.tmp 14) (.tmp 17) 22 5 (.int .u8 0) 1 rfl Try.underlying22 info5 rfl (by decide) (by omega) u5 (ints8 (xs.take j)) q A1 q.length c1 (fun _ => True) (fun _ => False) rfl rfl HO1.out HC1.out (fun x cs hK => hK) (fun _ hk => hk.elim) (fun _ _ => trivial) HB1.out HB1.out.size HL.out ?_; intro v3 w3 hR3 hB3 _ _; have HR3 := Aside0.mk hR3; have HB3 := Aside0.mk hB3; clear hR3 hB3))
      go_roundw
      case rel => exact ⟨j + 1, by omega, by go_num, ⟨by rw [HT.out]; exact HR3.out⟩, HB3⟩
      case measure => simp [intOf]; omega
    · have HT := Aside0.mk (show ints8 (xs.take j) = ints8 xs by rw [List.take_of_length_le (by omega)])
      obtain ⟨p, hp⟩ : ∃ p, p = ints8 xs := ⟨_, rfl⟩
      have hR := HRj.out
      rw [HT.out, ← hp] at hR
      have hpl : p.length * 1 ≤ 140737488355328 := by rw [hp, ints8_len]; omega
      obtain ⟨A1, c1, rfl, hc1, hC1⟩ := Kd.R_reads hR
      have HL1 := Aside0.mk (C_lit_one (Kd.int .u8) wr 5 22 A1 p.length c1 p rfl hC1 hc1)
      have HP := Aside0.mk hp
      clear hR hC1 HRj hp HT
      have HB2 := Aside0.mk (HB.out.alloc HB.out.size (.cells #[.slice A1 p.length c1] 22))
      have HM := Aside0.mk (wire_Writer_more.calls S g l (some ⟨wr.heap.size, 0, none⟩) 1 1 [p] p (wr.alloc (.cells #[.slice A1 p.length c1] 22)) rfl HL1.out (Nat.le_refl 1) (by simp) hpl (HW.out.below HB2.out) hl)
      go_wp2_with (go_at_call 52; (with_reducible refine HM.out.mono ?_); rintro e2 w2 ⟨rfl, hw2, hf2⟩; have HE := Aside0.mk (more_end HB2.out hw2 hf2); clear hw2 hf2)
      go_ret
      rw [← HP.out]
      exact ⟨rfl, HE.out.1, HE.out.2⟩


end Go.Proofs.Ytjkimfjhfncldaa.Q
