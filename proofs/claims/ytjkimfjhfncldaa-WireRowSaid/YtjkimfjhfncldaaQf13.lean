-- written by hprint.py (a program of these sessions) out of the translation; Lean checks it
import Derived.Test.YtjkimfjhfncldaaQ0
import Derived.Test.YtjkimfjhfncldaaQf15
import Derived.Test.YtjkimfjhfncldaaQf43
import Derived.Test.YtjkimfjhfncldaaQf44
import Derived.Test.YtjkimfjhfncldaaQf45
namespace Go.Proofs.Ytjkimfjhfncldaa.Q
open Go.RowKit Go.Proofs.YtjkimfjhfncldaaW.Hb Go.Proofs.YtjkimfjhfncldaaW.PrintWords Go.Proofs.YtjkimfjhfncldaaW.PrintLast Go.Proofs.YtjkimfjhfncldaaW.PrintMore
attribute [local go_sem] max2_int min2_int max_two min_two max_three min_three max_four min_four   -- for this text's walks alone
set_option linter.unusedVariables false
set_option linter.unusedSimpArgs false

/-! ### wire_Frame: function 13, by hand -/
def wire_Frame.f (k : Nat) (l0 : List Int) : Option (List Int × Int) := if 1048576 < (l0.length : Int) then some ([], 6) else (wire_Sum.f k (bigL (l0.length : Int) 4 ++ l0)).bind fun c => (wire_little.f k c).bind fun lc => if lc.length ≤ 8 then some (bigL (l0.length : Int) 4 ++ (lc ++ l0), 0) else none
theorem wire_Frame.mono : ∀ a0 k, LeO (wire_Frame.f k a0) (wire_Frame.f (k + 1) a0) := by
  intro a0 k
  unfold wire_Frame.f
  exact LeO.ite (LeO.refl _) (LeO.bind (wire_Sum.mono _ _) (fun _ => LeO.bind (wire_little.mono _ _) (fun _ => LeO.refl _)))
theorem Reps_three {α : Type} {R : α → List Value → Prop} {size : Nat} {p q r : α} {c e f : List Value} (h : R p c) (hc : c.length = size) (h' : R q e) (he : e.length = size) (h'' : R r f) (hf : f.length = size) : Reps R size [p, q, r] (c ++ e ++ f) := by
  have := Reps.snoc (Reps_two h hc h' he) h'' hf
  simpa using this
theorem C_lit_three {α : Type} (d : Kd α) (W : World) (e t : TypeId) (A1 A2 A3 : Option Addr) (n1 n2 n3 c1 c2 c3 : Nat) (x1 x2 x3 : List α) (hn1 : x1.length = n1) (hn2 : x2.length = n2) (hn3 : x3.length = n3) (h1 : d.C W A1 x1.length x1) (h2 : d.C W A2 x2.length x2) (h3 : d.C W A3 x3.length x3) (hc1 : n1 ≤ c1) (hc2 : n2 ≤ c2) (hc3 : n3 ≤ c3) :
    (Kd.slice e d).C (W.alloc (.cells #[.slice A1 n1 c1, .slice A2 n2 c2, .slice A3 n3 c3] t)) (some ⟨W.heap.size, 0, none⟩) [x1, x2, x3].length [x1, x2, x3] := by
  subst hn1 hn2 hn3
  refine C_of_reps (d := Kd.slice e d) (Blk.new W t _) [x1, x2, x3] (Reps_three (c := [.slice A1 x1.length c1]) (e := [.slice A2 x2.length c2]) (f := [.slice A3 x3.length c3]) ⟨A1, c1, rfl, hc1, Kd.C_alloc h1 _⟩ rfl ⟨A2, c2, rfl, hc2, Kd.C_alloc h2 _⟩ rfl ⟨A3, c3, rfl, hc3, Kd.C_alloc h3 _⟩ rfl) (by simp)
theorem bigL_len (n : Int) (m : Nat) : (bigL n m).length = m := by simp [bigL]
set_option maxRecDepth 100000 in
set_option maxHeartbeats 1000000 in
theorem wire_Frame.calls (k : Nat) (A0 : Option Addr) (c0 : Nat) (l0 : List Int) (r1 : List Int) (r2 : Int) (w : World) (hr0 : Kd.C (Kd.int .u8) w A0 l0.length l0) (hc0 : l0.length ≤ c0) (h : wire_Frame.f k l0 = some (r1, r2)) :
    Calls Try.prog 13 #[.slice A0 l0.length c0] w fun e w' => ∃ v0_ : Value, e = .returned (.tuple #[v0_, .int .i64 r2]) ∧ Kd.R (Kd.int .u8) 5 w' w.heap.size (fun _ => True) v0_ r1 ∧ Below w.heap.size w w' := by
  have hm : l0.length ≤ 9223372036854775807 := hr0.2.1
  have HR := Aside0.mk hr0
  clear hr0
  unfold wire_Frame.f at h
  by_cases h1 : 1048576 < (l0.length : Int)
  · rw [if_pos h1] at h
    cases h
    go_enter Try.func13, Try.ntmps13
    go_wp2
    go_ret2
    exact ⟨_, rfl, Kd.R_nil _ _ _ _ _, Below.refl _ _⟩
  · rw [if_neg h1] at h
    obtain ⟨c, hs, h⟩ := Option.bind_eq_some_iff.1 h
    obtain ⟨lc, hl, h⟩ := Option.bind_eq_some_iff.1 h
    have hlc : lc.length ≤ 8 := by
      split at h
      · assumption
      · cases h
    rw [if_pos hlc] at h
    cases h
    have HSM := Aside0.mk hs
    have HLT := Aside0.mk hl
    have h2 : (l0.length : Int) ≤ u64top := by unfold u64top; omega
    have HBG := Aside0.mk (wire_big.walkI (l0.length : Int) 4 4 rfl w (by omega) (by omega) h2)
    clear hs hl h2
    obtain ⟨sz, hsz⟩ : ∃ sz, sz = bigL (l0.length : Int) 4 := ⟨_, rfl⟩
    have hsl : sz.length = 4 := by rw [hsz, bigL_len]
    rw [← hsz]
    rw [← hsz] at HBG HSM
    clear hsz
    have hsl' : sz.length ≤ 4 := by omega
    have HSL := Aside0.mk hsl
    clear hsl
    go_enter Try.func13, Try.ntmps13
    go_wp2_with (first | (go_at_call 43; (with_reducible refine HBG.out.mono ?_); rintro e w1 ⟨v1, rfl, hR1, hB1⟩; obtain ⟨A1, c1, rfl, hc1, hC1⟩ := Kd.R_reads hR1; have HR1 := Aside0.mk hR1; have HC1 := Aside0.mk hC1; have HB1 := Aside0.mk hB1; clear hR1 hC1 hB1))
    have HL2 := Aside0.mk (C_lit_two (Kd.int .u8) w1 w1.heap.size rfl 5 22 A1 A0 sz.length l0.length c1 c0 sz l0 rfl rfl HC1.out (Kd.C_below HR.out HB1.out) hc1 hc0)
    refine (slices_Concat_byte_byte.walk (some ⟨w1.heap.size, 0, none⟩) 2 2 [sz, l0] (w1.alloc (.cells #[.slice A1 sz.length c1, .slice A0 l0.length c0] 22)) rfl HL2.out (Nat.le_refl 2) (by simp; omega)).mono ?_
    rintro e w2 ⟨v2, rfl, hR2, hB2⟩
    have e2 : ([sz, l0] : List (List Int)).flatten = sz ++ l0 := by simp
    obtain ⟨L, hL⟩ : ∃ L, L = sz ++ l0 := ⟨_, rfl⟩
    rw [e2, ← hL] at hR2
    rw [← hL] at HSM
    clear e2 hL
    obtain ⟨A2, c2, rfl, hc2, hC2⟩ := Kd.R_reads hR2
    have HC2 := Aside0.mk hC2
    have HB2 := Aside0.mk (HB1.out.trans (((Below.refl w1.heap.size w1).alloc (Nat.le_refl _) _).trans (hB2.mono (by simp)) |>.mono HB1.out.size))
    have HK2 := Aside0.mk (((Below.refl w1.heap.size w1).alloc (Nat.le_refl _) _).trans (hB2.mono (by simp)))
    clear hR2 hC2 hB2 HL2
    go_wp2_with (go_at_call 15; (with_reducible refine (wire_Sum.calls k A2 c2 L c _ HC2.out hc2 HSM.out).mono ?_); rintro e w3 ⟨rfl, hd3⟩; have HB3 := Aside0.mk hd3.below; clear hd3)
    refine (wire_little.calls k c lc w3 HLT.out).mono ?_
    rintro e w4 ⟨v4, rfl, hR4, hB4⟩
    obtain ⟨A4, c4, rfl, hc4, hC4⟩ := Kd.R_reads hR4
    have HC4 := Aside0.mk hC4
    have HB4 := Aside0.mk hB4
    clear hR4 hC4 hB4
    go_wp2_with (fail)
    have HK4 := Aside0.mk ((HK2.out.trans (HB3.out.mono HK2.out.size)).trans (HB4.out.mono (Nat.le_trans HK2.out.size HB3.out.size)))
    have HL3 := Aside0.mk (C_lit_three (Kd.int .u8) w4 5 22 A1 A4 A0 sz.length lc.length l0.length c1 c4 c0 sz lc l0 rfl rfl rfl (Kd.C_below HC1.out HK4.out) HC4.out (Kd.C_below HR.out (HB1.out.trans (HK4.out.mono HB1.out.size))) hc1 hc4 hc0)
    refine (slices_Concat_byte_byte.walk (some ⟨w4.heap.size, 0, none⟩) 3 3 [sz, lc, l0] (w4.alloc (.cells #[.slice A1 sz.length c1, .slice A4 lc.length c4, .slice A0 l0.length c0] 22)) rfl HL3.out (Nat.le_refl 3) (by simp; omega)).mono ?_
    rintro e w5 ⟨v5, rfl, hR5, hB5⟩
    have e5 : ([sz, lc, l0] : List (List Int)).flatten = sz ++ (lc ++ l0) := by simp
    rw [e5] at hR5
    have hW4 := HB1.out.trans (HK4.out.mono HB1.out.size)
    have HR5 := Aside0.mk (Kd.R_lower hR5 (show w.heap.size ≤ _ by have := hW4.size; simp; omega))
    have HB5 := Aside0.mk ((hW4.alloc hW4.size _).trans (hB5.mono (by have := hW4.size; simp; omega)))
    clear hR5 hB5 e5 hW4 HL3
    go_wp2
    go_ret2
    exact ⟨_, rfl, HR5.out, HB5.out⟩



end Go.Proofs.Ytjkimfjhfncldaa.Q
