/- texts of one claim, merged: each in a section of its own -/
import Derived.Test.YtjkimfjhfncldaaMWireJoins3
import Derived.Test.YtjkimfjhfncldaaMWireJoins4
section
-- written by hprint.py (a program of these sessions) out of the translation; Lean checks it
namespace Go.Proofs.Ytjkimfjhfncldaa.Q
open Go.RowKit Go.Proofs.YtjkimfjhfncldaaW.Hb Go.Proofs.YtjkimfjhfncldaaW.PrintWords Go.Proofs.YtjkimfjhfncldaaW.PrintLast Go.Proofs.YtjkimfjhfncldaaW.PrintMore
attribute [local go_sem] max2_int min2_int max_two min_two max_three min_three max_four min_four   -- for this text's walks alone
set_option linter.unusedVariables false
set_option linter.unusedSimpArgs false

/-! ### weighhouselaw01_WireReads: function 9, by hand -/
/-- Two readers, apart. -/
def Ap (w0 : World) (S S2 : Nat → Prop) (g g2 : Nat) : Prop := (∀ k, S k → ¬ S2 k) ∧ (∀ k, S k → w0.heap.size ≤ k) ∧ (∀ k, S2 k → w0.heap.size ≤ k) ∧ S g ∧ S2 g2
def TwoR (w0 w : World) (S S2 : Nat → Prop) (g g2 : Nat) (B xs : List Int) (e : Int) (ys : List Int) (e2 : Int) : Prop := Ap w0 S S2 g g2 ∧ Rd w S g xs e ∧ (∃ a, Rq w S2 g2 B a e2 ∧ B.drop a = ys) ∧ Below w0.heap.size w0 w
section
variable {w0 w w' : World} {S S2 : Nat → Prop} {g g2 : Nat} {B xs ys : List Int} {e e2 : Int}
theorem TwoR.bel (h : TwoR w0 w S S2 g g2 B xs e ys e2) : Below w0.heap.size w0 w := h.2.2.2
theorem TwoR.below (h : TwoR w0 w S S2 g g2 B xs e ys e2) (hb : Below w.heap.size w w') : TwoR w0 w' S S2 g g2 B xs e ys e2 := by
  obtain ⟨h1, h2, ⟨a, h3, h4⟩, h5⟩ := h
  exact ⟨h1, h2.below hb, ⟨a, h3.below hb, h4⟩, h5.trans (hb.mono h5.size)⟩
theorem TwoR.cell2 (h : TwoR w0 w S S2 g g2 B xs e ys e2) : w.cell? ⟨g2, 2, none⟩ = some (.int .i64 e2) := by
  obtain ⟨h1, h2, ⟨a, ⟨A, c, hb, _⟩, h4⟩, h5⟩ := h
  exact hb.cell 2
theorem TwoR.kept {S3 : Nat → Prop} (h : TwoR w0 w S S2 g g2 B xs e ys e2) (hk : Kept w w' S3) (hd : ∀ k, S k → ¬ S3 k) (hd2 : ∀ k, S2 k → ¬ S3 k) (hb : Below w0.heap.size w0 w') : TwoR w0 w' S S2 g g2 B xs e ys e2 := by
  obtain ⟨h1, h2, ⟨a, h3, h4⟩, h5⟩ := h
  exact ⟨h1, h2.kept hk hd, ⟨a, h3.kept hk hd2, h4⟩, hb⟩
theorem TwoR.first {xs' : List Int} {e' : Int} (h : TwoR w0 w S S2 g g2 B xs e ys e2) (hr : Rd w' S g xs' e') (hf : Fr w w' (fun k => k = g)) : TwoR w0 w' S S2 g g2 B xs' e' ys e2 := by
  obtain ⟨⟨a1, a2, a3, a4, a5⟩, h2, ⟨a, h3, h4⟩, h5⟩ := h
  exact ⟨⟨a1, a2, a3, a4, a5⟩, hr, ⟨a, h3.kept hf.2 (fun k hk he => by subst he; exact a1 _ a4 hk), h4⟩, h5.trans (hf.below h5.size (fun k hk => by subst hk; exact a2 _ a4))⟩
theorem TwoR.second {ys' : List Int} {e' : Int} (h : TwoR w0 w S S2 g g2 B xs e ys e2) (hr : ∃ a, Rq w' S2 g2 B a e' ∧ B.drop a = ys') (hf : Fr w w' (fun k => k = g2)) : TwoR w0 w' S S2 g g2 B xs e ys' e' := by
  obtain ⟨⟨a1, a2, a3, a4, a5⟩, h2, _, h5⟩ := h
  exact ⟨⟨a1, a2, a3, a4, a5⟩, h2.kept hf.2 (fun k hk he => by subst he; exact a1 _ hk a5), hr, h5.trans (hf.below h5.size (fun k hk => by subst hk; exact a3 _ a5))⟩
theorem byteA (h : TwoR w0 w S S2 g g2 B xs e ys e2) : Calls Try.prog 34 #[.pointer (some ⟨g, 0, none⟩)] w fun en w' => en = .returned (.int .i64 (rByte xs e).1) ∧ TwoR w0 w' S S2 g g2 B (rByte xs e).2.1 (rByte xs e).2.2 ys e2 :=
  (wire_Reader_Byte.calls S g xs e w h.2.1).mono fun en w' ⟨he, hr, hf⟩ => ⟨he, h.first hr hf⟩
theorem intA (h : TwoR w0 w S S2 g g2 B xs e ys e2) : Calls Try.prog 36 #[.pointer (some ⟨g, 0, none⟩)] w fun en w' => en = .returned (.int .i64 (rInt xs e).1) ∧ TwoR w0 w' S S2 g g2 B (rInt xs e).2.1 (rInt xs e).2.2 ys e2 :=
  (wire_Reader_Int.calls S g xs e w h.2.1).mono fun en w' ⟨he, hr, hf⟩ => ⟨he, h.first hr hf⟩
theorem textA (h : TwoR w0 w S S2 g g2 B xs e ys e2) : Calls Try.prog 31 #[.pointer (some ⟨g, 0, none⟩)] w fun en w' => en = .returned (.string (rText xs e).1) ∧ TwoR w0 w' S S2 g g2 B (rText xs e).2.1 (rText xs e).2.2 ys e2 :=
  (wire_Reader_Text.calls S g xs e w h.2.1).mono fun en w' ⟨he, hr, hf⟩ => ⟨he, h.first hr hf⟩
theorem byteB (h : TwoR w0 w S S2 g g2 B xs e ys e2) : Calls Try.prog 35 #[.pointer (some ⟨g2, 0, none⟩)] w fun en w' => en = .returned (.int .i64 (rByte ys e2).1) ∧ TwoR w0 w' S S2 g g2 B xs e (rByte ys e2).2.1 (rByte ys e2).2.2 := by
  obtain ⟨a, hq, rfl⟩ := h.2.2.1
  exact (weighhouseref01_Reader_Byte.calls S2 g2 B a e2 w hq).mono fun en w' ⟨he, hr, hf⟩ => ⟨he, h.second hr hf⟩
theorem intB (h : TwoR w0 w S S2 g g2 B xs e ys e2) : Calls Try.prog 37 #[.pointer (some ⟨g2, 0, none⟩)] w fun en w' => en = .returned (.int .i64 (rInt ys e2).1) ∧ TwoR w0 w' S S2 g g2 B xs e (rInt ys e2).2.1 (rInt ys e2).2.2 := by
  obtain ⟨a, hq, rfl⟩ := h.2.2.1
  exact (weighhouseref01_Reader_Int.calls S2 g2 B a e2 w hq).mono fun en w' ⟨he, hr, hf⟩ => ⟨he, h.second hr hf⟩
theorem textB_ (h : TwoR w0 w S S2 g g2 B xs e ys e2) : Calls Try.prog 38 #[.pointer (some ⟨g2, 0, none⟩)] w fun en w' => en = .returned (.string (rText ys e2).1) ∧ TwoR w0 w' S S2 g g2 B xs e (rText ys e2).2.1 (rText ys e2).2.2 := by
  obtain ⟨a, hq, rfl⟩ := h.2.2.1
  exact (weighhouseref01_Reader_Text.calls S2 g2 B a e2 w hq).mono fun en w' ⟨he, hr, hf⟩ => ⟨he, h.second hr hf⟩
theorem leftB (h : TwoR w0 w S S2 g g2 B xs e ys e2) : Calls Try.prog 40 #[.pointer (some ⟨g2, 0, none⟩)] w fun en w' => en = .returned (.int .i64 (ys.length : Int)) ∧ TwoR w0 w' S S2 g g2 B xs e ys e2 := by
  obtain ⟨a, hq, rfl⟩ := h.2.2.1
  exact (weighhouseref01_Reader_Left.calls S2 g2 B a e2 w hq).mono fun en w' ⟨he, hb⟩ => ⟨he, h.below hb⟩
theorem doneB (h : TwoR w0 w S S2 g g2 B xs e ys e2) : Calls Try.prog 42 #[.pointer (some ⟨g2, 0, none⟩)] w fun en w' => en = .returned (.int .i64 (rDone ys e2)) ∧ TwoR w0 w' S S2 g g2 B xs e ys e2 := by
  obtain ⟨a, hq, rfl⟩ := h.2.2.1
  exact (weighhouseref01_Reader_Done.calls S2 g2 B a e2 w hq).mono fun en w' ⟨he, hb⟩ => ⟨he, h.below hb⟩
theorem leftA (h : TwoR w0 w S S2 g g2 B xs e ys e2) : Calls Try.prog 39 #[.pointer (some ⟨g, 0, none⟩)] w fun en w' => en = .returned (.int .i64 (xs.length : Int)) ∧ TwoR w0 w' S S2 g g2 B xs e ys e2 :=
  (wire_Reader_Left.calls S g xs e w h.2.1).mono fun en w' ⟨he, hb⟩ => ⟨he, hb ▸ h⟩
theorem errA (h : TwoR w0 w S S2 g g2 B xs e ys e2) : Calls Try.prog 41 #[.pointer (some ⟨g, 0, none⟩)] w fun en w' => en = .returned (.int .i64 e) ∧ TwoR w0 w' S S2 g g2 B xs e ys e2 :=
  (wire_Reader_Err.calls S g xs e w h.2.1).mono fun en w' ⟨he, hb⟩ => ⟨he, hb ▸ h⟩
theorem doneA (h : TwoR w0 w S S2 g g2 B xs e ys e2) : Calls Try.prog 32 #[.pointer (some ⟨g, 0, none⟩)] w fun en w' => en = .returned (.int .i64 (rDone xs e)) ∧ TwoR w0 w' S S2 g g2 B xs e ys e2 :=
  (wire_Reader_Done.calls S g xs e w h.2.1).mono fun en w' ⟨he, hb⟩ => ⟨he, hb ▸ h⟩
end
def isBb (x : Int) : Bool := decide (0 ≤ x) && decide (x ≤ 255)
theorem isBb_all {l : List Int} (h : l.all isBb = true) : ∀ x ∈ l, 0 ≤ x ∧ x ≤ 255 := fun x hx => by
  have := List.all_eq_true.1 h x hx
  simpa [isBb] using this
theorem lent_is (l : List Int) (h : l.length ≤ 140737488351232) : weighhouselaw01_Lent.f l = some l := by
  unfold weighhouselaw01_Lent.f
  rw [Option.bind_some, if_pos (by simp; omega), Option.bind_some, Option.bind_some, if_pos (by simp; omega), Option.bind_some, if_pos (by omega), if_pos (by simp; omega)]
  simp
def weighhouselaw01_WireReads.f (l0 l1 : List Int) : Option Bool := if (l0.all isBb && decide (l0.length ≤ 140737488351232)) = true then some true else none
set_option maxRecDepth 100000 in
set_option maxHeartbeats 4000000 in
theorem weighhouselaw01_WireReads.calls (A0 : Option Addr) (c0 : Nat) (l0 : List Int) (A1 : Option Addr) (c1 : Nat) (l1 : List Int) (r : Bool) (w : World) (hr0 : Kd.C (Kd.int .u8) w A0 l0.length l0) (hc0 : l0.length ≤ c0) (hr1 : Kd.C (Kd.int .i64) w A1 l1.length l1) (hc1 : l1.length ≤ c1) (h : weighhouselaw01_WireReads.f l0 l1 = some r) :
    Calls Try.prog 9 #[.slice A0 l0.length c0, .slice A1 l1.length c1] w fun e w' => e = .returned (.bool r) ∧ Below w.heap.size w w' := by
  unfold weighhouselaw01_WireReads.f at h
  split at h
  rotate_left
  · cases h
  rename_i hall
  obtain rfl := Option.some.inj h
  simp only [Bool.and_eq_true, decide_eq_true_eq] at hall
  obtain ⟨hall, hlen⟩ := hall
  have HX := Aside0.mk (isBb_all hall)
  have HLN := Aside0.mk (lent_is l0 hlen)
  have HR := Aside0.mk hr0
  have HR1 := Aside0.mk hr1
  have hm1 : l1.length ≤ 9223372036854775807 := hr1.2.1
  clear hall h hr0 hr1
  go_enter Try.func9, Try.ntmps9
  go_upto_region 2 with (go_at_call 12; (with_reducible refine (weighhouselaw01_Lent.calls A0 c0 l0 l0 _ HR.out hc0 HLN.out).mono ?_); rintro e w1 ⟨v5, rfl, hR5, hB1⟩; obtain ⟨A5, c5, rfl, hc5, hC5⟩ := Kd.R_reads hR5; have HR5 := Aside0.mk (Kd.R_bound hR5); have HC5 := Aside0.mk hC5; have HB1 := Aside0.mk hB1; clear hR5 hC5 hB1)
  go_upto_region 3 with (go_at_call 30; (with_reducible refine (wire_NewReader.calls A5 c5 l0 _ HC5.out hc5 (by omega) HX.out).mono ?_); rintro e w2 ⟨g, rfl, hd2, hg2, hB2⟩; have HD2 := Aside0.mk hd2; have HG2 := Aside0.mk hg2; have HB2 := Aside0.mk hB2; clear hd2 hg2 hB2)
  go_upto_region 4 with (go_at_call 33; (with_reducible refine (weighhouseref01_NewReader.calls A0 c0 l0 _ (Kd.C_below HR.out (HB1.out.trans (HB2.out.mono HB1.out.size))) hc0 (by omega) HX.out).mono ?_); rintro e w3 ⟨g2, rfl, hd3, hg3, hB3⟩; have HD3 := Aside0.mk hd3; have HG3 := Aside0.mk hg3; have HB3 := Aside0.mk hB3; clear hd3 hg3 hB3)
  obtain ⟨S, hSd⟩ : ∃ S, S = (fun k => w1.heap.size ≤ k ∧ k < w2.heap.size) := ⟨_, rfl⟩
  obtain ⟨S2, hS2d⟩ : ∃ S2, S2 = (fun k => w2.heap.size ≤ k ∧ k < w3.heap.size) := ⟨_, rfl⟩
  have HS1 := Aside0.mk (show (∀ k, S k → w1.heap.size ≤ k) ∧ (∀ k, S2 k → w1.heap.size ≤ k) from ⟨fun k hk => by rw [hSd] at hk; exact hk.1, fun k hk => by rw [hS2d] at hk; exact Nat.le_trans HB2.out.size hk.1⟩)
  have HT3 : TwoR w w3 S S2 g g2 l0 l0 0 l0 0 := by
    have s1 := HB1.out.size
    have s2 := HB2.out.size
    have hD2 := HD2.out
    have hD3 := HD3.out
    rw [← hSd] at hD2
    rw [← hS2d] at hD3
    have hsg : S g := by
      obtain ⟨_, _, _, _, h, _⟩ := hD2
      exact h
    have hsg2 : S2 g2 := by
      obtain ⟨_, _, _, _, h, _⟩ := hD3
      exact h
    refine ⟨⟨fun k hk hk2 => ?_, fun k hk => ?_, fun k hk => ?_, hsg, hsg2⟩, hD2.below HB3.out, ⟨0, hD3, rfl⟩, (HB1.out.trans (HB2.out.mono s1)).trans (HB3.out.mono (Nat.le_trans s1 s2))⟩
    · rw [hSd] at hk
      rw [hS2d] at hk2
      omega
    · rw [hSd] at hk
      omega
    · rw [hS2d] at hk
      omega
  have HT3 := Aside0.mk HT3
  have HR53 := Aside0.mk (Kd.R_mono (ok' := fun k => w.heap.size ≤ k ∧ k < w1.heap.size) (Kd.R_below (Kd.R_below HR5.out HB2.out) HB3.out) (fun k hk => ⟨hk.2.1, hk.2.2.1⟩))
  clear hSd hS2d HD2 HD3 HG2 HG3 HC5 HR5
  go_wp2_with (go_at_call 19; (with_reducible refine (weighhouselaw01_knows.calls true _ rfl).mono ?_); rintro e w4 ⟨rfl, hB4⟩; have HT4 := Aside0.mk (HT3.out.below hB4); have HR54 := Aside0.mk (Kd.R_below HR53.out hB4); clear hB4)
  clear HT3 HR53
  go_loopw [8] (fun q wq => ∃ (m : Nat) (y : List Int), m ≤ l0.length ∧ q = .int .i64 m ∧ Aside0 (y.length = l0.length) ∧ Aside0 ((Kd.int .u8).R 5 wq w.heap.size (fun k => w.heap.size ≤ k ∧ k < w1.heap.size) (.slice A5 l0.length c5) y) ∧ Aside0 (TwoR w wq S S2 g g2 l0 l0 0 l0 0)) (fun q _ => l0.length - (intOf q).toNat)
  case atStart => exact ⟨0, l0, Nat.zero_le _, rfl, ⟨rfl⟩, HR54, HT4⟩
  case round =>
    clear HT4 HR54
    obtain ⟨m, y, hm2, rfl, HY, HRq, HTq⟩ := hrel
    by_cases hlt1 : m < l0.length
    · obtain ⟨inner, hin⟩ := Kd.R_own HRq.out
      obtain ⟨gb, cb, hgb, hgb1, _⟩ := hin.form (by have := HY.out; omega)
      injection hgb with e1 e2 e3
      subst e1
      subst e3
      have HOK := Aside0.mk (HRq.out.1 gb rfl)
      clear hin e2
      have hcel := Kd.R_celln (0 : Int) HRq.out m (by omega) (by omega)
      rw [Int.toNat_natCast] at hcel
      obtain ⟨hce1, hce2⟩ := hcel
      obtain ⟨z, hz⟩ : ∃ z, rdOf (0 : Int) y (m : Int) = z := ⟨_, rfl⟩
      rw [hz] at hce1
      clear hz
      go_wp2
      go_roundw
      case rel => exact ⟨m + 1, _, by omega, by go_num, ⟨by rw [List.length_set]; exact HY.out⟩, ⟨Kd.R_putn HRq.out (m : Int) _⟩, ⟨HTq.out.kept (Kept.setCell (S := fun k => k = gb) (Kept.refl _ _) (.inl rfl) _) (fun k hk he => by
        have := HS1.out.1 k hk
        have := HOK.out.2
        omega) (fun k hk he => by
        have := HS1.out.2 k hk
        have := HOK.out.2
        omega) (HTq.out.bel.setCell HOK.out.1 _)⟩⟩
      case measure => simp [intOf]; omega
    · go_wp2
      go_loopw [9] (fun q wq => ∃ (j : Nat) (xs : List Int) (ev : Int), j ≤ l1.length ∧ q = .int .i64 j ∧ Aside0 (TwoR w wq S S2 g g2 l0 xs ev xs ev)) (fun q _ => l1.length - (intOf q).toNat)
      case atStart => exact ⟨0, l0, 0, Nat.zero_le _, rfl, HTq⟩
      case round =>
        clear HTq HRq HY
        obtain ⟨j, xs, ev, hj, rfl, HT⟩ := hrel
        by_cases hlt : j < l1.length
        · obtain ⟨ad, e, hcell⟩ := at_intN HR1.out j hlt
          cases e
          replace hcell := (HT.out.bel.cell (World.block_lt_of_cell? w _ hcell)).trans hcell
          obtain ⟨x, hx⟩ : ∃ x, x = l1[j] := ⟨_, rfl⟩
          rw [← hx] at hcell
          clear hx
          by_cases h0 : x = 0
          · have d1 : (x == 0) = true := by simp [h0]
            clear h0
            go_upto_region 20 with (first | (go_at_call 34; (with_reducible refine (byteA HT.out).mono ?_); rintro e w5 ⟨rfl, hT5⟩; have HT5 := Aside0.mk hT5; clear hT5) | (go_at_call 35; (with_reducible refine (byteB HT5.out).mono ?_); rintro e w6 ⟨rfl, hT6⟩; have HT6 := Aside0.mk hT6; clear hT6))
            obtain ⟨xs', hxs'⟩ : ∃ xs', (rByte xs ev).2.1 = xs' := ⟨_, rfl⟩
            obtain ⟨ev', hev'⟩ : ∃ ev', (rByte xs ev).2.2 = ev' := ⟨_, rfl⟩
            rw [hxs', hev'] at HT6
            have HTd := Aside0.mk (HT6.out.below ((Below.refl _ _).drew))
            have k2 := HTd.out.cell2
            clear hxs' hev' HT5 HT6
            refine start_ (n := 27) (S := fun w' => w'.cell? ⟨g2, 2, none⟩ = some (.int .i64 ev')) (ds := []) #[false, false, false, false, false, false, false, false, false, false, false, false, false, false, false, false, false, false, false, false, false, false, false, false, false, false, false] (by kernel_rfl) rfl rfl (k2) (fun hHeld => ?_)
            generalize w6.drew = wd at HTd k2 hHeld ⊢
            refine pure_ (i := 0) (N := some 66) (v := ?_) (a' := ?_) #[true, false, false, false, false, false, false, false, false, false, false, false, false, false, false, false, false, false, false, false, false, false, false, false, false, false, false] rfl rfl (by kernel_rfl) (fun _ _ _ h => h) (Or.inl ⟨by rfl, ?_⟩) ?_ ?_
            rotate_left
            · intro w'
              go_simp
              with_reducible rfl
            rotate_left
            · simp only [Act.put, List.setIfInBounds_toArray, List.set_cons_zero, List.set_cons_succ, i64_w, i32_w]
              rfl
            refine pure_ (i := 1) (N := some 67) (v := ?_) (a' := ?_) #[true, true, false, false, false, false, false, false, false, false, false, false, false, false, false, false, false, false, false, false, false, false, false, false, false, false, false] rfl rfl (by kernel_rfl) (fun _ _ _ h => h) (Or.inl ⟨by rfl, ?_⟩) ?_ ?_
            rotate_left
            · intro w'
              go_simp
              with_reducible rfl
            rotate_left
            · simp only [Act.put, List.setIfInBounds_toArray, List.set_cons_zero, List.set_cons_succ, i64_w, i32_w]
              rfl
            refine pure_ (i := 2) (N := some 68) (v := ?_) (a' := ?_) #[true, true, true, false, false, false, false, false, false, false, false, false, false, false, false, false, false, false, false, false, false, false, false, false, false, false, false] rfl rfl (by kernel_rfl) (fun _ _ _ h => h) (Or.inl ⟨by rfl, ?_⟩) ?_ ?_
            rotate_left
            · intro w'
              go_simp
              with_reducible rfl
            rotate_left
            · simp only [Act.put, List.setIfInBounds_toArray, List.set_cons_zero, List.set_cons_succ, i64_w, i32_w]
              rfl
            refine pure_ (i := 3) (N := some 69) (v := ?_) (a' := ?_) #[true, true, true, true, false, false, false, false, false, false, false, false, false, false, false, false, false, false, false, false, false, false, false, false, false, false, false] rfl rfl (by kernel_rfl) (fun _ _ _ h => h) (Or.inl ⟨by rfl, ?_⟩) ?_ ?_
            rotate_left
            · intro w'
              go_simp
              with_reducible rfl
            rotate_left
            · simp only [Act.put, List.setIfInBounds_toArray, List.set_cons_zero, List.set_cons_succ, i64_w, i32_w]
              rfl
            refine pure_ (i := 5) (N := some 71) (v := ?_) (a' := ?_) #[true, true, true, true, false, true, false, false, false, false, false, false, false, false, false, false, false, false, false, false, false, false, false, false, false, false, false] rfl rfl (by kernel_rfl) (fun _ _ _ h => h) (Or.inl ⟨by rfl, ?_⟩) ?_ ?_
            rotate_left
            · intro w'
              go_simp
              with_reducible rfl
            rotate_left
            · simp only [Act.put, List.setIfInBounds_toArray, List.set_cons_zero, List.set_cons_succ, i64_w, i32_w]
              rfl
            refine one_ (i := 4) (N := some 70) #[true, true, true, true, true, true, false, false, false, false, false, false, false, false, false, false, false, false, false, false, false, false, false, false, false, false, false] rfl rfl (by kernel_rfl) (by decide) (fun K hK => ?_)
            refine goes_ Try.func39 (by kernel_rfl) rfl #[.pointer (some ⟨g, 0, none⟩)] (by rfl) rfl rfl (by simp only [List.map_toArray, List.map_cons, List.map_nil]; rfl) ?_
            with_reducible refine (leftA HTd.out).mono ?_
            rintro e q1 ⟨rfl, hq⟩
            refine ⟨_, rfl, ?_⟩
            have HQ1 := Aside0.mk hq
            clear hq
            refine hK.out _ _ (HQ1.out.cell2) (fun hHeld => ?_)
            clear hK K
            refine norm_ (a' := ?_) ?_ ?_
            rotate_left
            · show Act.put _ (some 70) _ = _
              simp only [Act.put, List.setIfInBounds_toArray, List.set_cons_zero, List.set_cons_succ, i64_w, i32_w]
              rfl
            refine one_ (i := 6) (N := some 72) #[true, true, true, true, true, true, true, false, false, false, false, false, false, false, false, false, false, false, false, false, false, false, false, false, false, false, false] rfl rfl (by kernel_rfl) (by decide) (fun K hK => ?_)
            refine goes_ Try.func40 (by kernel_rfl) rfl #[.pointer (some ⟨g2, 0, none⟩)] (by rfl) rfl rfl (by simp only [List.map_toArray, List.map_cons, List.map_nil]; rfl) ?_
            with_reducible refine (leftB HQ1.out).mono ?_
            rintro e q2 ⟨rfl, hq⟩
            refine ⟨_, rfl, ?_⟩
            have HQ2 := Aside0.mk hq
            clear hq
            refine hK.out _ _ (HQ2.out.cell2) (fun hHeld => ?_)
            clear hK K
            refine norm_ (a' := ?_) ?_ ?_
            rotate_left
            · show Act.put _ (some 72) _ = _
              simp only [Act.put, List.setIfInBounds_toArray, List.set_cons_zero, List.set_cons_succ, i64_w, i32_w]
              rfl
            refine pure_ (i := 7) (N := some 73) (v := ?_) (a' := ?_) #[true, true, true, true, true, true, true, true, false, false, false, false, false, false, false, false, false, false, false, false, false, false, false, false, false, false, false] rfl rfl (by kernel_rfl) (fun _ _ _ h => h) (Or.inl ⟨by rfl, ?_⟩) ?_ ?_
            rotate_left
            · intro w'
              go_simp
              with_reducible rfl
            rotate_left
            · simp only [Act.put, List.setIfInBounds_toArray, List.set_cons_zero, List.set_cons_succ, i64_w, i32_w]
              rfl
            refine pure_ (i := 8) (N := some 74) (v := ?_) (a' := ?_) #[true, true, true, true, true, true, true, true, true, false, false, false, false, false, false, false, false, false, false, false, false, false, false, false, false, false, false] rfl rfl (by kernel_rfl) (fun _ _ _ h => h) (Or.inl ⟨by rfl, ?_⟩) ?_ ?_
            rotate_left
            · intro w'
              go_simp
              with_reducible rfl
            rotate_left
            · simp only [Act.put, List.setIfInBounds_toArray, List.set_cons_zero, List.set_cons_succ, i64_w, i32_w]
              rfl
            refine pure_ (i := 9) (N := some 75) (v := ?_) (a' := ?_) #[true, true, true, true, true, true, true, true, true, true, false, false, false, false, false, false, false, false, false, false, false, false, false, false, false, false, false] rfl rfl (by kernel_rfl) (fun _ _ _ h => h) (Or.inl ⟨by rfl, ?_⟩) ?_ ?_
            rotate_left
            · intro w'
              go_simp
              with_reducible rfl
            rotate_left
            · simp only [Act.put, List.setIfInBounds_toArray, List.set_cons_zero, List.set_cons_succ, i64_w, i32_w]
              rfl
            refine pure_ (i := 10) (N := some 76) (v := ?_) (a' := ?_) #[true, true, true, true, true, true, true, true, true, true, true, false, false, false, false, false, false, false, false, false, false, false, false, false, false, false, false] rfl rfl (by kernel_rfl) (fun _ _ _ h => h) (Or.inl ⟨by rfl, ?_⟩) ?_ ?_
            rotate_left
            · intro w'
              go_simp
              with_reducible rfl
            rotate_left
            · simp only [Act.put, List.setIfInBounds_toArray, List.set_cons_zero, List.set_cons_succ, i64_w, i32_w]
              rfl
            refine pure_ (i := 13) (N := some 79) (v := ?_) (a' := ?_) #[true, true, true, true, true, true, true, true, true, true, true, false, false, true, false, false, false, false, false, false, false, false, false, false, false, false, false] rfl rfl (by kernel_rfl) (fun _ _ _ h => h) (Or.inl ⟨by rfl, ?_⟩) ?_ ?_
            rotate_left
            · intro w'
              go_simp
              with_reducible rfl
            rotate_left
            · simp only [Act.put, List.setIfInBounds_toArray, List.set_cons_zero, List.set_cons_succ, i64_w, i32_w]
              rfl
            refine pure_ (i := 14) (N := some 80) (v := ?_) (a' := ?_) #[true, true, true, true, true, true, true, true, true, true, true, false, false, true, true, false, false, false, false, false, false, false, false, false, false, false, false] rfl rfl (by kernel_rfl) (fun _ _ _ h => h) (Or.inl ⟨by rfl, ?_⟩) ?_ ?_
            rotate_left
            · intro w'
              go_simp
              with_reducible rfl
            rotate_left
            · simp only [Act.put, List.setIfInBounds_toArray, List.set_cons_zero, List.set_cons_succ, i64_w, i32_w]
              rfl
            refine pure_ (i := 15) (N := some 81) (v := ?_) (a' := ?_) #[true, true, true, true, true, true, true, true, true, true, true, false, false, true, true, true, false, false, false, false, false, false, false, false, false, false, false] rfl rfl (by kernel_rfl) (fun _ _ _ h => h) (Or.inl ⟨by rfl, ?_⟩) ?_ ?_
            rotate_left
            · intro w'
              go_simp
              with_reducible rfl
            rotate_left
            · simp only [Act.put, List.setIfInBounds_toArray, List.set_cons_zero, List.set_cons_succ, i64_w, i32_w]
              rfl
            refine take_ (i := 16) (N := some 82) (v := ?_) (a' := ?_) #[true, true, true, true, true, true, true, true, true, true, true, false, false, true, true, true, true, false, false, false, false, false, false, false, false, false, false] rfl rfl (by kernel_rfl) (fun _ _ _ h => h) (Or.inl ⟨by rfl, ?_⟩) hHeld ?_ ?_
            rotate_left
            · intro w' s0
              go_simp
              with_reducible rfl
            rotate_left
            · simp only [Act.put, List.setIfInBounds_toArray, List.set_cons_zero, List.set_cons_succ, i64_w, i32_w]
              rfl
            refine one_ (i := 11) (N := some 77) #[true, true, true, true, true, true, true, true, true, true, true, true, false, true, true, true, true, false, false, false, false, false, false, false, false, false, false] rfl rfl (by kernel_rfl) (by decide) (fun K hK => ?_)
            refine goes_ Try.func41 (by kernel_rfl) rfl #[.pointer (some ⟨g, 0, none⟩)] (by rfl) rfl rfl (by simp only [List.map_toArray, List.map_cons, List.map_nil]; rfl) ?_
            with_reducible refine (errA HQ2.out).mono ?_
            rintro e q3 ⟨rfl, hq⟩
            refine ⟨_, rfl, ?_⟩
            have HQ3 := Aside0.mk hq
            clear hq
            refine hK.out _ _ (HQ3.out.cell2) (fun hHeld => ?_)
            clear hK K
            refine norm_ (a' := ?_) ?_ ?_
            rotate_left
            · show Act.put _ (some 77) _ = _
              simp only [Act.put, List.setIfInBounds_toArray, List.set_cons_zero, List.set_cons_succ, i64_w, i32_w]
              rfl
            refine one_ (i := 12) (N := some 78) #[true, true, true, true, true, true, true, true, true, true, true, true, true, true, true, true, true, false, false, false, false, false, false, false, false, false, false] rfl rfl (by kernel_rfl) (by decide) (fun K hK => ?_)
            refine goes_ Try.func17 (by kernel_rfl) rfl #[.int .i64 ev'] (by rfl) rfl rfl (by simp only [List.map_toArray, List.map_cons, List.map_nil]; rfl) ?_
            with_reducible refine (weighhouselaw01_num.calls ev' ev' _ rfl).mono ?_
            rintro e q4 ⟨rfl, hq⟩
            refine ⟨_, rfl, ?_⟩
            have HQ4 := Aside0.mk (HQ3.out.below hq.below)
            clear hq
            refine hK.out _ _ (HQ4.out.cell2) (fun hHeld => ?_)
            clear hK K
            refine norm_ (a' := ?_) ?_ ?_
            rotate_left
            · show Act.put _ (some 78) _ = _
              simp only [Act.put, List.setIfInBounds_toArray, List.set_cons_zero, List.set_cons_succ, i64_w, i32_w]
              rfl
            refine pure_ (i := 17) (N := some 83) (v := ?_) (a' := ?_) #[true, true, true, true, true, true, true, true, true, true, true, true, true, true, true, true, true, true, false, false, false, false, false, false, false, false, false] rfl rfl (by kernel_rfl) (fun _ _ _ h => h) (Or.inl ⟨by rfl, ?_⟩) ?_ ?_
            rotate_left
            · intro w'
              go_simp
              with_reducible rfl
            rotate_left
            · simp only [Act.put, List.setIfInBounds_toArray, List.set_cons_zero, List.set_cons_succ, i64_w, i32_w]
              rfl
            refine pure_ (i := 18) (N := some 84) (v := ?_) (a' := ?_) #[true, true, true, true, true, true, true, true, true, true, true, true, true, true, true, true, true, true, true, false, false, false, false, false, false, false, false] rfl rfl (by kernel_rfl) (fun _ _ _ h => h) (Or.inl ⟨by rfl, ?_⟩) ?_ ?_
            rotate_left
            · intro w'
              go_simp
              with_reducible rfl
            rotate_left
            · simp only [Act.put, List.setIfInBounds_toArray, List.set_cons_zero, List.set_cons_succ, i64_w, i32_w]
              rfl
            refine pure_ (i := 19) (N := some 85) (v := ?_) (a' := ?_) #[true, true, true, true, true, true, true, true, true, true, true, true, true, true, true, true, true, true, true, true, false, false, false, false, false, false, false] rfl rfl (by kernel_rfl) (fun _ _ _ h => h) (Or.inl ⟨by rfl, ?_⟩) ?_ ?_
            rotate_left
            · intro w'
              go_simp
              with_reducible rfl
            rotate_left
            · simp only [Act.put, List.setIfInBounds_toArray, List.set_cons_zero, List.set_cons_succ, i64_w, i32_w]
              rfl
            refine pure_ (i := 20) (N := some 86) (v := ?_) (a' := ?_) #[true, true, true, true, true, true, true, true, true, true, true, true, true, true, true, true, true, true, true, true, true, false, false, false, false, false, false] rfl rfl (by kernel_rfl) (fun _ _ _ h => h) (Or.inl ⟨by rfl, ?_⟩) ?_ ?_
            rotate_left
            · intro w'
              go_simp
              with_reducible rfl
            rotate_left
            · simp only [Act.put, List.setIfInBounds_toArray, List.set_cons_zero, List.set_cons_succ, i64_w, i32_w]
              rfl
            refine pure_ (i := 23) (N := some 89) (v := ?_) (a' := ?_) #[true, true, true, true, true, true, true, true, true, true, true, true, true, true, true, true, true, true, true, true, true, false, false, true, false, false, false] rfl rfl (by kernel_rfl) (fun _ _ _ h => h) (Or.inl ⟨by rfl, ?_⟩) ?_ ?_
            rotate_left
            · intro w'
              go_simp
              with_reducible rfl
            rotate_left
            · simp only [Act.put, List.setIfInBounds_toArray, List.set_cons_zero, List.set_cons_succ, i64_w, i32_w]
              rfl
            refine one_ (i := 21) (N := some 87) #[true, true, true, true, true, true, true, true, true, true, true, true, true, true, true, true, true, true, true, true, true, true, false, true, false, false, false] rfl rfl (by kernel_rfl) (by decide) (fun K hK => ?_)
            refine goes_ Try.func32 (by kernel_rfl) rfl #[.pointer (some ⟨g, 0, none⟩)] (by rfl) rfl rfl (by simp only [List.map_toArray, List.map_cons, List.map_nil]; rfl) ?_
            with_reducible refine (doneA HQ4.out).mono ?_
            rintro e q5 ⟨rfl, hq⟩
            refine ⟨_, rfl, ?_⟩
            have HQ5 := Aside0.mk hq
            clear hq
            refine hK.out _ _ (HQ5.out.cell2) (fun hHeld => ?_)
            clear hK K
            refine norm_ (a' := ?_) ?_ ?_
            rotate_left
            · show Act.put _ (some 87) _ = _
              simp only [Act.put, List.setIfInBounds_toArray, List.set_cons_zero, List.set_cons_succ, i64_w, i32_w]
              rfl
            refine one_ (i := 22) (N := some 88) #[true, true, true, true, true, true, true, true, true, true, true, true, true, true, true, true, true, true, true, true, true, true, true, true, false, false, false] rfl rfl (by kernel_rfl) (by decide) (fun K hK => ?_)
            refine goes_ Try.func17 (by kernel_rfl) rfl #[.int .i64 (rDone xs' ev')] (by rfl) rfl rfl (by simp only [List.map_toArray, List.map_cons, List.map_nil]; rfl) ?_
            with_reducible refine (weighhouselaw01_num.calls (rDone xs' ev') (rDone xs' ev') _ rfl).mono ?_
            rintro e q6 ⟨rfl, hq⟩
            refine ⟨_, rfl, ?_⟩
            have HQ6 := Aside0.mk (HQ5.out.below hq.below)
            clear hq
            refine hK.out _ _ (HQ6.out.cell2) (fun hHeld => ?_)
            clear hK K
            refine norm_ (a' := ?_) ?_ ?_
            rotate_left
            · show Act.put _ (some 88) _ = _
              simp only [Act.put, List.setIfInBounds_toArray, List.set_cons_zero, List.set_cons_succ, i64_w, i32_w]
              rfl
            refine one_ (i := 24) (N := some 90) #[true, true, true, true, true, true, true, true, true, true, true, true, true, true, true, true, true, true, true, true, true, true, true, true, true, false, false] rfl rfl (by kernel_rfl) (by decide) (fun K hK => ?_)
            refine goes_ Try.func42 (by kernel_rfl) rfl #[.pointer (some ⟨g2, 0, none⟩)] (by rfl) rfl rfl (by simp only [List.map_toArray, List.map_cons, List.map_nil]; rfl) ?_
            with_reducible refine (doneB HQ6.out).mono ?_
            rintro e q7 ⟨rfl, hq⟩
            refine ⟨_, rfl, ?_⟩
            have HQ7 := Aside0.mk hq
            clear hq
            refine hK.out _ _ (HQ7.out.cell2) (fun hHeld => ?_)
            clear hK K
            refine norm_ (a' := ?_) ?_ ?_
            rotate_left
            · show Act.put _ (some 90) _ = _
              simp only [Act.put, List.setIfInBounds_toArray, List.set_cons_zero, List.set_cons_succ, i64_w, i32_w]
              rfl
            refine pure_ (i := 25) (N := some 91) (v := ?_) (a' := ?_) #[true, true, true, true, true, true, true, true, true, true, true, true, true, true, true, true, true, true, true, true, true, true, true, true, true, true, false] rfl rfl (by kernel_rfl) (fun _ _ _ h => h) (Or.inl ⟨by rfl, ?_⟩) ?_ ?_
            rotate_left
            · intro w'
              go_simp
              with_reducible rfl
            rotate_left
            · simp only [Act.put, List.setIfInBounds_toArray, List.set_cons_zero, List.set_cons_succ, i64_w, i32_w]
              rfl
            refine pure_ (i := 26) (N := some 92) (v := ?_) (a' := ?_) #[true, true, true, true, true, true, true, true, true, true, true, true, true, true, true, true, true, true, true, true, true, true, true, true, true, true, true] rfl rfl (by kernel_rfl) (fun _ _ _ h => h) (Or.inl ⟨by rfl, ?_⟩) ?_ ?_
            rotate_left
            · intro w'
              go_simp
              with_reducible rfl
            rotate_left
            · simp only [Act.put, List.setIfInBounds_toArray, List.set_cons_zero, List.set_cons_succ, i64_w, i32_w]
              rfl
            refine done_ (by kernel_rfl) ?_
            clear hHeld k2
            go_wp2
            go_roundw
            case rel => exact ⟨j + 1, xs', ev', by omega, by go_num, HQ7⟩
            case measure => simp [intOf]; omega
          have d1 : (x == 0) = false := by simp [h0]
          by_cases h1 : x = 1
          · have d2 : (x == 1) = true := by simp [h1]
            clear h0 h1
            go_upto_region 20 with (first | (go_at_call 36; (with_reducible refine (intA HT.out).mono ?_); rintro e w5 ⟨rfl, hT5⟩; have HT5 := Aside0.mk hT5; clear hT5) | (go_at_call 37; (with_reducible refine (intB HT5.out).mono ?_); rintro e w6 ⟨rfl, hT6⟩; have HT6 := Aside0.mk hT6; clear hT6))
            obtain ⟨xs', hxs'⟩ : ∃ xs', (rInt xs ev).2.1 = xs' := ⟨_, rfl⟩
            obtain ⟨ev', hev'⟩ : ∃ ev', (rInt xs ev).2.2 = ev' := ⟨_, rfl⟩
            rw [hxs', hev'] at HT6
            have HTd := Aside0.mk (HT6.out.below ((Below.refl _ _).drew))
            have k2 := HTd.out.cell2
            clear hxs' hev' HT5 HT6
            refine start_ (n := 27) (S := fun w' => w'.cell? ⟨g2, 2, none⟩ = some (.int .i64 ev')) (ds := []) #[false, false, false, false, false, false, false, false, false, false, false, false, false, false, false, false, false, false, false, false, false, false, false, false, false, false, false] (by kernel_rfl) rfl rfl (k2) (fun hHeld => ?_)
            generalize w6.drew = wd at HTd k2 hHeld ⊢
            refine pure_ (i := 0) (N := some 66) (v := ?_) (a' := ?_) #[true, false, false, false, false, false, false, false, false, false, false, false, false, false, false, false, false, false, false, false, false, false, false, false, false, false, false] rfl rfl (by kernel_rfl) (fun _ _ _ h => h) (Or.inl ⟨by rfl, ?_⟩) ?_ ?_
            rotate_left
            · intro w'
              go_simp
              with_reducible rfl
            rotate_left
            · simp only [Act.put, List.setIfInBounds_toArray, List.set_cons_zero, List.set_cons_succ, i64_w, i32_w]
              rfl
            refine pure_ (i := 1) (N := some 67) (v := ?_) (a' := ?_) #[true, true, false, false, false, false, false, false, false, false, false, false, false, false, false, false, false, false, false, false, false, false, false, false, false, false, false] rfl rfl (by kernel_rfl) (fun _ _ _ h => h) (Or.inl ⟨by rfl, ?_⟩) ?_ ?_
            rotate_left
            · intro w'
              go_simp
              with_reducible rfl
            rotate_left
            · simp only [Act.put, List.setIfInBounds_toArray, List.set_cons_zero, List.set_cons_succ, i64_w, i32_w]
              rfl
            refine pure_ (i := 2) (N := some 68) (v := ?_) (a' := ?_) #[true, true, true, false, false, false, false, false, false, false, false, false, false, false, false, false, false, false, false, false, false, false, false, false, false, false, false] rfl rfl (by kernel_rfl) (fun _ _ _ h => h) (Or.inl ⟨by rfl, ?_⟩) ?_ ?_
            rotate_left
            · intro w'
              go_simp
              with_reducible rfl
            rotate_left
            · simp only [Act.put, List.setIfInBounds_toArray, List.set_cons_zero, List.set_cons_succ, i64_w, i32_w]
              rfl
            refine pure_ (i := 3) (N := some 69) (v := ?_) (a' := ?_) #[true, true, true, true, false, false, false, false, false, false, false, false, false, false, false, false, false, false, false, false, false, false, false, false, false, false, false] rfl rfl (by kernel_rfl) (fun _ _ _ h => h) (Or.inl ⟨by rfl, ?_⟩) ?_ ?_
            rotate_left
            · intro w'
              go_simp
              with_reducible rfl
            rotate_left
            · simp only [Act.put, List.setIfInBounds_toArray, List.set_cons_zero, List.set_cons_succ, i64_w, i32_w]
              rfl
            refine pure_ (i := 5) (N := some 71) (v := ?_) (a' := ?_) #[true, true, true, true, false, true, false, false, false, false, false, false, false, false, false, false, false, false, false, false, false, false, false, false, false, false, false] rfl rfl (by kernel_rfl) (fun _ _ _ h => h) (Or.inl ⟨by rfl, ?_⟩) ?_ ?_
            rotate_left
            · intro w'
              go_simp
              with_reducible rfl
            rotate_left
            · simp only [Act.put, List.setIfInBounds_toArray, List.set_cons_zero, List.set_cons_succ, i64_w, i32_w]
              rfl
            refine one_ (i := 4) (N := some 70) #[true, true, true, true, true, true, false, false, false, false, false, false, false, false, false, false, false, false, false, false, false, false, false, false, false, false, false] rfl rfl (by kernel_rfl) (by decide) (fun K hK => ?_)
            refine goes_ Try.func39 (by kernel_rfl) rfl #[.pointer (some ⟨g, 0, none⟩)] (by rfl) rfl rfl (by simp only [List.map_toArray, List.map_cons, List.map_nil]; rfl) ?_
            with_reducible refine (leftA HTd.out).mono ?_
            rintro e q1 ⟨rfl, hq⟩
            refine ⟨_, rfl, ?_⟩
            have HQ1 := Aside0.mk hq
            clear hq
            refine hK.out _ _ (HQ1.out.cell2) (fun hHeld => ?_)
            clear hK K
            refine norm_ (a' := ?_) ?_ ?_
            rotate_left
            · show Act.put _ (some 70) _ = _
              simp only [Act.put, List.setIfInBounds_toArray, List.set_cons_zero, List.set_cons_succ, i64_w, i32_w]
              rfl
            refine one_ (i := 6) (N := some 72) #[true, true, true, true, true, true, true, false, false, false, false, false, false, false, false, false, false, false, false, false, false, false, false, false, false, false, false] rfl rfl (by kernel_rfl) (by decide) (fun K hK => ?_)
            refine goes_ Try.func40 (by kernel_rfl) rfl #[.pointer (some ⟨g2, 0, none⟩)] (by rfl) rfl rfl (by simp only [List.map_toArray, List.map_cons, List.map_nil]; rfl) ?_
            with_reducible refine (leftB HQ1.out).mono ?_
            rintro e q2 ⟨rfl, hq⟩
            refine ⟨_, rfl, ?_⟩
            have HQ2 := Aside0.mk hq
            clear hq
            refine hK.out _ _ (HQ2.out.cell2) (fun hHeld => ?_)
            clear hK K
            refine norm_ (a' := ?_) ?_ ?_
            rotate_left
            · show Act.put _ (some 72) _ = _
              simp only [Act.put, List.setIfInBounds_toArray, List.set_cons_zero, List.set_cons_succ, i64_w, i32_w]
              rfl
            refine pure_ (i := 7) (N := some 73) (v := ?_) (a' := ?_) #[true, true, true, true, true, true, true, true, false, false, false, false, false, false, false, false, false, false, false, false, false, false, false, false, false, false, false] rfl rfl (by kernel_rfl) (fun _ _ _ h => h) (Or.inl ⟨by rfl, ?_⟩) ?_ ?_
            rotate_left
            · intro w'
              go_simp
              with_reducible rfl
            rotate_left
            · simp only [Act.put, List.setIfInBounds_toArray, List.set_cons_zero, List.set_cons_succ, i64_w, i32_w]
              rfl
            refine pure_ (i := 8) (N := some 74) (v := ?_) (a' := ?_) #[true, true, true, true, true, true, true, true, true, false, false, false, false, false, false, false, false, false, false, false, false, false, false, false, false, false, false] rfl rfl (by kernel_rfl) (fun _ _ _ h => h) (Or.inl ⟨by rfl, ?_⟩) ?_ ?_
            rotate_left
            · intro w'
              go_simp
              with_reducible rfl
            rotate_left
            · simp only [Act.put, List.setIfInBounds_toArray, List.set_cons_zero, List.set_cons_succ, i64_w, i32_w]
              rfl
            refine pure_ (i := 9) (N := some 75) (v := ?_) (a' := ?_) #[true, true, true, true, true, true, true, true, true, true, false, false, false, false, false, false, false, false, false, false, false, false, false, false, false, false, false] rfl rfl (by kernel_rfl) (fun _ _ _ h => h) (Or.inl ⟨by rfl, ?_⟩) ?_ ?_
            rotate_left
            · intro w'
              go_simp
              with_reducible rfl
            rotate_left
            · simp only [Act.put, List.setIfInBounds_toArray, List.set_cons_zero, List.set_cons_succ, i64_w, i32_w]
              rfl
            refine pure_ (i := 10) (N := some 76) (v := ?_) (a' := ?_) #[true, true, true, true, true, true, true, true, true, true, true, false, false, false, false, false, false, false, false, false, false, false, false, false, false, false, false] rfl rfl (by kernel_rfl) (fun _ _ _ h => h) (Or.inl ⟨by rfl, ?_⟩) ?_ ?_
            rotate_left
            · intro w'
              go_simp
              with_reducible rfl
            rotate_left
            · simp only [Act.put, List.setIfInBounds_toArray, List.set_cons_zero, List.set_cons_succ, i64_w, i32_w]
              rfl
            refine pure_ (i := 13) (N := some 79) (v := ?_) (a' := ?_) #[true, true, true, true, true, true, true, true, true, true, true, false, false, true, false, false, false, false, false, false, false, false, false, false, false, false, false] rfl rfl (by kernel_rfl) (fun _ _ _ h => h) (Or.inl ⟨by rfl, ?_⟩) ?_ ?_
            rotate_left
            · intro w'
              go_simp
              with_reducible rfl
            rotate_left
            · simp only [Act.put, List.setIfInBounds_toArray, List.set_cons_zero, List.set_cons_succ, i64_w, i32_w]
              rfl
            refine pure_ (i := 14) (N := some 80) (v := ?_) (a' := ?_) #[true, true, true, true, true, true, true, true, true, true, true, false, false, true, true, false, false, false, false, false, false, false, false, false, false, false, false] rfl rfl (by kernel_rfl) (fun _ _ _ h => h) (Or.inl ⟨by rfl, ?_⟩) ?_ ?_
            rotate_left
            · intro w'
              go_simp
              with_reducible rfl
            rotate_left
            · simp only [Act.put, List.setIfInBounds_toArray, List.set_cons_zero, List.set_cons_succ, i64_w, i32_w]
              rfl
            refine pure_ (i := 15) (N := some 81) (v := ?_) (a' := ?_) #[true, true, true, true, true, true, true, true, true, true, true, false, false, true, true, true, false, false, false, false, false, false, false, false, false, false, false] rfl rfl (by kernel_rfl) (fun _ _ _ h => h) (Or.inl ⟨by rfl, ?_⟩) ?_ ?_
            rotate_left
            · intro w'
              go_simp
              with_reducible rfl
            rotate_left
            · simp only [Act.put, List.setIfInBounds_toArray, List.set_cons_zero, List.set_cons_succ, i64_w, i32_w]
              rfl
            refine take_ (i := 16) (N := some 82) (v := ?_) (a' := ?_) #[true, true, true, true, true, true, true, true, true, true, true, false, false, true, true, true, true, false, false, false, false, false, false, false, false, false, false] rfl rfl (by kernel_rfl) (fun _ _ _ h => h) (Or.inl ⟨by rfl, ?_⟩) hHeld ?_ ?_
            rotate_left
            · intro w' s0
              go_simp
              with_reducible rfl
            rotate_left
            · simp only [Act.put, List.setIfInBounds_toArray, List.set_cons_zero, List.set_cons_succ, i64_w, i32_w]
              rfl
            refine one_ (i := 11) (N := some 77) #[true, true, true, true, true, true, true, true, true, true, true, true, false, true, true, true, true, false, false, false, false, false, false, false, false, false, false] rfl rfl (by kernel_rfl) (by decide) (fun K hK => ?_)
            refine goes_ Try.func41 (by kernel_rfl) rfl #[.pointer (some ⟨g, 0, none⟩)] (by rfl) rfl rfl (by simp only [List.map_toArray, List.map_cons, List.map_nil]; rfl) ?_
            with_reducible refine (errA HQ2.out).mono ?_
            rintro e q3 ⟨rfl, hq⟩
            refine ⟨_, rfl, ?_⟩
            have HQ3 := Aside0.mk hq
            clear hq
            refine hK.out _ _ (HQ3.out.cell2) (fun hHeld => ?_)
            clear hK K
            refine norm_ (a' := ?_) ?_ ?_
            rotate_left
            · show Act.put _ (some 77) _ = _
              simp only [Act.put, List.setIfInBounds_toArray, List.set_cons_zero, List.set_cons_succ, i64_w, i32_w]
              rfl
            refine one_ (i := 12) (N := some 78) #[true, true, true, true, true, true, true, true, true, true, true, true, true, true, true, true, true, false, false, false, false, false, false, false, false, false, false] rfl rfl (by kernel_rfl) (by decide) (fun K hK => ?_)
            refine goes_ Try.func17 (by kernel_rfl) rfl #[.int .i64 ev'] (by rfl) rfl rfl (by simp only [List.map_toArray, List.map_cons, List.map_nil]; rfl) ?_
            with_reducible refine (weighhouselaw01_num.calls ev' ev' _ rfl).mono ?_
            rintro e q4 ⟨rfl, hq⟩
            refine ⟨_, rfl, ?_⟩
            have HQ4 := Aside0.mk (HQ3.out.below hq.below)
            clear hq
            refine hK.out _ _ (HQ4.out.cell2) (fun hHeld => ?_)
            clear hK K
            refine norm_ (a' := ?_) ?_ ?_
            rotate_left
            · show Act.put _ (some 78) _ = _
              simp only [Act.put, List.setIfInBounds_toArray, List.set_cons_zero, List.set_cons_succ, i64_w, i32_w]
              rfl
            refine pure_ (i := 17) (N := some 83) (v := ?_) (a' := ?_) #[true, true, true, true, true, true, true, true, true, true, true, true, true, true, true, true, true, true, false, false, false, false, false, false, false, false, false] rfl rfl (by kernel_rfl) (fun _ _ _ h => h) (Or.inl ⟨by rfl, ?_⟩) ?_ ?_
            rotate_left
            · intro w'
              go_simp
              with_reducible rfl
            rotate_left
            · simp only [Act.put, List.setIfInBounds_toArray, List.set_cons_zero, List.set_cons_succ, i64_w, i32_w]
              rfl
            refine pure_ (i := 18) (N := some 84) (v := ?_) (a' := ?_) #[true, true, true, true, true, true, true, true, true, true, true, true, true, true, true, true, true, true, true, false, false, false, false, false, false, false, false] rfl rfl (by kernel_rfl) (fun _ _ _ h => h) (Or.inl ⟨by rfl, ?_⟩) ?_ ?_
            rotate_left
            · intro w'
              go_simp
              with_reducible rfl
            rotate_left
            · simp only [Act.put, List.setIfInBounds_toArray, List.set_cons_zero, List.set_cons_succ, i64_w, i32_w]
              rfl
            refine pure_ (i := 19) (N := some 85) (v := ?_) (a' := ?_) #[true, true, true, true, true, true, true, true, true, true, true, true, true, true, true, true, true, true, true, true, false, false, false, false, false, false, false] rfl rfl (by kernel_rfl) (fun _ _ _ h => h) (Or.inl ⟨by rfl, ?_⟩) ?_ ?_
            rotate_left
            · intro w'
              go_simp
              with_reducible rfl
            rotate_left
            · simp only [Act.put, List.setIfInBounds_toArray, List.set_cons_zero, List.set_cons_succ, i64_w, i32_w]
              rfl
            refine pure_ (i := 20) (N := some 86) (v := ?_) (a' := ?_) #[true, true, true, true, true, true, true, true, true, true, true, true, true, true, true, true, true, true, true, true, true, false, false, false, false, false, false] rfl rfl (by kernel_rfl) (fun _ _ _ h => h) (Or.inl ⟨by rfl, ?_⟩) ?_ ?_
            rotate_left
            · intro w'
              go_simp
              with_reducible rfl
            rotate_left
            · simp only [Act.put, List.setIfInBounds_toArray, List.set_cons_zero, List.set_cons_succ, i64_w, i32_w]
              rfl
            refine pure_ (i := 23) (N := some 89) (v := ?_) (a' := ?_) #[true, true, true, true, true, true, true, true, true, true, true, true, true, true, true, true, true, true, true, true, true, false, false, true, false, false, false] rfl rfl (by kernel_rfl) (fun _ _ _ h => h) (Or.inl ⟨by rfl, ?_⟩) ?_ ?_
            rotate_left
            · intro w'
              go_simp
              with_reducible rfl
            rotate_left
            · simp only [Act.put, List.setIfInBounds_toArray, List.set_cons_zero, List.set_cons_succ, i64_w, i32_w]
              rfl
            refine one_ (i := 21) (N := some 87) #[true, true, true, true, true, true, true, true, true, true, true, true, true, true, true, true, true, true, true, true, true, true, false, true, false, false, false] rfl rfl (by kernel_rfl) (by decide) (fun K hK => ?_)
            refine goes_ Try.func32 (by kernel_rfl) rfl #[.pointer (some ⟨g, 0, none⟩)] (by rfl) rfl rfl (by simp only [List.map_toArray, List.map_cons, List.map_nil]; rfl) ?_
            with_reducible refine (doneA HQ4.out).mono ?_
            rintro e q5 ⟨rfl, hq⟩
            refine ⟨_, rfl, ?_⟩
            have HQ5 := Aside0.mk hq
            clear hq
            refine hK.out _ _ (HQ5.out.cell2) (fun hHeld => ?_)
            clear hK K
            refine norm_ (a' := ?_) ?_ ?_
            rotate_left
            · show Act.put _ (some 87) _ = _
              simp only [Act.put, List.setIfInBounds_toArray, List.set_cons_zero, List.set_cons_succ, i64_w, i32_w]
              rfl
            refine one_ (i := 22) (N := some 88) #[true, true, true, true, true, true, true, true, true, true, true, true, true, true, true, true, true, true, true, true, true, true, true, true, false, false, false] rfl rfl (by kernel_rfl) (by decide) (fun K hK => ?_)
            refine goes_ Try.func17 (by kernel_rfl) rfl #[.int .i64 (rDone xs' ev')] (by rfl) rfl rfl (by simp only [List.map_toArray, List.map_cons, List.map_nil]; rfl) ?_
            with_reducible refine (weighhouselaw01_num.calls (rDone xs' ev') (rDone xs' ev') _ rfl).mono ?_
            rintro e q6 ⟨rfl, hq⟩
            refine ⟨_, rfl, ?_⟩
            have HQ6 := Aside0.mk (HQ5.out.below hq.below)
            clear hq
            refine hK.out _ _ (HQ6.out.cell2) (fun hHeld => ?_)
            clear hK K
            refine norm_ (a' := ?_) ?_ ?_
            rotate_left
            · show Act.put _ (some 88) _ = _
              simp only [Act.put, List.setIfInBounds_toArray, List.set_cons_zero, List.set_cons_succ, i64_w, i32_w]
              rfl
            refine one_ (i := 24) (N := some 90) #[true, true, true, true, true, true, true, true, true, true, true, true, true, true, true, true, true, true, true, true, true, true, true, true, true, false, false] rfl rfl (by kernel_rfl) (by decide) (fun K hK => ?_)
            refine goes_ Try.func42 (by kernel_rfl) rfl #[.pointer (some ⟨g2, 0, none⟩)] (by rfl) rfl rfl (by simp only [List.map_toArray, List.map_cons, List.map_nil]; rfl) ?_
            with_reducible refine (doneB HQ6.out).mono ?_
            rintro e q7 ⟨rfl, hq⟩
            refine ⟨_, rfl, ?_⟩
            have HQ7 := Aside0.mk hq
            clear hq
            refine hK.out _ _ (HQ7.out.cell2) (fun hHeld => ?_)
            clear hK K
            refine norm_ (a' := ?_) ?_ ?_
            rotate_left
            · show Act.put _ (some 90) _ = _
              simp only [Act.put, List.setIfInBounds_toArray, List.set_cons_zero, List.set_cons_succ, i64_w, i32_w]
              rfl
            refine pure_ (i := 25) (N := some 91) (v := ?_) (a' := ?_) #[true, true, true, true, true, true, true, true, true, true, true, true, true, true, true, true, true, true, true, true, true, true, true, true, true, true, false] rfl rfl (by kernel_rfl) (fun _ _ _ h => h) (Or.inl ⟨by rfl, ?_⟩) ?_ ?_
            rotate_left
            · intro w'
              go_simp
              with_reducible rfl
            rotate_left
            · simp only [Act.put, List.setIfInBounds_toArray, List.set_cons_zero, List.set_cons_succ, i64_w, i32_w]
              rfl
            refine pure_ (i := 26) (N := some 92) (v := ?_) (a' := ?_) #[true, true, true, true, true, true, true, true, true, true, true, true, true, true, true, true, true, true, true, true, true, true, true, true, true, true, true] rfl rfl (by kernel_rfl) (fun _ _ _ h => h) (Or.inl ⟨by rfl, ?_⟩) ?_ ?_
            rotate_left
            · intro w'
              go_simp
              with_reducible rfl
            rotate_left
            · simp only [Act.put, List.setIfInBounds_toArray, List.set_cons_zero, List.set_cons_succ, i64_w, i32_w]
              rfl
            refine done_ (by kernel_rfl) ?_
            clear hHeld k2
            go_wp2
            go_roundw
            case rel => exact ⟨j + 1, xs', ev', by omega, by go_num, HQ7⟩
            case measure => simp [intOf]; omega
          · have d2 : (x == 1) = false := by simp [h1]
            clear h0 h1
            go_upto_region 20 with (first | (go_at_call 31; (with_reducible refine (textA HT.out).mono ?_); rintro e w5 ⟨rfl, hT5⟩; have HT5 := Aside0.mk hT5; clear hT5) | (go_at_call 38; (with_reducible refine (textB_ HT5.out).mono ?_); rintro e w6 ⟨rfl, hT6⟩; have HT6 := Aside0.mk hT6; clear hT6))
            obtain ⟨xs', hxs'⟩ : ∃ xs', (rText xs ev).2.1 = xs' := ⟨_, rfl⟩
            obtain ⟨ev', hev'⟩ : ∃ ev', (rText xs ev).2.2 = ev' := ⟨_, rfl⟩
            rw [hxs', hev'] at HT6
            have HTd := Aside0.mk (HT6.out.below ((Below.refl _ _).drew))
            have k2 := HTd.out.cell2
            clear hxs' hev' HT5 HT6
            refine start_ (n := 27) (S := fun w' => w'.cell? ⟨g2, 2, none⟩ = some (.int .i64 ev')) (ds := []) #[false, false, false, false, false, false, false, false, false, false, false, false, false, false, false, false, false, false, false, false, false, false, false, false, false, false, false] (by kernel_rfl) rfl rfl (k2) (fun hHeld => ?_)
            generalize w6.drew = wd at HTd k2 hHeld ⊢
            refine pure_ (i := 0) (N := some 66) (v := ?_) (a' := ?_) #[true, false, false, false, false, false, false, false, false, false, false, false, false, false, false, false, false, false, false, false, false, false, false, false, false, false, false] rfl rfl (by kernel_rfl) (fun _ _ _ h => h) (Or.inl ⟨by rfl, ?_⟩) ?_ ?_
            rotate_left
            · intro w'
              go_simp
              with_reducible rfl
            rotate_left
            · simp only [Act.put, List.setIfInBounds_toArray, List.set_cons_zero, List.set_cons_succ, i64_w, i32_w]
              rfl
            refine pure_ (i := 1) (N := some 67) (v := ?_) (a' := ?_) #[true, true, false, false, false, false, false, false, false, false, false, false, false, false, false, false, false, false, false, false, false, false, false, false, false, false, false] rfl rfl (by kernel_rfl) (fun _ _ _ h => h) (Or.inl ⟨by rfl, ?_⟩) ?_ ?_
            rotate_left
            · intro w'
              go_simp
              with_reducible rfl
            rotate_left
            · simp only [Act.put, List.setIfInBounds_toArray, List.set_cons_zero, List.set_cons_succ, i64_w, i32_w]
              rfl
            refine pure_ (i := 2) (N := some 68) (v := ?_) (a' := ?_) #[true, true, true, false, false, false, false, false, false, false, false, false, false, false, false, false, false, false, false, false, false, false, false, false, false, false, false] rfl rfl (by kernel_rfl) (fun _ _ _ h => h) (Or.inl ⟨by rfl, ?_⟩) ?_ ?_
            rotate_left
            · intro w'
              go_simp
              with_reducible rfl
            rotate_left
            · simp only [Act.put, List.setIfInBounds_toArray, List.set_cons_zero, List.set_cons_succ, i64_w, i32_w]
              rfl
            refine pure_ (i := 3) (N := some 69) (v := ?_) (a' := ?_) #[true, true, true, true, false, false, false, false, false, false, false, false, false, false, false, false, false, false, false, false, false, false, false, false, false, false, false] rfl rfl (by kernel_rfl) (fun _ _ _ h => h) (Or.inl ⟨by rfl, ?_⟩) ?_ ?_
            rotate_left
            · intro w'
              go_simp
              with_reducible rfl
            rotate_left
            · simp only [Act.put, List.setIfInBounds_toArray, List.set_cons_zero, List.set_cons_succ, i64_w, i32_w]
              rfl
            refine pure_ (i := 5) (N := some 71) (v := ?_) (a' := ?_) #[true, true, true, true, false, true, false, false, false, false, false, false, false, false, false, false, false, false, false, false, false, false, false, false, false, false, false] rfl rfl (by kernel_rfl) (fun _ _ _ h => h) (Or.inl ⟨by rfl, ?_⟩) ?_ ?_
            rotate_left
            · intro w'
              go_simp
              with_reducible rfl
            rotate_left
            · simp only [Act.put, List.setIfInBounds_toArray, List.set_cons_zero, List.set_cons_succ, i64_w, i32_w]
              rfl
            refine one_ (i := 4) (N := some 70) #[true, true, true, true, true, true, false, false, false, false, false, false, false, false, false, false, false, false, false, false, false, false, false, false, false, false, false] rfl rfl (by kernel_rfl) (by decide) (fun K hK => ?_)
            refine goes_ Try.func39 (by kernel_rfl) rfl #[.pointer (some ⟨g, 0, none⟩)] (by rfl) rfl rfl (by simp only [List.map_toArray, List.map_cons, List.map_nil]; rfl) ?_
            with_reducible refine (leftA HTd.out).mono ?_
            rintro e q1 ⟨rfl, hq⟩
            refine ⟨_, rfl, ?_⟩
            have HQ1 := Aside0.mk hq
            clear hq
            refine hK.out _ _ (HQ1.out.cell2) (fun hHeld => ?_)
            clear hK K
            refine norm_ (a' := ?_) ?_ ?_
            rotate_left
            · show Act.put _ (some 70) _ = _
              simp only [Act.put, List.setIfInBounds_toArray, List.set_cons_zero, List.set_cons_succ, i64_w, i32_w]
              rfl
            refine one_ (i := 6) (N := some 72) #[true, true, true, true, true, true, true, false, false, false, false, false, false, false, false, false, false, false, false, false, false, false, false, false, false, false, false] rfl rfl (by kernel_rfl) (by decide) (fun K hK => ?_)
            refine goes_ Try.func40 (by kernel_rfl) rfl #[.pointer (some ⟨g2, 0, none⟩)] (by rfl) rfl rfl (by simp only [List.map_toArray, List.map_cons, List.map_nil]; rfl) ?_
            with_reducible refine (leftB HQ1.out).mono ?_
            rintro e q2 ⟨rfl, hq⟩
            refine ⟨_, rfl, ?_⟩
            have HQ2 := Aside0.mk hq
            clear hq
            refine hK.out _ _ (HQ2.out.cell2) (fun hHeld => ?_)
            clear hK K
            refine norm_ (a' := ?_) ?_ ?_
            rotate_left
            · show Act.put _ (some 72) _ = _
              simp only [Act.put, List.setIfInBounds_toArray, List.set_cons_zero, List.set_cons_succ, i64_w, i32_w]
              rfl
            refine pure_ (i := 7) (N := some 73) (v := ?_) (a' := ?_) #[true, true, true, true, true, true, true, true, false, false, false, false, false, false, false, false, false, false, false, false, false, false, false, false, false, false, false] rfl rfl (by kernel_rfl) (fun _ _ _ h => h) (Or.inl ⟨by rfl, ?_⟩) ?_ ?_
            rotate_left
            · intro w'
              go_simp
              with_reducible rfl
            rotate_left
            · simp only [Act.put, List.setIfInBounds_toArray, List.set_cons_zero, List.set_cons_succ, i64_w, i32_w]
              rfl
            refine pure_ (i := 8) (N := some 74) (v := ?_) (a' := ?_) #[true, true, true, true, true, true, true, true, true, false, false, false, false, false, false, false, false, false, false, false, false, false, false, false, false, false, false] rfl rfl (by kernel_rfl) (fun _ _ _ h => h) (Or.inl ⟨by rfl, ?_⟩) ?_ ?_
            rotate_left
            · intro w'
              go_simp
              with_reducible rfl
            rotate_left
            · simp only [Act.put, List.setIfInBounds_toArray, List.set_cons_zero, List.set_cons_succ, i64_w, i32_w]
              rfl
            refine pure_ (i := 9) (N := some 75) (v := ?_) (a' := ?_) #[true, true, true, true, true, true, true, true, true, true, false, false, false, false, false, false, false, false, false, false, false, false, false, false, false, false, false] rfl rfl (by kernel_rfl) (fun _ _ _ h => h) (Or.inl ⟨by rfl, ?_⟩) ?_ ?_
            rotate_left
            · intro w'
              go_simp
              with_reducible rfl
            rotate_left
            · simp only [Act.put, List.setIfInBounds_toArray, List.set_cons_zero, List.set_cons_succ, i64_w, i32_w]
              rfl
            refine pure_ (i := 10) (N := some 76) (v := ?_) (a' := ?_) #[true, true, true, true, true, true, true, true, true, true, true, false, false, false, false, false, false, false, false, false, false, false, false, false, false, false, false] rfl rfl (by kernel_rfl) (fun _ _ _ h => h) (Or.inl ⟨by rfl, ?_⟩) ?_ ?_
            rotate_left
            · intro w'
              go_simp
              with_reducible rfl
            rotate_left
            · simp only [Act.put, List.setIfInBounds_toArray, List.set_cons_zero, List.set_cons_succ, i64_w, i32_w]
              rfl
            refine pure_ (i := 13) (N := some 79) (v := ?_) (a' := ?_) #[true, true, true, true, true, true, true, true, true, true, true, false, false, true, false, false, false, false, false, false, false, false, false, false, false, false, false] rfl rfl (by kernel_rfl) (fun _ _ _ h => h) (Or.inl ⟨by rfl, ?_⟩) ?_ ?_
            rotate_left
            · intro w'
              go_simp
              with_reducible rfl
            rotate_left
            · simp only [Act.put, List.setIfInBounds_toArray, List.set_cons_zero, List.set_cons_succ, i64_w, i32_w]
              rfl
            refine pure_ (i := 14) (N := some 80) (v := ?_) (a' := ?_) #[true, true, true, true, true, true, true, true, true, true, true, false, false, true, true, false, false, false, false, false, false, false, false, false, false, false, false] rfl rfl (by kernel_rfl) (fun _ _ _ h => h) (Or.inl ⟨by rfl, ?_⟩) ?_ ?_
            rotate_left
            · intro w'
              go_simp
              with_reducible rfl
            rotate_left
            · simp only [Act.put, List.setIfInBounds_toArray, List.set_cons_zero, List.set_cons_succ, i64_w, i32_w]
              rfl
            refine pure_ (i := 15) (N := some 81) (v := ?_) (a' := ?_) #[true, true, true, true, true, true, true, true, true, true, true, false, false, true, true, true, false, false, false, false, false, false, false, false, false, false, false] rfl rfl (by kernel_rfl) (fun _ _ _ h => h) (Or.inl ⟨by rfl, ?_⟩) ?_ ?_
            rotate_left
            · intro w'
              go_simp
              with_reducible rfl
            rotate_left
            · simp only [Act.put, List.setIfInBounds_toArray, List.set_cons_zero, List.set_cons_succ, i64_w, i32_w]
              rfl
            refine take_ (i := 16) (N := some 82) (v := ?_) (a' := ?_) #[true, true, true, true, true, true, true, true, true, true, true, false, false, true, true, true, true, false, false, false, false, false, false, false, false, false, false] rfl rfl (by kernel_rfl) (fun _ _ _ h => h) (Or.inl ⟨by rfl, ?_⟩) hHeld ?_ ?_
            rotate_left
            · intro w' s0
              go_simp
              with_reducible rfl
            rotate_left
            · simp only [Act.put, List.setIfInBounds_toArray, List.set_cons_zero, List.set_cons_succ, i64_w, i32_w]
              rfl
            refine one_ (i := 11) (N := some 77) #[true, true, true, true, true, true, true, true, true, true, true, true, false, true, true, true, true, false, false, false, false, false, false, false, false, false, false] rfl rfl (by kernel_rfl) (by decide) (fun K hK => ?_)
            refine goes_ Try.func41 (by kernel_rfl) rfl #[.pointer (some ⟨g, 0, none⟩)] (by rfl) rfl rfl (by simp only [List.map_toArray, List.map_cons, List.map_nil]; rfl) ?_
            with_reducible refine (errA HQ2.out).mono ?_
            rintro e q3 ⟨rfl, hq⟩
            refine ⟨_, rfl, ?_⟩
            have HQ3 := Aside0.mk hq
            clear hq
            refine hK.out _ _ (HQ3.out.cell2) (fun hHeld => ?_)
            clear hK K
            refine norm_ (a' := ?_) ?_ ?_
            rotate_left
            · show Act.put _ (some 77) _ = _
              simp only [Act.put, List.setIfInBounds_toArray, List.set_cons_zero, List.set_cons_succ, i64_w, i32_w]
              rfl
            refine one_ (i := 12) (N := some 78) #[true, true, true, true, true, true, true, true, true, true, true, true, true, true, true, true, true, false, false, false, false, false, false, false, false, false, false] rfl rfl (by kernel_rfl) (by decide) (fun K hK => ?_)
            refine goes_ Try.func17 (by kernel_rfl) rfl #[.int .i64 ev'] (by rfl) rfl rfl (by simp only [List.map_toArray, List.map_cons, List.map_nil]; rfl) ?_
            with_reducible refine (weighhouselaw01_num.calls ev' ev' _ rfl).mono ?_
            rintro e q4 ⟨rfl, hq⟩
            refine ⟨_, rfl, ?_⟩
            have HQ4 := Aside0.mk (HQ3.out.below hq.below)
            clear hq
            refine hK.out _ _ (HQ4.out.cell2) (fun hHeld => ?_)
            clear hK K
            refine norm_ (a' := ?_) ?_ ?_
            rotate_left
            · show Act.put _ (some 78) _ = _
              simp only [Act.put, List.setIfInBounds_toArray, List.set_cons_zero, List.set_cons_succ, i64_w, i32_w]
              rfl
            refine pure_ (i := 17) (N := some 83) (v := ?_) (a' := ?_) #[true, true, true, true, true, true, true, true, true, true, true, true, true, true, true, true, true, true, false, false, false, false, false, false, false, false, false] rfl rfl (by kernel_rfl) (fun _ _ _ h => h) (Or.inl ⟨by rfl, ?_⟩) ?_ ?_
            rotate_left
            · intro w'
              go_simp
              with_reducible rfl
            rotate_left
            · simp only [Act.put, List.setIfInBounds_toArray, List.set_cons_zero, List.set_cons_succ, i64_w, i32_w]
              rfl
            refine pure_ (i := 18) (N := some 84) (v := ?_) (a' := ?_) #[true, true, true, true, true, true, true, true, true, true, true, true, true, true, true, true, true, true, true, false, false, false, false, false, false, false, false] rfl rfl (by kernel_rfl) (fun _ _ _ h => h) (Or.inl ⟨by rfl, ?_⟩) ?_ ?_
            rotate_left
            · intro w'
              go_simp
              with_reducible rfl
            rotate_left
            · simp only [Act.put, List.setIfInBounds_toArray, List.set_cons_zero, List.set_cons_succ, i64_w, i32_w]
              rfl
            refine pure_ (i := 19) (N := some 85) (v := ?_) (a' := ?_) #[true, true, true, true, true, true, true, true, true, true, true, true, true, true, true, true, true, true, true, true, false, false, false, false, false, false, false] rfl rfl (by kernel_rfl) (fun _ _ _ h => h) (Or.inl ⟨by rfl, ?_⟩) ?_ ?_
            rotate_left
            · intro w'
              go_simp
              with_reducible rfl
            rotate_left
            · simp only [Act.put, List.setIfInBounds_toArray, List.set_cons_zero, List.set_cons_succ, i64_w, i32_w]
              rfl
            refine pure_ (i := 20) (N := some 86) (v := ?_) (a' := ?_) #[true, true, true, true, true, true, true, true, true, true, true, true, true, true, true, true, true, true, true, true, true, false, false, false, false, false, false] rfl rfl (by kernel_rfl) (fun _ _ _ h => h) (Or.inl ⟨by rfl, ?_⟩) ?_ ?_
            rotate_left
            · intro w'
              go_simp
              with_reducible rfl
            rotate_left
            · simp only [Act.put, List.setIfInBounds_toArray, List.set_cons_zero, List.set_cons_succ, i64_w, i32_w]
              rfl
            refine pure_ (i := 23) (N := some 89) (v := ?_) (a' := ?_) #[true, true, true, true, true, true, true, true, true, true, true, true, true, true, true, true, true, true, true, true, true, false, false, true, false, false, false] rfl rfl (by kernel_rfl) (fun _ _ _ h => h) (Or.inl ⟨by rfl, ?_⟩) ?_ ?_
            rotate_left
            · intro w'
              go_simp
              with_reducible rfl
            rotate_left
            · simp only [Act.put, List.setIfInBounds_toArray, List.set_cons_zero, List.set_cons_succ, i64_w, i32_w]
              rfl
            refine one_ (i := 21) (N := some 87) #[true, true, true, true, true, true, true, true, true, true, true, true, true, true, true, true, true, true, true, true, true, true, false, true, false, false, false] rfl rfl (by kernel_rfl) (by decide) (fun K hK => ?_)
            refine goes_ Try.func32 (by kernel_rfl) rfl #[.pointer (some ⟨g, 0, none⟩)] (by rfl) rfl rfl (by simp only [List.map_toArray, List.map_cons, List.map_nil]; rfl) ?_
            with_reducible refine (doneA HQ4.out).mono ?_
            rintro e q5 ⟨rfl, hq⟩
            refine ⟨_, rfl, ?_⟩
            have HQ5 := Aside0.mk hq
            clear hq
            refine hK.out _ _ (HQ5.out.cell2) (fun hHeld => ?_)
            clear hK K
            refine norm_ (a' := ?_) ?_ ?_
            rotate_left
            · show Act.put _ (some 87) _ = _
              simp only [Act.put, List.setIfInBounds_toArray, List.set_cons_zero, List.set_cons_succ, i64_w, i32_w]
              rfl
            refine one_ (i := 22) (N := some 88) #[true, true, true, true, true, true, true, true, true, true, true, true, true, true, true, true, true, true, true, true, true, true, true, true, false, false, false] rfl rfl (by kernel_rfl) (by decide) (fun K hK => ?_)
            refine goes_ Try.func17 (by kernel_rfl) rfl #[.int .i64 (rDone xs' ev')] (by rfl) rfl rfl (by simp only [List.map_toArray, List.map_cons, List.map_nil]; rfl) ?_
            with_reducible refine (weighhouselaw01_num.calls (rDone xs' ev') (rDone xs' ev') _ rfl).mono ?_
            rintro e q6 ⟨rfl, hq⟩
            refine ⟨_, rfl, ?_⟩
            have HQ6 := Aside0.mk (HQ5.out.below hq.below)
            clear hq
            refine hK.out _ _ (HQ6.out.cell2) (fun hHeld => ?_)
            clear hK K
            refine norm_ (a' := ?_) ?_ ?_
            rotate_left
            · show Act.put _ (some 88) _ = _
              simp only [Act.put, List.setIfInBounds_toArray, List.set_cons_zero, List.set_cons_succ, i64_w, i32_w]
              rfl
            refine one_ (i := 24) (N := some 90) #[true, true, true, true, true, true, true, true, true, true, true, true, true, true, true, true, true, true, true, true, true, true, true, true, true, false, false] rfl rfl (by kernel_rfl) (by decide) (fun K hK => ?_)
            refine goes_ Try.func42 (by kernel_rfl) rfl #[.pointer (some ⟨g2, 0, none⟩)] (by rfl) rfl rfl (by simp only [List.map_toArray, List.map_cons, List.map_nil]; rfl) ?_
            with_reducible refine (doneB HQ6.out).mono ?_
            rintro e q7 ⟨rfl, hq⟩
            refine ⟨_, rfl, ?_⟩
            have HQ7 := Aside0.mk hq
            clear hq
            refine hK.out _ _ (HQ7.out.cell2) (fun hHeld => ?_)
            clear hK K
            refine norm_ (a' := ?_) ?_ ?_
            rotate_left
            · show Act.put _ (some 90) _ = _
              simp only [Act.put, List.setIfInBounds_toArray, List.set_cons_zero, List.set_cons_succ, i64_w, i32_w]
              rfl
            refine pure_ (i := 25) (N := some 91) (v := ?_) (a' := ?_) #[true, true, true, true, true, true, true, true, true, true, true, true, true, true, true, true, true, true, true, true, true, true, true, true, true, true, false] rfl rfl (by kernel_rfl) (fun _ _ _ h => h) (Or.inl ⟨by rfl, ?_⟩) ?_ ?_
            rotate_left
            · intro w'
              go_simp
              with_reducible rfl
            rotate_left
            · simp only [Act.put, List.setIfInBounds_toArray, List.set_cons_zero, List.set_cons_succ, i64_w, i32_w]
              rfl
            refine pure_ (i := 26) (N := some 92) (v := ?_) (a' := ?_) #[true, true, true, true, true, true, true, true, true, true, true, true, true, true, true, true, true, true, true, true, true, true, true, true, true, true, true] rfl rfl (by kernel_rfl) (fun _ _ _ h => h) (Or.inl ⟨by rfl, ?_⟩) ?_ ?_
            rotate_left
            · intro w'
              go_simp
              with_reducible rfl
            rotate_left
            · simp only [Act.put, List.setIfInBounds_toArray, List.set_cons_zero, List.set_cons_succ, i64_w, i32_w]
              rfl
            refine done_ (by kernel_rfl) ?_
            clear hHeld k2
            go_wp2
            go_roundw
            case rel => exact ⟨j + 1, xs', ev', by omega, by go_num, HQ7⟩
            case measure => simp [intOf]; omega
        · go_wp2
          go_ret
          exact ⟨rfl, HT.out.bel⟩


end Go.Proofs.Ytjkimfjhfncldaa.Q
end

section
-- written by hprint.py (a program of these sessions) out of the translation; Lean checks it
namespace Go.Proofs.Ytjkimfjhfncldaa.Q
open Go.RowKit Go.Proofs.YtjkimfjhfncldaaW.Hb Go.Proofs.YtjkimfjhfncldaaW.PrintWords Go.Proofs.YtjkimfjhfncldaaW.PrintLast Go.Proofs.YtjkimfjhfncldaaW.PrintMore
attribute [local go_sem] max2_int min2_int max_two min_two max_three min_three max_four min_four   -- for this text's walks alone
set_option linter.unusedVariables false
set_option linter.unusedSimpArgs false

/-! ### weighhouselaw01_WireBack: function 11, by hand -/
theorem str_bytes (s : ByteArray) : strOfNums (bytesOf s) = s := by
  cases s with
  | mk d =>
    unfold strOfNums bytesOf
    congr 1
    rw [List.map_map]
    have : d.toList.map ((fun n : Int => UInt8.ofNat n.toNat) ∘ fun b : UInt8 => (b.toNat : Int)) = d.toList := by
      conv => rhs; rw [← List.map_id d.toList]
      refine List.map_congr_left (fun b _ => ?_)
      simp
    rw [this]
theorem big8 (n : Int) : bigL n 8 = [n / 2 ^ 56 % 256, n / 2 ^ 48 % 256, n / 2 ^ 40 % 256, n / 2 ^ 32 % 256, n / 2 ^ 24 % 256, n / 2 ^ 16 % 256, n / 2 ^ 8 % 256, n % 256] := by
  simp [bigL, bigB, List.range_succ]
theorem bigL_B (n : Int) (m : Nat) : ∀ x ∈ bigL n m, 0 ≤ x ∧ x ≤ 255 := by
  intro x hx
  obtain ⟨i, _, rfl⟩ := List.mem_map.1 hx
  unfold bigB
  omega
theorem bytesOf_B (s : ByteArray) : ∀ x ∈ bytesOf s, 0 ≤ x ∧ x ≤ 255 := by
  intro x hx
  obtain ⟨b, _, rfl⟩ := List.mem_map.1 hx
  have := b.toNat_lt
  omega
theorem ints8_B (l : List Int) : ∀ x ∈ ints8 l, 0 ≤ x ∧ x ≤ 255 := by
  intro x hx
  obtain ⟨y, _, hy⟩ := List.mem_flatMap.1 hx
  exact bigL_B _ _ x hy
theorem textsB_B (l : List ByteArray) : ∀ x ∈ textsB l, 0 ≤ x ∧ x ≤ 255 := by
  intro x hx
  obtain ⟨y, _, hy⟩ := List.mem_flatMap.1 hx
  rcases List.mem_append.1 hy with h | h
  · exact bigL_B _ _ x h
  · exact bytesOf_B _ x h
theorem numB_eight (x : Int) (h0 : 0 ≤ x) (h1 : x < 18446744073709551616) : (numB 0 (bigL x 8) : Int) = x := by
  obtain ⟨n, rfl⟩ := Int.eq_ofNat_of_zero_le h0
  rw [big8]
  have e : ∀ k : Nat, ((n : Int) / 2 ^ k % 256).toNat = n / 2 ^ k % 256 := fun k => by
    have : ((n : Int) / 2 ^ k % 256) = ((n / 2 ^ k % 256 : Nat) : Int) := by
      rw [Int.natCast_emod, Int.natCast_ediv, Int.natCast_pow]
      rfl
    rw [this, Int.toNat_natCast]
  have e0 : ((n : Int) % 256).toNat = n % 256 := by omega
  simp only [numB, List.foldl_cons, List.foldl_nil, e, e0]
  omega
theorem rInt_back (x : Int) (rest : List Int) (h0 : -9223372036854775808 ≤ x) (h1 : x ≤ 9223372036854775807) : rInt (bigL (IntKind.u64.wrap x) 8 ++ rest) 0 = (x, rest, 0) := by
  have hl := bigL_len' (IntKind.u64.wrap x) 8
  rw [rInt_ok (by rw [List.length_append]; omega), List.take_append_of_le_length (by omega), List.take_of_length_le (by omega), List.drop_append_of_le_length (by omega), List.drop_eq_nil_of_le (by omega), List.nil_append]
  have hn := numB_eight (IntKind.u64.wrap x) (u64_wrap_lo x) (by rw [wrapU64]; omega)
  rw [hn, wrapU64]
  congr 1
  unfold wrap64
  omega
theorem tlen_back (s : ByteArray) (rest : List Int) (h : s.size ≤ 65535) : tlen (textB s ++ rest) = s.size := by
  have h2 : bigL (s.size : Int) 2 = [(s.size : Int) / 256 % 256, (s.size : Int) % 256] := by simp [bigL, bigB, List.range_succ]
  unfold tlen textB
  rw [h2]
  simp only [List.cons_append, List.nil_append, rd, Int.toNat_natCast, List.getD_cons_zero, List.getD_cons_succ]
  omega
theorem rText_back (s : ByteArray) (rest : List Int) (h : s.size ≤ 65535) : rText (textB s ++ rest) 0 = (s, rest, 0) := by
  have hb := bigL_len' (s.size : Int) 2
  have hs := bytesOf_length s
  have ht := tlen_back s rest h
  have hl : (textB s ++ rest).length = 2 + s.size + rest.length := by unfold textB; rw [List.length_append, List.length_append, hb, hs]
  have hd : (textB s ++ rest).drop 2 = bytesOf s ++ rest := by
    unfold textB
    rw [List.append_assoc, List.drop_append_of_le_length (by omega), List.drop_eq_nil_of_le (by omega), List.nil_append]
  rw [rText_ok (by omega) (by rw [ht]; omega), ht, ← List.drop_drop, hd, List.take_append_of_le_length (by omega), List.take_of_length_le (by omega), List.drop_append_of_le_length (by omega), List.drop_eq_nil_of_le (by omega), List.nil_append, str_bytes]
theorem rByte_back (b : Int) (rest : List Int) : rByte (b :: rest) 0 = (b, rest, 0) := by
  rw [rByte_ok (by simp)]
  rfl
theorem ints8_cons (x : Int) (l : List Int) : ints8 (x :: l) = bigL (IntKind.u64.wrap x) 8 ++ ints8 l := rfl
theorem textsB_cons (x : ByteArray) (l : List ByteArray) : textsB (x :: l) = textB x ++ textsB l := rfl
theorem drop_cons_ {α : Type} (l : List α) (j : Nat) (h : j < l.length) : l.drop j = l[j] :: l.drop (j + 1) := List.drop_eq_getElem_cons h
/-- One writer. -/
def OneW (w0 w : World) (g : Nat) (l : List Int) : Prop := ∃ S, Wr w S g l ∧ (∀ k, S k → w0.heap.size ≤ k) ∧ l.length ≤ 1048576 ∧ Below w0.heap.size w0 w
def OneR (w0 w : World) (g : Nat) (xs : List Int) (e : Int) : Prop := ∃ S, Rd w S g xs e ∧ (∀ k, S k → w0.heap.size ≤ k) ∧ Below w0.heap.size w0 w
section
variable {w0 w w' : World} {g : Nat} {l xs : List Int} {e : Int}
theorem OneW.bel (h : OneW w0 w g l) : Below w0.heap.size w0 w := by
  obtain ⟨_, _, _, _, h⟩ := h
  exact h
theorem OneW.below (h : OneW w0 w g l) (hb : Below w.heap.size w w') : OneW w0 w' g l := by
  obtain ⟨S, h1, h2, h3, h4⟩ := h
  exact ⟨S, h1.below hb, h2, h3, h4.trans (hb.mono h4.size)⟩
theorem OneW.step {S : Nat → Prop} {l' : List Int} (h2 : ∀ k, S k → w0.heap.size ≤ k) (h4 : Below w0.heap.size w0 w) (h1 : Wr w' (SS S w w') g l') (hf : Fr w w' S) (hl : l'.length ≤ 1048576) : OneW w0 w' g l' := by
  have hs := h4.size
  refine ⟨SS S w w', h1, fun k hk => ?_, hl, h4.trans (hf.below hs h2)⟩
  rcases hk with hk | hk
  · exact h2 k hk
  · omega
theorem OneR.bel (h : OneR w0 w g xs e) : Below w0.heap.size w0 w := by
  obtain ⟨_, _, _, h⟩ := h
  exact h
theorem OneR.below (h : OneR w0 w g xs e) (hb : Below w.heap.size w w') : OneR w0 w' g xs e := by
  obtain ⟨S, h1, h2, h4⟩ := h
  exact ⟨S, h1.below hb, h2, h4.trans (hb.mono h4.size)⟩
theorem OneR.step {S : Nat → Prop} {xs' : List Int} {e' : Int} (hg : S g) (h2 : ∀ k, S k → w0.heap.size ≤ k) (h4 : Below w0.heap.size w0 w) (h1 : Rd w' S g xs' e') (hf : Fr w w' (fun k => k = g)) : OneR w0 w' g xs' e' := ⟨S, h1, h2, h4.trans (hf.below h4.size (fun k hk => by subst hk; exact h2 _ hg))⟩
theorem Rd.own {S : Nat → Prop} (h : Rd w S g xs e) : S g := by
  obtain ⟨_, _, _, _, h, _⟩ := h
  exact h
theorem intO {l' : List Int} {ec : Int} {p : List Int} (n c : Nat) (A : Option Addr) (hw : wmore l (ints8 p) = (l', ec)) (h : OneW w0 w g l) (hn : p.length = n) (hr : (Kd.int .i64).C w A p.length p) (hc : n ≤ c) (hs : p.length * 8 ≤ 140737488355328) : Calls Try.prog 25 #[.pointer (some ⟨g, 0, none⟩), .slice A n c] w fun en w' => en = .returned (.int .i64 ec) ∧ OneW w0 w' g l' := by
  obtain ⟨S, h1, h2, h3, h4⟩ := h
  have hl := wmore_len h3 (ints8 p)
  have := wire_Writer_Int.calls S g l A n c p w hn hr hc hs h1 h3
  rw [hw] at this hl
  exact this.mono fun en w' ⟨he, h, hf⟩ => ⟨he, OneW.step h2 h4 h hf hl⟩
theorem textO {l' : List Int} {ec : Int} {p : List ByteArray} (n c : Nat) (A : Option Addr) (hw : wtexts l p = (l', ec)) (h : OneW w0 w g l) (hn : p.length = n) (hr : Kd.string.C w A p.length p) (hc : n ≤ c) (hs : (textsB p).length * 1 ≤ 140737488355328) (hs2 : p.length * 48 ≤ 140737488355328) : Calls Try.prog 27 #[.pointer (some ⟨g, 0, none⟩), .slice A n c] w fun en w' => en = .returned (.int .i64 ec) ∧ OneW w0 w' g l' := by
  obtain ⟨S, h1, h2, h3, h4⟩ := h
  have hl := wtexts_len h3 p
  have := wire_Writer_Text.calls S g l A n c p w hn hr hc hs hs2 h1 h3
  rw [hw] at this hl
  exact this.mono fun en w' ⟨he, h, hf⟩ => ⟨he, OneW.step h2 h4 h hf hl⟩
theorem byteO {l' : List Int} {ec : Int} {p : List Int} (n c : Nat) (A : Option Addr) (hw : wbytes l p = (l', ec)) (h : OneW w0 w g l) (hn : p.length = n) (hr : (Kd.int .i64).C w A p.length p) (hc : n ≤ c) (hs : p.length * 8 ≤ 140737488355328) : Calls Try.prog 23 #[.pointer (some ⟨g, 0, none⟩), .slice A n c] w fun en w' => en = .returned (.int .i64 ec) ∧ OneW w0 w' g l' := by
  obtain ⟨S, h1, h2, h3, h4⟩ := h
  have hl := wbytes_len h3 p
  have := wire_Writer_Byte.calls S g l A n c p w hn hr hc hs h1 h3
  rw [hw] at this hl
  exact this.mono fun en w' ⟨he, h, hf⟩ => ⟨he, OneW.step h2 h4 h hf hl⟩
theorem bytesO (h : OneW w0 w g l) : Calls Try.prog 29 #[.pointer (some ⟨g, 0, none⟩)] w (OwnRes (Kd.int .u8) 5 w l) := by
  obtain ⟨S, h1, h2, h3, h4⟩ := h
  exact wire_Writer_Bytes.calls S g l w h1 h3
theorem intR1 {v : Int} {xs' : List Int} (hx : rInt xs 0 = (v, xs', 0)) (h : OneR w0 w g xs 0) : Calls Try.prog 36 #[.pointer (some ⟨g, 0, none⟩)] w fun en w' => en = .returned (.int .i64 v) ∧ OneR w0 w' g xs' 0 := by
  obtain ⟨S, h1, h2, h4⟩ := h
  have := wire_Reader_Int.calls S g xs 0 w h1
  rw [hx] at this
  exact this.mono fun en w' ⟨he, hr, hf⟩ => ⟨he, OneR.step h1.own h2 h4 hr hf⟩
theorem textR1 {v : ByteArray} {xs' : List Int} (hx : rText xs 0 = (v, xs', 0)) (h : OneR w0 w g xs 0) : Calls Try.prog 31 #[.pointer (some ⟨g, 0, none⟩)] w fun en w' => en = .returned (.string v) ∧ OneR w0 w' g xs' 0 := by
  obtain ⟨S, h1, h2, h4⟩ := h
  have := wire_Reader_Text.calls S g xs 0 w h1
  rw [hx] at this
  exact this.mono fun en w' ⟨he, hr, hf⟩ => ⟨he, OneR.step h1.own h2 h4 hr hf⟩
theorem byteR1 {v : Int} {xs' : List Int} (hx : rByte xs 0 = (v, xs', 0)) (h : OneR w0 w g xs 0) : Calls Try.prog 34 #[.pointer (some ⟨g, 0, none⟩)] w fun en w' => en = .returned (.int .i64 v) ∧ OneR w0 w' g xs' 0 := by
  obtain ⟨S, h1, h2, h4⟩ := h
  have := wire_Reader_Byte.calls S g xs 0 w h1
  rw [hx] at this
  exact this.mono fun en w' ⟨he, hr, hf⟩ => ⟨he, OneR.step h1.own h2 h4 hr hf⟩
theorem doneR1 (h : OneR w0 w g xs e) : Calls Try.prog 32 #[.pointer (some ⟨g, 0, none⟩)] w fun en w' => en = .returned (.int .i64 (rDone xs e)) ∧ OneR w0 w' g xs e := by
  obtain ⟨S, h1, h2, h4⟩ := h
  exact (wire_Reader_Done.calls S g xs e w h1).mono fun en w' ⟨he, hb⟩ => ⟨he, hb ▸ ⟨S, h1, h2, h4⟩⟩
end
theorem wmore_yes {l p : List Int} (h : ¬ 1048576 - (l.length : Int) < (p.length : Int)) : wmore l p = (l ++ p, 0) := if_neg h
theorem wmore_no {l p : List Int} (h : 1048576 - (l.length : Int) < (p.length : Int)) : wmore l p = (l, 6) := if_pos h
def isI6 (x : Int) : Bool := decide (-9223372036854775808 ≤ x) && decide (x ≤ 9223372036854775807)
theorem isI6_all {l : List Int} (h : l.all isI6 = true) : ∀ x ∈ l, -9223372036854775808 ≤ x ∧ x ≤ 9223372036854775807 := fun x hx => by
  have := List.all_eq_true.1 h x hx
  simpa [isI6] using this
def okStr (s : ByteArray) : Bool := decide (s.size ≤ 140737488351232)
theorem okStr_all {l : List ByteArray} (h : l.all okStr = true) : ∀ s ∈ l, s.size ≤ 140737488351232 := fun s hs => by
  have := List.all_eq_true.1 h s hs
  simpa [okStr] using this
def weighhouselaw01_WireBack.f (l0 : List Int) (l1 : List ByteArray) (l2 : List Int) : Option Bool := if (l0.all isI6 && l1.all okStr && l2.all isBb) = true then some true else none
set_option maxRecDepth 100000 in
set_option maxHeartbeats 4000000 in
theorem weighhouselaw01_WireBack.calls (A0 : Option Addr) (c0 : Nat) (l0 : List Int) (A1 : Option Addr) (c1 : Nat) (l1 : List ByteArray) (A2 : Option Addr) (c2 : Nat) (l2 : List Int) (r : Bool) (w : World) (hr0 : Kd.C (Kd.int .i64) w A0 l0.length l0) (hc0 : l0.length ≤ c0) (hr1 : Kd.C Kd.string w A1 l1.length l1) (hc1 : l1.length ≤ c1) (hr2 : Kd.C (Kd.int .u8) w A2 l2.length l2) (hc2 : l2.length ≤ c2) (h : weighhouselaw01_WireBack.f l0 l1 l2 = some r) :
    Calls Try.prog 11 #[.slice A0 l0.length c0, .slice A1 l1.length c1, .slice A2 l2.length c2] w fun e w' => e = .returned (.bool r) ∧ Below w.heap.size w w' := by
  unfold weighhouselaw01_WireBack.f at h
  split at h
  rotate_left
  · cases h
  rename_i hall
  obtain rfl := Option.some.inj h
  simp only [Bool.and_eq_true] at hall
  obtain ⟨⟨hi, hst⟩, hby⟩ := hall
  have HI := Aside0.mk (isI6_all hi)
  have HST := Aside0.mk (okStr_all hst)
  have HBY := Aside0.mk (isBb_all hby)
  have HR0 := Aside0.mk hr0
  have HR1 := Aside0.mk hr1
  have HR2 := Aside0.mk hr2
  have hm0 : l0.length ≤ 9223372036854775807 := hr0.2.1
  have hm1 : l1.length ≤ 9223372036854775807 := hr1.2.1
  have hm2 : l2.length ≤ 9223372036854775807 := hr2.2.1
  clear hi hst hby h hr0 hr1 hr2
  go_enter Try.func11, Try.ntmps11
  go_wp2_with (go_at_call 22; (with_reducible refine (wire_NewWriter.calls w).mono ?_); rintro e w1 ⟨g, rfl, hW1, hg1, hB1⟩; have HW1 := Aside0.mk (show OneW w w1 g [] from ⟨_, hW1, fun k hk => by subst hk; exact hg1, by simp, hB1⟩); clear hW1 hB1 hg1)
  go_loopw [8] (fun i wr => ∃ j : Nat, j ≤ l0.length ∧ i = .int .i64 j ∧ Aside0 (OneW w wr g (ints8 (l0.take j)))) (fun i _ => l0.length - (intOf i).toNat)
  case atStart => exact ⟨0, Nat.zero_le _, rfl, HW1⟩
  case round =>
    clear HW1
    obtain ⟨j, hj, rfl, HW⟩ := hrel
    by_cases hlt : j < l0.length
    · obtain ⟨ad, e, hcell⟩ := at_intN HR0.out j hlt
      cases e
      replace hcell := (HW.out.bel.cell (World.block_lt_of_cell? w _ hcell)).trans hcell
      have HT := Aside0.mk (show ints8 (l0.take (j + 1)) = ints8 (l0.take j) ++ ints8 [l0[j]] by rw [ints8_take l0 j hlt]; simp [ints8])
      obtain ⟨x, hx⟩ : ∃ x, x = l0[j] := ⟨_, rfl⟩
      rw [← hx] at hcell HT
      obtain ⟨L, hL⟩ : ∃ L, L = ints8 (l0.take j) := ⟨_, rfl⟩
      rw [← hL] at HW HT
      clear hx hL
      have HC := Aside0.mk (C_lit_int wr wr.heap.size rfl .i64 [x] #[.int .i64 x] rfl 3 (by simp))
      have HW2 := Aside0.mk (HW.out.below ((Below.refl _ _).alloc (Nat.le_refl _) (.cells #[.int .i64 x] 3)))
      by_cases ht : 1048576 - (L.length : Int) < ((ints8 [x]).length : Int)
      · have HM := Aside0.mk (wmore_no ht)
        clear ht
        go_wp2_with (first | (go_at_call 25; (with_reducible refine (intO 1 1 _ HM.out HW2.out rfl HC.out (Nat.le_refl 1) (by simp)).mono ?_); rintro e w2 ⟨rfl, hW3⟩; have HW3 := Aside0.mk hW3; clear hW3) | (go_at_call 17; (with_reducible refine (weighhouselaw01_num.calls 6 6 _ rfl).mono ?_); rintro e w3 ⟨rfl, hd⟩; have HW4 := Aside0.mk (HW3.out.below hd.below); clear hd) | (go_at_call 19; (with_reducible refine (weighhouselaw01_knows.calls true _ rfl).mono ?_); rintro e w4 ⟨rfl, hB4⟩; have HW5 := Aside0.mk (HW4.out.below hB4); clear hB4))
        go_ret
        exact ⟨rfl, HW5.out.bel⟩
      · have HM := Aside0.mk (wmore_yes ht)
        clear ht
        rw [← HT.out] at HM
        go_wp2_with (first | (go_at_call 25; (with_reducible refine (intO 1 1 _ HM.out HW2.out rfl HC.out (Nat.le_refl 1) (by simp)).mono ?_); rintro e w2 ⟨rfl, hW3⟩; have HW3 := Aside0.mk hW3; clear hW3) | (go_at_call 17; (with_reducible refine (weighhouselaw01_num.calls 0 0 _ rfl).mono ?_); rintro e w3 ⟨rfl, hd⟩; have HW4 := Aside0.mk (HW3.out.below hd.below); clear hd))
        go_roundw
        case rel => exact ⟨j + 1, by omega, by go_num, HW4⟩
        case measure => simp [intOf]; omega
    · have hall0 : ints8 (l0.take j) = ints8 l0 := by rw [List.take_of_length_le (by omega)]
      obtain ⟨LI, hLI⟩ : ∃ LI, ints8 l0 = LI := ⟨_, rfl⟩
      have HLI := Aside0.mk hLI
      rw [hall0, hLI] at HW
      clear hall0 hLI
      go_wp2
      go_loopw [9] (fun i wr => ∃ j : Nat, j ≤ l1.length ∧ i = .int .i64 j ∧ Aside0 (OneW w wr g (LI ++ textsB (l1.take j))) ∧ Aside0 (∀ s ∈ l1.take j, tlong s = false)) (fun i _ => l1.length - (intOf i).toNat)
      case atStart => exact ⟨0, Nat.zero_le _, rfl, ⟨by simpa [textsB] using HW.out⟩, ⟨by simp⟩⟩
      case round =>
        clear HW
        obtain ⟨j1, hj1, rfl, HW, HS⟩ := hrel
        by_cases hlt1 : j1 < l1.length
        · obtain ⟨ad, e, hcell⟩ := at_stringN HR1.out j1 hlt1
          cases e
          replace hcell := (HW.out.bel.cell (World.block_lt_of_cell? w _ hcell)).trans hcell
          have HT := Aside0.mk (show LI ++ textsB (l1.take (j1 + 1)) = (LI ++ textsB (l1.take j1)) ++ textsB [l1[j1]] by rw [textsB_take l1 j1 hlt1, List.append_assoc]; simp [textsB])
          have HSN := Aside0.mk (take_long hlt1 HS.out)
          have HSZ := Aside0.mk (HST.out _ (List.getElem_mem hlt1))
          obtain ⟨s, hs⟩ : ∃ s, s = l1[j1] := ⟨_, rfl⟩
          rw [← hs] at hcell HT HSN HSZ
          obtain ⟨L, hL⟩ : ∃ L, L = LI ++ textsB (l1.take j1) := ⟨_, rfl⟩
          rw [← hL] at HW HT
          clear hs hL
          have HC := Aside0.mk (show Kd.string.C (wr.alloc (.cells #[.string s] 9)) (some ⟨wr.heap.size, 0, none⟩) [s].length [s] from C_of_reps (d := Kd.string) (Blk.new wr _ _) [s] (Reps_one (c := [.string s]) rfl rfl) (by simp))
          have HW2 := Aside0.mk (HW.out.below ((Below.refl _ _).alloc (Nat.le_refl _) (.cells #[.string s] 9)))
          have hts : textsB [s] = textB s := by simp [textsB]
          have HTL := Aside0.mk (show (textsB [s]).length * 1 ≤ 140737488355328 by
            have := HSZ.out
            rw [hts]
            unfold textB
            rw [List.length_append, bigL_len', bytesOf_length]
            omega)
          clear hts
          by_cases hlong : s.size ≤ 65535
          rotate_left
          · have HM := Aside0.mk (wtexts_bad (l := L) (List.mem_singleton_self s) (by omega))
            clear hlong
            go_wp2_with (first | (go_at_call 27; (with_reducible refine (textO 1 1 _ HM.out HW2.out rfl HC.out (Nat.le_refl 1) HTL.out (by simp)).mono ?_); rintro e w2 ⟨rfl, hW3⟩; have HW3 := Aside0.mk hW3; clear hW3) | (go_at_call 17; (with_reducible refine (weighhouselaw01_num.calls 6 6 _ rfl).mono ?_); rintro e w3 ⟨rfl, hd⟩; have HW4 := Aside0.mk (HW3.out.below hd.below); clear hd) | (go_at_call 19; (with_reducible refine (weighhouselaw01_knows.calls true _ rfl).mono ?_); rintro e w4 ⟨rfl, hB4⟩; have HW5 := Aside0.mk (HW4.out.below hB4); clear hB4))
            go_ret
            exact ⟨rfl, HW5.out.bel⟩
          have HWT := Aside0.mk (wtexts_ok (l := L) (ss := [s]) (fun x hx => by rw [List.mem_singleton.1 hx]; exact decide_eq_false (by omega)))
          by_cases ht : 1048576 - (L.length : Int) < ((textsB [s]).length : Int)
          · have HM := Aside0.mk (HWT.out.trans (wmore_no ht))
            clear ht HWT
            go_wp2_with (first | (go_at_call 27; (with_reducible refine (textO 1 1 _ HM.out HW2.out rfl HC.out (Nat.le_refl 1) HTL.out (by simp)).mono ?_); rintro e w2 ⟨rfl, hW3⟩; have HW3 := Aside0.mk hW3; clear hW3) | (go_at_call 17; (with_reducible refine (weighhouselaw01_num.calls 6 6 _ rfl).mono ?_); rintro e w3 ⟨rfl, hd⟩; have HW4 := Aside0.mk (HW3.out.below hd.below); clear hd) | (go_at_call 19; (with_reducible refine (weighhouselaw01_knows.calls true _ rfl).mono ?_); rintro e w4 ⟨rfl, hB4⟩; have HW5 := Aside0.mk (HW4.out.below hB4); clear hB4))
            go_ret
            exact ⟨rfl, HW5.out.bel⟩
          · have HM := Aside0.mk (HWT.out.trans (wmore_yes ht))
            have HSN2 := Aside0.mk (HSN.out hlong)
            clear ht HWT
            rw [← HT.out] at HM
            go_wp2_with (first | (go_at_call 27; (with_reducible refine (textO 1 1 _ HM.out HW2.out rfl HC.out (Nat.le_refl 1) HTL.out (by simp)).mono ?_); rintro e w2 ⟨rfl, hW3⟩; have HW3 := Aside0.mk hW3; clear hW3) | (go_at_call 17; (with_reducible refine (weighhouselaw01_num.calls 0 0 _ rfl).mono ?_); rintro e w3 ⟨rfl, hd⟩; have HW4 := Aside0.mk (HW3.out.below hd.below); clear hd))
            go_roundw
            case rel => exact ⟨j1 + 1, by omega, by go_num, HW4, HSN2⟩
            case measure => simp [intOf]; omega
        · have hall1 : l1.take j1 = l1 := List.take_of_length_le (by omega)
          rw [hall1] at HW HS
          obtain ⟨LT, hLT⟩ : ∃ LT, LI ++ textsB l1 = LT := ⟨_, rfl⟩
          have HLT := Aside0.mk hLT
          rw [hLT] at HW
          clear hall1 hLT
          go_wp2
          go_loopw [10] (fun i wr => ∃ j : Nat, j ≤ l2.length ∧ i = .int .i64 j ∧ Aside0 (OneW w wr g (LT ++ l2.take j))) (fun i _ => l2.length - (intOf i).toNat)
          case atStart => exact ⟨0, Nat.zero_le _, rfl, ⟨by simpa using HW.out⟩⟩
          case round =>
            clear HW
            obtain ⟨j2, hj2, rfl, HW⟩ := hrel
            by_cases hlt2 : j2 < l2.length
            · obtain ⟨ad, e, hcell⟩ := at_intN HR2.out j2 hlt2
              cases e
              replace hcell := (HW.out.bel.cell (World.block_lt_of_cell? w _ hcell)).trans hcell
              have HT := Aside0.mk (show LT ++ l2.take (j2 + 1) = (LT ++ l2.take j2) ++ [l2[j2]] by rw [List.take_succ_eq_append_getElem hlt2, List.append_assoc])
              have hxb := HBY.out _ (List.getElem_mem hlt2)
              obtain ⟨x, hx⟩ : ∃ x, x = l2[j2] := ⟨_, rfl⟩
              rw [← hx] at hcell HT hxb
              obtain ⟨hxb0, hxb1⟩ := hxb
              obtain ⟨L, hL⟩ : ∃ L, L = LT ++ l2.take j2 := ⟨_, rfl⟩
              rw [← hL] at HW HT
              clear hx hL
              have HC := Aside0.mk (C_lit_int wr wr.heap.size rfl .i64 [x] #[.int .i64 x] rfl 3 (by simp))
              have HW2 := Aside0.mk (HW.out.below ((Below.refl _ _).alloc (Nat.le_refl _) (.cells #[.int .i64 x] 3)))
              have HWB := Aside0.mk (wbytes_ok (l := L) (xs := [x]) (fun y hy => by rw [List.mem_singleton.1 hy]; exact badB_ok hxb0 hxb1))
              by_cases ht : 1048576 - (L.length : Int) < (([x] : List Int).length : Int)
              · have HM := Aside0.mk (HWB.out.trans (wmore_no ht))
                clear ht HWB
                go_wp2_with (first | (go_at_call 23; (with_reducible refine (byteO 1 1 _ HM.out HW2.out rfl HC.out (Nat.le_refl 1) (by simp)).mono ?_); rintro e w2 ⟨rfl, hW3⟩; have HW3 := Aside0.mk hW3; clear hW3) | (go_at_call 17; (with_reducible refine (weighhouselaw01_num.calls 6 6 _ rfl).mono ?_); rintro e w3 ⟨rfl, hd⟩; have HW4 := Aside0.mk (HW3.out.below hd.below); clear hd) | (go_at_call 19; (with_reducible refine (weighhouselaw01_knows.calls true _ rfl).mono ?_); rintro e w4 ⟨rfl, hB4⟩; have HW5 := Aside0.mk (HW4.out.below hB4); clear hB4))
                go_ret
                exact ⟨rfl, HW5.out.bel⟩
              · have HM := Aside0.mk (HWB.out.trans (wmore_yes ht))
                clear ht HWB
                rw [← HT.out] at HM
                go_wp2_with (first | (go_at_call 23; (with_reducible refine (byteO 1 1 _ HM.out HW2.out rfl HC.out (Nat.le_refl 1) (by simp)).mono ?_); rintro e w2 ⟨rfl, hW3⟩; have HW3 := Aside0.mk hW3; clear hW3) | (go_at_call 17; (with_reducible refine (weighhouselaw01_num.calls 0 0 _ rfl).mono ?_); rintro e w3 ⟨rfl, hd⟩; have HW4 := Aside0.mk (HW3.out.below hd.below); clear hd))
                go_roundw
                case rel => exact ⟨j2 + 1, by omega, by go_num, HW4⟩
                case measure => simp [intOf]; omega
            · have hall2 : l2.take j2 = l2 := List.take_of_length_le (by omega)
              rw [hall2] at HW
              clear hall2
              have HLEN := Aside0.mk (show (LT ++ l2).length ≤ 1048576 from by
                obtain ⟨_, _, _, hh, _⟩ := HW.out
                exact hh)
              have HXB := Aside0.mk (show ∀ x ∈ LT ++ l2, 0 ≤ x ∧ x ≤ 255 from fun x hx => by
                rcases List.mem_append.1 hx with h | h
                · rw [← HLT.out] at h
                  rcases List.mem_append.1 h with h | h
                  · rw [← HLI.out] at h
                    exact ints8_B _ x h
                  · exact textsB_B _ x h
                · exact HBY.out x h)
              have HALL := Aside0.mk (show LT ++ l2 = ints8 (l0.drop 0) ++ (textsB l1 ++ l2) by rw [List.drop_zero, HLI.out, ← HLT.out, List.append_assoc])
              obtain ⟨ALL, hALL⟩ : ∃ ALL, LT ++ l2 = ALL := ⟨_, rfl⟩
              rw [hALL] at HW HLEN HXB HALL
              clear hALL HLT HLI
              go_wp2_with (first | (go_at_call 29; (with_reducible refine (bytesO HW.out).mono ?_); rintro e w2 ⟨v2, rfl, hR2, hB2⟩; obtain ⟨A7, c7, rfl, hc7, hC7⟩ := Kd.R_reads hR2; have HC7 := Aside0.mk hC7; have HB7 := Aside0.mk (HW.out.bel.trans (hB2.mono HW.out.bel.size)); clear hR2 hB2 hC7) | (go_at_call 30; (with_reducible refine (wire_NewReader.calls A7 c7 ALL _ HC7.out hc7 (by have := HLEN.out; omega) HXB.out).mono ?_); rintro e w3 ⟨g3, rfl, hd3, hg3, hB3⟩; have HR3 := Aside0.mk (show OneR w w3 g3 ALL 0 from ⟨_, hd3, fun k hk => Nat.le_trans HB7.out.size hk.1, HB7.out.trans (hB3.mono HB7.out.size)⟩); clear hd3 hg3 hB3))
              rw [HALL.out] at HR3
              clear HW HC7 HB7 HLEN HXB HALL
              go_loopw [12] (fun i wr => ∃ j : Nat, j ≤ l0.length ∧ i = .int .i64 j ∧ Aside0 (OneR w wr g3 (ints8 (l0.drop j) ++ (textsB l1 ++ l2)) 0)) (fun i _ => l0.length - (intOf i).toNat)
              case atStart => exact ⟨0, Nat.zero_le _, rfl, HR3⟩
              case round =>
                clear HR3
                obtain ⟨j, hj, rfl, HR⟩ := hrel
                by_cases hlt : j < l0.length
                · obtain ⟨ad, e, hcell⟩ := at_intN HR0.out j hlt
                  cases e
                  have hx64 := HI.out _ (List.getElem_mem hlt)
                  have hdr := drop_cons_ l0 j hlt
                  obtain ⟨x, hx⟩ : ∃ x, l0[j] = x := ⟨_, rfl⟩
                  rw [hx] at hcell hx64 hdr
                  have HCL := Aside0.mk hcell
                  have HRd := Aside0.mk (HR.out.below ((Below.refl _ _).drew))
                  have HXX := Aside0.mk (rInt_back x (ints8 (l0.drop (j + 1)) ++ (textsB l1 ++ l2)) hx64.1 hx64.2)
                  rw [hdr, ints8_cons, List.append_assoc] at HRd
                  clear hx hx64 hdr hcell HR
                  go_wp2
                  refine start_ (n := 7) (S := fun w' => w'.cell? (ad.add j) = some (.int .i64 x)) (ds := []) #[false, false, false, false, false, false, false] (by kernel_rfl) rfl rfl (((HRd.out.bel.cell (World.block_lt_of_cell? w _ HCL.out)).trans HCL.out)) (fun hHeld => ?_)
                  generalize wr.drew = wd at HRd hHeld ⊢
                  refine pure_ (i := 0) (N := some 74) (v := ?_) (a' := ?_) #[true, false, false, false, false, false, false] rfl rfl (by kernel_rfl) (fun _ _ _ h => h) (Or.inl ⟨by rfl, ?_⟩) ?_ ?_
                  rotate_left
                  · intro w'
                    go_simp
                    with_reducible rfl
                  rotate_left
                  · simp only [Act.put, List.setIfInBounds_toArray, List.set_cons_zero, List.set_cons_succ, i64_w, i32_w]
                    rfl
                  refine pure_ (i := 2) (N := some 76) (v := ?_) (a' := ?_) #[true, false, true, false, false, false, false] rfl rfl (by kernel_rfl) (fun _ _ _ h => h) (Or.inl ⟨by rfl, ?_⟩) ?_ ?_
                  rotate_left
                  · intro w'
                    go_simp
                    with_reducible rfl
                  rotate_left
                  · simp only [Act.put, List.setIfInBounds_toArray, List.set_cons_zero, List.set_cons_succ, i64_w, i32_w]
                    rfl
                  refine pure_ (i := 3) (N := some 77) (v := ?_) (a' := ?_) #[true, false, true, true, false, false, false] rfl rfl (by kernel_rfl) (fun _ _ _ h => h) (Or.inl ⟨by rfl, ?_⟩) ?_ ?_
                  rotate_left
                  · intro w'
                    go_simp
                    with_reducible rfl
                  rotate_left
                  · simp only [Act.put, List.setIfInBounds_toArray, List.set_cons_zero, List.set_cons_succ, i64_w, i32_w]
                    rfl
                  refine pure_ (i := 4) (N := some 78) (v := ?_) (a' := ?_) #[true, false, true, true, true, false, false] rfl rfl (by kernel_rfl) (fun _ _ _ h => h) (Or.inl ⟨by rfl, ?_⟩) ?_ ?_
                  rotate_left
                  · intro w'
                    go_simp
                    with_reducible rfl
                  rotate_left
                  · simp only [Act.put, List.setIfInBounds_toArray, List.set_cons_zero, List.set_cons_succ, i64_w, i32_w]
                    rfl
                  refine take_ (i := 5) (N := some 79) (v := ?_) (a' := ?_) #[true, false, true, true, true, true, false] rfl rfl (by kernel_rfl) (fun _ _ _ h => h) (Or.inl ⟨by rfl, ?_⟩) hHeld ?_ ?_
                  rotate_left
                  · intro w' s0
                    go_simp
                    with_reducible rfl
                  rotate_left
                  · simp only [Act.put, List.setIfInBounds_toArray, List.set_cons_zero, List.set_cons_succ, i64_w, i32_w]
                    rfl
                  refine one_ (i := 1) (N := some 75) #[true, true, true, true, true, true, false] rfl rfl (by kernel_rfl) (by decide) (fun K hK => ?_)
                  refine goes_ Try.func36 (by kernel_rfl) rfl #[.pointer (some ⟨g3, 0, none⟩)] (by rfl) rfl rfl (by simp only [List.map_toArray, List.map_cons, List.map_nil]; rfl) ?_
                  with_reducible refine (intR1 HXX.out HRd.out).mono ?_
                  rintro e w5 ⟨rfl, hR5⟩
                  refine ⟨_, rfl, ?_⟩
                  have HR5 := Aside0.mk hR5
                  clear hR5
                  refine hK.out _ _ (((HR5.out.bel.cell (World.block_lt_of_cell? w _ HCL.out)).trans HCL.out)) (fun hHeld => ?_)
                  clear hK K
                  refine norm_ (a' := ?_) ?_ ?_
                  rotate_left
                  · show Act.put _ (some 75) _ = _
                    simp only [Act.put, List.setIfInBounds_toArray, List.set_cons_zero, List.set_cons_succ, i64_w, i32_w]
                    rfl
                  refine pure_ (i := 6) (N := some 80) (v := ?_) (a' := ?_) #[true, true, true, true, true, true, true] rfl rfl (by kernel_rfl) (fun _ _ _ h => h) (Or.inl ⟨by rfl, ?_⟩) ?_ ?_
                  rotate_left
                  · intro w'
                    go_simp
                    with_reducible rfl
                  rotate_left
                  · simp only [Act.put, List.setIfInBounds_toArray, List.set_cons_zero, List.set_cons_succ, i64_w, i32_w]
                    rfl
                  refine done_ (by kernel_rfl) ?_
                  clear hHeld
                  go_wp2
                  go_roundw
                  case rel => exact ⟨j + 1, by omega, by go_num, HR5⟩
                  case measure => simp [intOf]; omega
                · have hnil : ints8 (l0.drop j) = [] := by rw [List.drop_eq_nil_of_le (by omega)]; rfl
                  rw [hnil, List.nil_append] at HR
                  clear hnil
                  go_wp2
                  go_loopw [13] (fun i wr => ∃ j : Nat, j ≤ l1.length ∧ i = .int .i64 j ∧ Aside0 (OneR w wr g3 (textsB (l1.drop j) ++ l2) 0)) (fun i _ => l1.length - (intOf i).toNat)
                  case atStart => exact ⟨0, Nat.zero_le _, rfl, HR⟩
                  case round =>
                    clear HR
                    obtain ⟨j1, hj1, rfl, HR⟩ := hrel
                    by_cases hlt1 : j1 < l1.length
                    · obtain ⟨ad, e, hcell⟩ := at_stringN HR1.out j1 hlt1
                      cases e
                      have hss := HS.out _ (List.getElem_mem hlt1)
                      have hdr := drop_cons_ l1 j1 hlt1
                      obtain ⟨s, hs⟩ : ∃ s, l1[j1] = s := ⟨_, rfl⟩
                      rw [hs] at hcell hss hdr
                      have HCL := Aside0.mk hcell
                      have HRd := Aside0.mk (HR.out.below ((Below.refl _ _).drew))
                      have HXX := Aside0.mk (rText_back s (textsB (l1.drop (j1 + 1)) ++ l2) (by
                        have := of_decide_eq_false hss
                        omega))
                      rw [hdr, textsB_cons, List.append_assoc] at HRd
                      clear hs hss hdr hcell HR
                      go_wp2
                      refine start_ (n := 7) (S := fun w' => w'.cell? (ad.add j1) = some (.string s)) (ds := []) #[false, false, false, false, false, false, false] (by kernel_rfl) rfl rfl (((HRd.out.bel.cell (World.block_lt_of_cell? w _ HCL.out)).trans HCL.out)) (fun hHeld => ?_)
                      generalize wr.drew = wd at HRd hHeld ⊢
                      refine pure_ (i := 0) (N := some 87) (v := ?_) (a' := ?_) #[true, false, false, false, false, false, false] rfl rfl (by kernel_rfl) (fun _ _ _ h => h) (Or.inl ⟨by rfl, ?_⟩) ?_ ?_
                      rotate_left
                      · intro w'
                        go_simp
                        with_reducible rfl
                      rotate_left
                      · simp only [Act.put, List.setIfInBounds_toArray, List.set_cons_zero, List.set_cons_succ, i64_w, i32_w]
                        rfl
                      refine pure_ (i := 2) (N := some 89) (v := ?_) (a' := ?_) #[true, false, true, false, false, false, false] rfl rfl (by kernel_rfl) (fun _ _ _ h => h) (Or.inl ⟨by rfl, ?_⟩) ?_ ?_
                      rotate_left
                      · intro w'
                        go_simp
                        with_reducible rfl
                      rotate_left
                      · simp only [Act.put, List.setIfInBounds_toArray, List.set_cons_zero, List.set_cons_succ, i64_w, i32_w]
                        rfl
                      refine pure_ (i := 3) (N := some 90) (v := ?_) (a' := ?_) #[true, false, true, true, false, false, false] rfl rfl (by kernel_rfl) (fun _ _ _ h => h) (Or.inl ⟨by rfl, ?_⟩) ?_ ?_
                      rotate_left
                      · intro w'
                        go_simp
                        with_reducible rfl
                      rotate_left
                      · simp only [Act.put, List.setIfInBounds_toArray, List.set_cons_zero, List.set_cons_succ, i64_w, i32_w]
                        rfl
                      refine pure_ (i := 4) (N := some 91) (v := ?_) (a' := ?_) #[true, false, true, true, true, false, false] rfl rfl (by kernel_rfl) (fun _ _ _ h => h) (Or.inl ⟨by rfl, ?_⟩) ?_ ?_
                      rotate_left
                      · intro w'
                        go_simp
                        with_reducible rfl
                      rotate_left
                      · simp only [Act.put, List.setIfInBounds_toArray, List.set_cons_zero, List.set_cons_succ, i64_w, i32_w]
                        rfl
                      refine take_ (i := 5) (N := some 92) (v := ?_) (a' := ?_) #[true, false, true, true, true, true, false] rfl rfl (by kernel_rfl) (fun _ _ _ h => h) (Or.inl ⟨by rfl, ?_⟩) hHeld ?_ ?_
                      rotate_left
                      · intro w' s0
                        go_simp
                        with_reducible rfl
                      rotate_left
                      · simp only [Act.put, List.setIfInBounds_toArray, List.set_cons_zero, List.set_cons_succ, i64_w, i32_w]
                        rfl
                      refine one_ (i := 1) (N := some 88) #[true, true, true, true, true, true, false] rfl rfl (by kernel_rfl) (by decide) (fun K hK => ?_)
                      refine goes_ Try.func31 (by kernel_rfl) rfl #[.pointer (some ⟨g3, 0, none⟩)] (by rfl) rfl rfl (by simp only [List.map_toArray, List.map_cons, List.map_nil]; rfl) ?_
                      with_reducible refine (textR1 HXX.out HRd.out).mono ?_
                      rintro e w5 ⟨rfl, hR5⟩
                      refine ⟨_, rfl, ?_⟩
                      have HR5 := Aside0.mk hR5
                      clear hR5
                      refine hK.out _ _ (((HR5.out.bel.cell (World.block_lt_of_cell? w _ HCL.out)).trans HCL.out)) (fun hHeld => ?_)
                      clear hK K
                      refine norm_ (a' := ?_) ?_ ?_
                      rotate_left
                      · show Act.put _ (some 88) _ = _
                        simp only [Act.put, List.setIfInBounds_toArray, List.set_cons_zero, List.set_cons_succ, i64_w, i32_w]
                        rfl
                      refine pure_ (i := 6) (N := some 93) (v := ?_) (a' := ?_) #[true, true, true, true, true, true, true] rfl rfl (by kernel_rfl) (fun _ _ _ h => h) (Or.inl ⟨by rfl, ?_⟩) ?_ ?_
                      rotate_left
                      · intro w'
                        go_simp
                        with_reducible rfl
                      rotate_left
                      · simp only [Act.put, List.setIfInBounds_toArray, List.set_cons_zero, List.set_cons_succ, i64_w, i32_w]
                        rfl
                      refine done_ (by kernel_rfl) ?_
                      clear hHeld
                      go_wp2
                      go_roundw
                      case rel => exact ⟨j1 + 1, by omega, by go_num, HR5⟩
                      case measure => simp [intOf]; omega
                    · have hnil : textsB (l1.drop j1) = [] := by rw [List.drop_eq_nil_of_le (by omega)]; rfl
                      rw [hnil, List.nil_append] at HR
                      clear hnil
                      go_wp2
                      go_loopw [14] (fun i wr => ∃ j : Nat, j ≤ l2.length ∧ i = .int .i64 j ∧ Aside0 (OneR w wr g3 (l2.drop j) 0)) (fun i _ => l2.length - (intOf i).toNat)
                      case atStart => exact ⟨0, Nat.zero_le _, rfl, HR⟩
                      case round =>
                        clear HR
                        obtain ⟨j2, hj2, rfl, HR⟩ := hrel
                        by_cases hlt2 : j2 < l2.length
                        · obtain ⟨ad, e, hcell⟩ := at_intN HR2.out j2 hlt2
                          cases e
                          have hbb := HBY.out _ (List.getElem_mem hlt2)
                          have hdr := drop_cons_ l2 j2 hlt2
                          obtain ⟨x, hx⟩ : ∃ x, l2[j2] = x := ⟨_, rfl⟩
                          rw [hx] at hcell hbb hdr
                          obtain ⟨hbb0, hbb1⟩ := hbb
                          have hw1 : wrap64 x = x := wrapI (by omega) (by omega)
                          have HCL := Aside0.mk hcell
                          have HRd := Aside0.mk (HR.out.below ((Below.refl _ _).drew))
                          have HXX := Aside0.mk (rByte_back x (l2.drop (j2 + 1)))
                          rw [hdr] at HRd
                          clear hx hdr hcell HR
                          go_wp2
                          refine start_ (n := 8) (S := fun w' => w'.cell? (ad.add j2) = some (.int .u8 x)) (ds := []) #[false, false, false, false, false, false, false, false] (by kernel_rfl) rfl rfl (((HRd.out.bel.cell (World.block_lt_of_cell? w _ HCL.out)).trans HCL.out)) (fun hHeld => ?_)
                          generalize wr.drew = wd at HRd hHeld ⊢
                          refine pure_ (i := 0) (N := some 100) (v := ?_) (a' := ?_) #[true, false, false, false, false, false, false, false] rfl rfl (by kernel_rfl) (fun _ _ _ h => h) (Or.inl ⟨by rfl, ?_⟩) ?_ ?_
                          rotate_left
                          · intro w'
                            go_simp
                            with_reducible rfl
                          rotate_left
                          · simp only [Act.put, List.setIfInBounds_toArray, List.set_cons_zero, List.set_cons_succ, i64_w, i32_w]
                            rfl
                          refine pure_ (i := 2) (N := some 102) (v := ?_) (a' := ?_) #[true, false, true, false, false, false, false, false] rfl rfl (by kernel_rfl) (fun _ _ _ h => h) (Or.inl ⟨by rfl, ?_⟩) ?_ ?_
                          rotate_left
                          · intro w'
                            go_simp
                            with_reducible rfl
                          rotate_left
                          · simp only [Act.put, List.setIfInBounds_toArray, List.set_cons_zero, List.set_cons_succ, i64_w, i32_w]
                            rfl
                          refine pure_ (i := 3) (N := some 103) (v := ?_) (a' := ?_) #[true, false, true, true, false, false, false, false] rfl rfl (by kernel_rfl) (fun _ _ _ h => h) (Or.inl ⟨by rfl, ?_⟩) ?_ ?_
                          rotate_left
                          · intro w'
                            go_simp
                            with_reducible rfl
                          rotate_left
                          · simp only [Act.put, List.setIfInBounds_toArray, List.set_cons_zero, List.set_cons_succ, i64_w, i32_w]
                            rfl
                          refine pure_ (i := 4) (N := some 104) (v := ?_) (a' := ?_) #[true, false, true, true, true, false, false, false] rfl rfl (by kernel_rfl) (fun _ _ _ h => h) (Or.inl ⟨by rfl, ?_⟩) ?_ ?_
                          rotate_left
                          · intro w'
                            go_simp
                            with_reducible rfl
                          rotate_left
                          · simp only [Act.put, List.setIfInBounds_toArray, List.set_cons_zero, List.set_cons_succ, i64_w, i32_w]
                            rfl
                          refine take_ (i := 5) (N := some 105) (v := ?_) (a' := ?_) #[true, false, true, true, true, true, false, false] rfl rfl (by kernel_rfl) (fun _ _ _ h => h) (Or.inl ⟨by rfl, ?_⟩) hHeld ?_ ?_
                          rotate_left
                          · intro w' s0
                            go_simp
                            with_reducible rfl
                          rotate_left
                          · simp only [Act.put, List.setIfInBounds_toArray, List.set_cons_zero, List.set_cons_succ, i64_w, i32_w]
                            rfl
                          refine pure_ (i := 6) (N := some 106) (v := ?_) (a' := ?_) #[true, false, true, true, true, true, true, false] rfl rfl (by kernel_rfl) (fun _ _ _ h => h) (Or.inl ⟨by rfl, ?_⟩) ?_ ?_
                          rotate_left
                          · intro w'
                            go_simp
                            with_reducible rfl
                          rotate_left
                          · simp only [Act.put, List.setIfInBounds_toArray, List.set_cons_zero, List.set_cons_succ, i64_w, i32_w]
                            rfl
                          refine one_ (i := 1) (N := some 101) #[true, true, true, true, true, true, true, false] rfl rfl (by kernel_rfl) (by decide) (fun K hK => ?_)
                          refine goes_ Try.func34 (by kernel_rfl) rfl #[.pointer (some ⟨g3, 0, none⟩)] (by rfl) rfl rfl (by simp only [List.map_toArray, List.map_cons, List.map_nil]; rfl) ?_
                          with_reducible refine (byteR1 HXX.out HRd.out).mono ?_
                          rintro e w5 ⟨rfl, hR5⟩
                          refine ⟨_, rfl, ?_⟩
                          have HR5 := Aside0.mk hR5
                          clear hR5
                          refine hK.out _ _ (((HR5.out.bel.cell (World.block_lt_of_cell? w _ HCL.out)).trans HCL.out)) (fun hHeld => ?_)
                          clear hK K
                          refine norm_ (a' := ?_) ?_ ?_
                          rotate_left
                          · show Act.put _ (some 101) _ = _
                            simp only [Act.put, List.setIfInBounds_toArray, List.set_cons_zero, List.set_cons_succ, i64_w, i32_w]
                            rfl
                          refine pure_ (i := 7) (N := some 107) (v := ?_) (a' := ?_) #[true, true, true, true, true, true, true, true] rfl rfl (by kernel_rfl) (fun _ _ _ h => h) (Or.inl ⟨by rfl, ?_⟩) ?_ ?_
                          rotate_left
                          · intro w'
                            go_simp
                            with_reducible rfl
                          rotate_left
                          · simp only [Act.put, List.setIfInBounds_toArray, List.set_cons_zero, List.set_cons_succ, i64_w, i32_w]
                            rfl
                          refine done_ (by kernel_rfl) ?_
                          clear hHeld hw1
                          go_wp2
                          go_roundw
                          case rel => exact ⟨j2 + 1, by omega, by go_num, HR5⟩
                          case measure => simp [intOf]; omega
                        · have hnil : l2.drop j2 = [] := List.drop_eq_nil_of_le (by omega)
                          rw [hnil] at HR
                          have HDN := Aside0.mk (show rDone [] 0 = 0 from rfl)
                          clear hnil
                          go_wp2_with (first | (go_at_call 32; (with_reducible refine (doneR1 HR.out).mono ?_); rintro e w5 ⟨rfl, hR5⟩; rw [HDN.out]; have HR5 := Aside0.mk hR5; clear hR5) | (go_at_call 17; (with_reducible refine (weighhouselaw01_num.calls 0 0 _ rfl).mono ?_); rintro e w6 ⟨rfl, hd⟩; have HR6 := Aside0.mk (HR5.out.below hd.below); clear hd) | (go_at_call 19; (with_reducible refine (weighhouselaw01_knows.calls true _ rfl).mono ?_); rintro e w7 ⟨rfl, hB7⟩; have HR7 := Aside0.mk (HR6.out.below hB7); clear hB7))
                          go_ret
                          exact ⟨rfl, HR7.out.bel⟩


end Go.Proofs.Ytjkimfjhfncldaa.Q
end

section
-- written by hprint.py (a program of these sessions) out of the translation; Lean checks it
namespace Go.Proofs.Ytjkimfjhfncldaa.Q
open Go.RowKit Go.Proofs.YtjkimfjhfncldaaW.Hb Go.Proofs.YtjkimfjhfncldaaW.PrintWords Go.Proofs.YtjkimfjhfncldaaW.PrintLast Go.Proofs.YtjkimfjhfncldaaW.PrintMore
attribute [local go_sem] max2_int min2_int max_two min_two max_three min_three max_four min_four   -- for this text's walks alone
set_option linter.unusedVariables false
set_option linter.unusedSimpArgs false

/-! ### weighhouselaw01_WireJoins: function 8, by hand -/
def okJ (l : List ByteArray) : Bool := decide (l.length ≤ 1048576) && decide ((textsB l).length ≤ 4194304)
def weighhouselaw01_WireJoins.f (l0 l1 : List ByteArray) : Option Bool := if (okJ l0 && okJ l1) = true then some true else none
theorem okJ_ok {l : List ByteArray} (h : okJ l = true) : l.length ≤ 1048576 ∧ (textsB l).length ≤ 4194304 := by
  simpa [okJ] using h
theorem wt_cases (l : List ByteArray) : wtexts [] l = ([], 6) ∨ wtexts [] l = (textsB l, 0) ∧ (∀ s ∈ l, tlong s = false) ∧ (textsB l).length ≤ 1048576 := by
  by_cases h : l.any tlong = true
  · exact .inl (if_pos h)
  · have h2 : ∀ s ∈ l, tlong s = false := fun s hs => by
      cases ht : tlong s with
      | false => rfl
      | true => exact absurd (List.any_eq_true.2 ⟨s, hs, ht⟩) h
    rw [wtexts_ok h2]
    unfold wmore
    split
    · exact .inl rfl
    · rename_i hn
      simp only [List.length_nil] at hn
      exact .inr ⟨rfl, h2, by omega⟩
/-- Two writers of this package, apart. -/
def TwoV (w0 w : World) (g g2 : Nat) (l l2 : List Int) : Prop := ∃ S S2, Wr w S g l ∧ Wr w S2 g2 l2 ∧ (∀ k, S k → w0.heap.size ≤ k ∧ k < w.heap.size ∧ ¬ S2 k) ∧ (∀ k, S2 k → w0.heap.size ≤ k ∧ k < w.heap.size) ∧ (l.length ≤ 1048576 ∧ l2.length ≤ 1048576) ∧ Below w0.heap.size w0 w
section
variable {w0 w w1 w2 w' : World} {g g2 : Nat} {l l2 : List Int}
theorem TwoV.bel (h : TwoV w0 w g g2 l l2) : Below w0.heap.size w0 w := by
  obtain ⟨_, _, _, _, _, _, _, h⟩ := h
  exact h
theorem TwoV.below (h : TwoV w0 w g g2 l l2) (hb : Below w.heap.size w w') : TwoV w0 w' g g2 l l2 := by
  obtain ⟨S, S2, h1, h2, h3, h4, h5, h6⟩ := h
  have hs := hb.size
  exact ⟨S, S2, h1.below hb, h2.below hb, fun k hk => ⟨(h3 k hk).1, by have := (h3 k hk).2.1; omega, (h3 k hk).2.2⟩, fun k hk => ⟨(h4 k hk).1, by have := (h4 k hk).2; omega⟩, h5, h6.trans (hb.mono h6.size)⟩
theorem TwoV.new (hW1 : Wr w1 (fun k => k = g) g []) (hg1 : w0.heap.size ≤ g) (hB1 : Below w0.heap.size w0 w1) (hW2 : Wr w2 (fun k => k = g2) g2 []) (hg2 : w1.heap.size ≤ g2) (hB2 : Below w1.heap.size w1 w2) : TwoV w0 w2 g g2 [] [] := by
  have h1 := hW1.lt
  have h2 := hW2.lt
  have hs := hB2.size
  have hs1 := hB1.size
  exact ⟨_, _, hW1.below hB2, hW2, fun k hk => ⟨by omega, by omega, by omega⟩, fun k hk => ⟨by omega, by omega⟩, ⟨by simp, by simp⟩, hB1.trans (hB2.mono hs1)⟩
theorem textV1 {l' : List Int} {ec : Int} {p : List ByteArray} (n c : Nat) (A : Option Addr) (hw : wtexts l p = (l', ec)) (h : TwoV w0 w g g2 l l2) (hn : p.length = n) (hr : Kd.string.C w A p.length p) (hc : n ≤ c) (hs : (textsB p).length * 1 ≤ 140737488355328) (hs2 : p.length * 48 ≤ 140737488355328) : Calls Try.prog 27 #[.pointer (some ⟨g, 0, none⟩), .slice A n c] w fun en w' => en = .returned (.int .i64 ec) ∧ TwoV w0 w' g g2 l' l2 := by
  obtain ⟨S, S2, h1, h2, h3, h4, ⟨hl, hl2⟩, h6⟩ := h
  have hq := wtexts_len hl p
  have := wire_Writer_Text.calls S g l A n c p w hn hr hc hs hs2 h1 hl
  rw [hw] at this hq
  refine this.mono fun en w' ⟨he, h, hf⟩ => ⟨he, ?_⟩
  have hs := h6.size
  have hw := hf.1.size
  refine ⟨SS S w w', S2, h, h2.kept hf.2 (fun k hk hS => (h3 k hS).2.2 hk), fun k hk => ?_, fun k hk => ⟨(h4 k hk).1, by have := (h4 k hk).2; omega⟩, ⟨hq, hl2⟩, h6.trans (hf.below hs (fun k hk => (h3 k hk).1))⟩
  refine ⟨(SS_in hs hw (fun k hk => ⟨(h3 k hk).1, (h3 k hk).2.1⟩) k hk).1, (SS_in hs hw (fun k hk => ⟨(h3 k hk).1, (h3 k hk).2.1⟩) k hk).2, fun h => ?_⟩
  rcases hk with hk | hk
  · exact (h3 k hk).2.2 h
  · have := (h4 k h).2
    omega
theorem textV2 {l' : List Int} {ec : Int} {p : List ByteArray} (n c : Nat) (A : Option Addr) (hw : wtexts l2 p = (l', ec)) (h : TwoV w0 w g g2 l l2) (hn : p.length = n) (hr : Kd.string.C w A p.length p) (hc : n ≤ c) (hs : (textsB p).length * 1 ≤ 140737488355328) (hs2 : p.length * 48 ≤ 140737488355328) : Calls Try.prog 27 #[.pointer (some ⟨g2, 0, none⟩), .slice A n c] w fun en w' => en = .returned (.int .i64 ec) ∧ TwoV w0 w' g g2 l l' := by
  obtain ⟨S, S2, h1, h2, h3, h4, ⟨hl, hl2⟩, h6⟩ := h
  have hq := wtexts_len hl2 p
  have := wire_Writer_Text.calls S2 g2 l2 A n c p w hn hr hc hs hs2 h2 hl2
  rw [hw] at this hq
  refine this.mono fun en w' ⟨he, h, hf⟩ => ⟨he, ?_⟩
  have hs := h6.size
  have hw := hf.1.size
  refine ⟨S, SS S2 w w', h1.kept hf.2 (fun k hk hS => (h3 k hk).2.2 hS), h, fun k hk => ⟨(h3 k hk).1, by have := (h3 k hk).2.1; omega, fun h => ?_⟩, SS_in hs hw h4, ⟨hl, hq⟩, h6.trans (hf.below hs (fun k hk => (h4 k hk).1))⟩
  rcases h with h | h
  · exact (h3 k hk).2.2 h
  · have := (h3 k hk).2.1
    omega
theorem bytesV1 (h : TwoV w0 w g g2 l l2) : Calls Try.prog 29 #[.pointer (some ⟨g, 0, none⟩)] w (OwnRes (Kd.int .u8) 5 w l) := by
  obtain ⟨S, S2, h1, h2, h3, h4, ⟨hl, hl2⟩, h6⟩ := h
  exact wire_Writer_Bytes.calls S g l w h1 hl
theorem bytesV2 (h : TwoV w0 w g g2 l l2) : Calls Try.prog 29 #[.pointer (some ⟨g2, 0, none⟩)] w (OwnRes (Kd.int .u8) 5 w l2) := by
  obtain ⟨S, S2, h1, h2, h3, h4, ⟨hl, hl2⟩, h6⟩ := h
  exact wire_Writer_Bytes.calls S2 g2 l2 w h2 hl2
end
set_option maxRecDepth 100000 in
set_option maxHeartbeats 4000000 in
theorem weighhouselaw01_WireJoins.calls (A0 : Option Addr) (c0 : Nat) (l0 : List ByteArray) (A1 : Option Addr) (c1 : Nat) (l1 : List ByteArray) (r : Bool) (w : World) (hr0 : Kd.C Kd.string w A0 l0.length l0) (hc0 : l0.length ≤ c0) (hr1 : Kd.C Kd.string w A1 l1.length l1) (hc1 : l1.length ≤ c1) (h : weighhouselaw01_WireJoins.f l0 l1 = some r) :
    Calls Try.prog 8 #[.slice A0 l0.length c0, .slice A1 l1.length c1] w fun e w' => e = .returned (.bool r) ∧ Below w.heap.size w w' := by
  unfold weighhouselaw01_WireJoins.f at h
  split at h
  rotate_left
  · cases h
  rename_i hall
  obtain rfl := Option.some.inj h
  simp only [Bool.and_eq_true] at hall
  obtain ⟨hk0, hk1⟩ := hall
  replace hk0 := okJ_ok hk0
  replace hk1 := okJ_ok hk1
  have HL0 := Aside0.mk (show (([] : List ByteArray).length + l0.length) * 16 ≤ 140737488355328 by simp only [List.length_nil]; omega)
  have HL1 := Aside0.mk (show (([] : List ByteArray).length + l1.length) * 16 ≤ 140737488355328 by simp only [List.length_nil]; omega)
  have HM0 := Aside0.mk (show (textsB l0).length * 1 ≤ 140737488355328 by omega)
  have HM1 := Aside0.mk (show (textsB l1).length * 1 ≤ 140737488355328 by omega)
  have HN0 := Aside0.mk (show l0.length * 48 ≤ 140737488355328 by omega)
  have HN1 := Aside0.mk (show l1.length * 48 ≤ 140737488355328 by omega)
  have hm0 : l0.length ≤ 1048576 := hk0.1
  have hm1 : l1.length ≤ 1048576 := hk1.1
  have HR0 := Aside0.mk hr0
  have HR1 := Aside0.mk hr1
  obtain ⟨p, e0, hp⟩ : ∃ p e0, wtexts [] l0 = (p, e0) := ⟨_, _, rfl⟩
  obtain ⟨q, e1, hq⟩ : ∃ q e1, wtexts [] l1 = (q, e1) := ⟨_, _, rfl⟩
  have HP := Aside0.mk hp
  have HQ := Aside0.mk hq
  clear hk0 hk1 hr0 hr1 hp hq h
  go_enter Try.func8, Try.ntmps8
  go_upto_region 3 with (first | (go_at_call 22; (with_reducible refine (wire_NewWriter.calls w).mono ?_); rintro e w1 ⟨g, rfl, hW1, hg1, hB1⟩; have HW1 := Aside0.mk (And.intro hW1 (And.intro hg1 hB1)); clear hW1 hB1 hg1) | (go_at_call 22; (with_reducible refine (wire_NewWriter.calls w1).mono ?_); rintro e w2 ⟨g2, rfl, hW2, hg2, hB2⟩; have HT2 := Aside0.mk (TwoV.new HW1.out.1 HW1.out.2.1 HW1.out.2.2 hW2 hg2 hB2); clear hW2 hB2 hg2 HW1))
  have HC0 := Aside0.mk (Kd.C_alloc (Kd.C_below HR0.out HT2.out.bel) (.cells #[] 9))
  have HO2 := Aside0.mk (show Kd.string.R 9 (w2.alloc (.cells #[] 9)) w2.heap.size (fun _ => True) (.slice (some ⟨w2.heap.size, 0, none⟩) 0 0) [] from Kd.R_of_own (own_lit_of w2 w2.heap.size 9 [] (Nat.le_refl _) (by simp)) (fun _ _ => trivial))
  have HB2 := Aside0.mk ((Below.refl w2.heap.size w2).alloc (Nat.le_refl _) (.cells #[] 9))
  go_upto_region 4 with (first | ((with_reducible refine gate_builtin (b := .append) (xs := #[.tmp 15, .tmp 16]) rfl ?_); at_builtin; refine Kd.R_append_rows Kd.string (w0 := w2) (Rr := Kd.string.K (w2.alloc (.cells #[] 9))) w2.heap.size rfl (.tmp 15) (.tmp 16) 47 9 (.string ByteArray.empty) 16 rfl Try.underlying47 info9 rfl (by decide) (by omega) (.slice (some ⟨w2.heap.size, 0, none⟩) 0 0) [] l0 A0 l0.length c0 (fun _ => True) (fun _ => False) rfl rfl HO2.out HC0.out (fun x cs hK => hK) (fun _ hk => hk.elim) (fun _ _ => trivial) HB2.out HB2.out.size HL0.out ?_; intro v3 w3 hR3 hB3 _ _; rw [List.nil_append] at hR3; obtain ⟨A3, c3, rfl, hc3, hC3⟩ := Kd.R_reads hR3; have HC3 := Aside0.mk hC3; have HT3 := Aside0.mk (HT2.out.below hB3); clear hR3 hC3 hB3) | (go_at_call 27; (with_reducible refine (textV1 l0.length c3 A3 HP.out HT3.out rfl HC3.out hc3 HM0.out HN0.out).mono ?_); rintro e w4 ⟨rfl, hT4⟩; have HT4 := Aside0.mk hT4; clear hT4) | (go_at_call 17; (with_reducible refine (weighhouselaw01_num.calls e0 e0 _ rfl).mono ?_); rintro e w5 ⟨rfl, hd⟩; have HT5 := Aside0.mk (HT4.out.below hd.below); clear hd))
  clear HC0 HO2 HB2 HC3 HT3 HT2 HT4
  have HC1 := Aside0.mk (Kd.C_alloc (Kd.C_below HR1.out HT5.out.bel) (.cells #[] 9))
  have HO5 := Aside0.mk (show Kd.string.R 9 (w5.alloc (.cells #[] 9)) w5.heap.size (fun _ => True) (.slice (some ⟨w5.heap.size, 0, none⟩) 0 0) [] from Kd.R_of_own (own_lit_of w5 w5.heap.size 9 [] (Nat.le_refl _) (by simp)) (fun _ _ => trivial))
  have HB5 := Aside0.mk ((Below.refl w5.heap.size w5).alloc (Nat.le_refl _) (.cells #[] 9))
  go_upto_region 5 with (first | ((with_reducible refine gate_builtin (b := .append) (xs := #[.tmp 21, .tmp 22]) rfl ?_); at_builtin; refine Kd.R_append_rows Kd.string (w0 := w5) (Rr := Kd.string.K (w5.alloc (.cells #[] 9))) w5.heap.size rfl (.tmp 21) (.tmp 22) 47 9 (.string ByteArray.empty) 16 rfl Try.underlying47 info9 rfl (by decide) (by omega) (.slice (some ⟨w5.heap.size, 0, none⟩) 0 0) [] l1 A1 l1.length c1 (fun _ => True) (fun _ => False) rfl rfl HO5.out HC1.out (fun x cs hK => hK) (fun _ hk => hk.elim) (fun _ _ => trivial) HB5.out HB5.out.size HL1.out ?_; intro v6 w6 hR6 hB6 _ _; rw [List.nil_append] at hR6; obtain ⟨A6, c6, rfl, hc6, hC6⟩ := Kd.R_reads hR6; have HC6 := Aside0.mk hC6; have HT6 := Aside0.mk (HT5.out.below hB6); clear hR6 hC6 hB6) | (go_at_call 27; (with_reducible refine (textV2 l1.length c6 A6 HQ.out HT6.out rfl HC6.out hc6 HM1.out HN1.out).mono ?_); rintro e w7 ⟨rfl, hT7⟩; have HT7 := Aside0.mk hT7; clear hT7) | (go_at_call 17; (with_reducible refine (weighhouselaw01_num.calls e1 e1 _ rfl).mono ?_); rintro e w8 ⟨rfl, hd⟩; have HT8 := Aside0.mk (HT7.out.below hd.below); clear hd))
  clear HC1 HO5 HB5 HC6 HT6 HT5 HT7
  have kn : ∀ (wk : World), Calls Try.prog 19 #[] wk fun e w' => e = .returned (.bool true) ∧ Below wk.heap.size wk w' := fun wk => weighhouselaw01_knows.calls true wk rfl
  rcases wt_cases l0 with h0 | ⟨h0, hs0, hq0⟩
  · obtain ⟨rfl, rfl⟩ := Prod.mk.inj (HP.out.symm.trans h0)
    clear h0
    go_wp2_with (go_at_call 19; (with_reducible refine (kn _).mono ?_); rintro e w9 ⟨rfl, hB9⟩; have HT9 := Aside0.mk (HT8.out.below hB9); clear hB9)
    go_ret
    exact ⟨rfl, HT9.out.bel⟩
  obtain ⟨rfl, rfl⟩ := Prod.mk.inj (HP.out.symm.trans h0)
  clear h0
  rcases wt_cases l1 with h1 | ⟨h1, hs1, hq1⟩
  · obtain ⟨rfl, rfl⟩ := Prod.mk.inj (HQ.out.symm.trans h1)
    clear h1
    go_wp2_with (go_at_call 19; (with_reducible refine (kn _).mono ?_); rintro e w9 ⟨rfl, hB9⟩; have HT9 := Aside0.mk (HT8.out.below hB9); clear hB9)
    go_ret
    exact ⟨rfl, HT9.out.bel⟩
  obtain ⟨rfl, rfl⟩ := Prod.mk.inj (HQ.out.symm.trans h1)
  clear h1
  have HS0 := Aside0.mk hs0
  have HS1 := Aside0.mk hs1
  have HLA := Aside0.mk (show ((textsB l0).length + (textsB l1).length) * 1 ≤ 140737488355328 by omega)
  have HXB := Aside0.mk (show ∀ x ∈ textsB l0 ++ textsB l1, 0 ≤ x ∧ x ≤ 255 from fun x hx => by
    rcases List.mem_append.1 hx with h | h
    · exact textsB_B _ x h
    · exact textsB_B _ x h)
  have HLEN := Aside0.mk (show (textsB l0 ++ textsB l1).length ≤ 2097152 by rw [List.length_append]; omega)
  have HALL := Aside0.mk (show textsB l0 ++ textsB l1 = textsB (l0.drop 0) ++ textsB l1 from rfl)
  obtain ⟨ALL, hALL⟩ : ∃ ALL, textsB l0 ++ textsB l1 = ALL := ⟨_, rfl⟩
  have HAL := Aside0.mk hALL
  rw [hALL] at HXB HLEN HALL
  clear hALL hs0 hs1 hq0 hq1 HP HQ HL0 HL1 HM0 HM1 HN0 HN1
  go_upto_region 8 with (first | (go_at_call 29; (with_reducible refine (bytesV1 HT8.out).mono ?_); rintro e w9 ⟨v9, rfl, hR9, hB9⟩; have HR9 := Aside0.mk hR9; have HT9 := Aside0.mk (HT8.out.below hB9); have HB9 := Aside0.mk hB9; clear hR9 hB9) | (go_at_call 29; (with_reducible refine (bytesV2 HT9.out).mono ?_); rintro e w10 ⟨v10, rfl, hR10, hB10⟩; obtain ⟨A10, c10, rfl, hc10, hC10⟩ := Kd.R_reads hR10; have HC10 := Aside0.mk hC10; have HR10 := Aside0.mk (Kd.R_below HR9.out hB10); have HB10 := Aside0.mk (HB9.out.trans (hB10.mono HB9.out.size)); clear hR10 hB10 hC10) | ((with_reducible refine gate_builtin (b := .append) (xs := #[.tmp 34, .tmp 36]) rfl ?_); at_builtin; refine Kd.R_append_rows (Kd.int .u8) (w0 := w8) (Rr := (Kd.int .u8).K w10) w8.heap.size rfl (.tmp 34) (.tmp 36) 22 5 (.int .u8 0) 1 rfl Try.underlying22 info5 rfl (by decide) (by omega) v9 (textsB l0) (textsB l1) A10 (textsB l1).length c10 (fun _ => True) (fun _ => False) rfl rfl HR10.out HC10.out (fun x cs hK => hK) (fun _ hk => hk.elim) (fun _ _ => trivial) HB10.out HB10.out.size HLA.out ?_; intro v11 w11 hR11 hB11 _ _; rw [HAL.out] at hR11; obtain ⟨A11, c11, rfl, hc11, hC11⟩ := Kd.R_reads hR11; have HC11 := Aside0.mk hC11; have HB11 := Aside0.mk (HT8.out.bel.trans (hB11.mono HT8.out.bel.size)); clear hR11 hC11 hB11) | (go_at_call 30; (with_reducible refine (wire_NewReader.calls A11 c11 ALL _ HC11.out hc11 (by have := HLEN.out; omega) HXB.out).mono ?_); rintro e w12 ⟨g3, rfl, hd3, hg3, hB3⟩; have HR3 := Aside0.mk (show OneR w w12 g3 ALL 0 from ⟨_, hd3, fun k hk => Nat.le_trans HB11.out.size hk.1, HB11.out.trans (hB3.mono HB11.out.size)⟩); clear hd3 hg3 hB3))
  rw [HALL.out] at HR3
  clear HT8 HR9 HT9 HB9 HC10 HR10 HB10 HC11 HB11 HLEN HXB HALL HAL HLA
  go_wp2
  go_loopw [10] (fun i wr => ∃ j : Nat, j ≤ l0.length ∧ i = .int .i64 j ∧ Aside0 (OneR w wr g3 (textsB (l0.drop j) ++ textsB l1) 0)) (fun i _ => l0.length - (intOf i).toNat)
  case atStart => exact ⟨0, Nat.zero_le _, rfl, HR3⟩
  case round =>
    clear HR3
    obtain ⟨j, hj, rfl, HR⟩ := hrel
    by_cases hlt : j < l0.length
    · obtain ⟨ad, e, hcell⟩ := at_stringN HR0.out j hlt
      cases e
      have hss := HS0.out _ (List.getElem_mem hlt)
      have hdr := drop_cons_ l0 j hlt
      obtain ⟨s, hs⟩ : ∃ s, l0[j] = s := ⟨_, rfl⟩
      rw [hs] at hcell hss hdr
      have HCL := Aside0.mk hcell
      have HRd := Aside0.mk (HR.out.below ((Below.refl _ _).drew))
      have HXX := Aside0.mk (rText_back s (textsB (l0.drop (j + 1)) ++ textsB l1) (by
        have := of_decide_eq_false hss
        omega))
      rw [hdr, textsB_cons, List.append_assoc] at HRd
      clear hs hss hdr hcell HR
      go_wp2
      refine start_ (n := 7) (S := fun w' => w'.cell? (ad.add j) = some (.string s)) (ds := []) #[false, false, false, false, false, false, false] (by kernel_rfl) rfl rfl (((HRd.out.bel.cell (World.block_lt_of_cell? w _ HCL.out)).trans HCL.out)) (fun hHeld => ?_)
      generalize wr.drew = wd at HRd hHeld ⊢
      refine pure_ (i := 0) (N := some 45) (v := ?_) (a' := ?_) #[true, false, false, false, false, false, false] rfl rfl (by kernel_rfl) (fun _ _ _ h => h) (Or.inl ⟨by rfl, ?_⟩) ?_ ?_
      rotate_left
      · intro w'
        go_simp
        with_reducible rfl
      rotate_left
      · simp only [Act.put, List.setIfInBounds_toArray, List.set_cons_zero, List.set_cons_succ, i64_w, i32_w]
        rfl
      refine pure_ (i := 2) (N := some 47) (v := ?_) (a' := ?_) #[true, false, true, false, false, false, false] rfl rfl (by kernel_rfl) (fun _ _ _ h => h) (Or.inl ⟨by rfl, ?_⟩) ?_ ?_
      rotate_left
      · intro w'
        go_simp
        with_reducible rfl
      rotate_left
      · simp only [Act.put, List.setIfInBounds_toArray, List.set_cons_zero, List.set_cons_succ, i64_w, i32_w]
        rfl
      refine pure_ (i := 3) (N := some 48) (v := ?_) (a' := ?_) #[true, false, true, true, false, false, false] rfl rfl (by kernel_rfl) (fun _ _ _ h => h) (Or.inl ⟨by rfl, ?_⟩) ?_ ?_
      rotate_left
      · intro w'
        go_simp
        with_reducible rfl
      rotate_left
      · simp only [Act.put, List.setIfInBounds_toArray, List.set_cons_zero, List.set_cons_succ, i64_w, i32_w]
        rfl
      refine pure_ (i := 4) (N := some 49) (v := ?_) (a' := ?_) #[true, false, true, true, true, false, false] rfl rfl (by kernel_rfl) (fun _ _ _ h => h) (Or.inl ⟨by rfl, ?_⟩) ?_ ?_
      rotate_left
      · intro w'
        go_simp
        with_reducible rfl
      rotate_left
      · simp only [Act.put, List.setIfInBounds_toArray, List.set_cons_zero, List.set_cons_succ, i64_w, i32_w]
        rfl
      refine take_ (i := 5) (N := some 50) (v := ?_) (a' := ?_) #[true, false, true, true, true, true, false] rfl rfl (by kernel_rfl) (fun _ _ _ h => h) (Or.inl ⟨by rfl, ?_⟩) hHeld ?_ ?_
      rotate_left
      · intro w' s0
        go_simp
        with_reducible rfl
      rotate_left
      · simp only [Act.put, List.setIfInBounds_toArray, List.set_cons_zero, List.set_cons_succ, i64_w, i32_w]
        rfl
      refine one_ (i := 1) (N := some 46) #[true, true, true, true, true, true, false] rfl rfl (by kernel_rfl) (by decide) (fun K hK => ?_)
      refine goes_ Try.func31 (by kernel_rfl) rfl #[.pointer (some ⟨g3, 0, none⟩)] (by rfl) rfl rfl (by simp only [List.map_toArray, List.map_cons, List.map_nil]; rfl) ?_
      with_reducible refine (textR1 HXX.out HRd.out).mono ?_
      rintro e w5 ⟨rfl, hR5⟩
      refine ⟨_, rfl, ?_⟩
      have HR5 := Aside0.mk hR5
      clear hR5
      refine hK.out _ _ (((HR5.out.bel.cell (World.block_lt_of_cell? w _ HCL.out)).trans HCL.out)) (fun hHeld => ?_)
      clear hK K
      refine norm_ (a' := ?_) ?_ ?_
      rotate_left
      · show Act.put _ (some 46) _ = _
        simp only [Act.put, List.setIfInBounds_toArray, List.set_cons_zero, List.set_cons_succ, i64_w, i32_w]
        rfl
      refine pure_ (i := 6) (N := some 51) (v := ?_) (a' := ?_) #[true, true, true, true, true, true, true] rfl rfl (by kernel_rfl) (fun _ _ _ h => h) (Or.inl ⟨by rfl, ?_⟩) ?_ ?_
      rotate_left
      · intro w'
        go_simp
        with_reducible rfl
      rotate_left
      · simp only [Act.put, List.setIfInBounds_toArray, List.set_cons_zero, List.set_cons_succ, i64_w, i32_w]
        rfl
      refine done_ (by kernel_rfl) ?_
      clear hHeld
      go_wp2
      go_roundw
      case rel => exact ⟨j + 1, by omega, by go_num, HR5⟩
      case measure => simp [intOf]; omega
    · have hnil : textsB (l0.drop j) = [] := by rw [List.drop_eq_nil_of_le (by omega)]; rfl
      rw [hnil, List.nil_append] at HR
      clear hnil
      rw [← List.append_nil (textsB l1)] at HR
      have HR3 := Aside0.mk (show OneR w wr g3 (textsB (l1.drop 0) ++ ([] : List Int)) 0 from HR.out)
      clear HR
      go_wp2
      go_loopw [11] (fun i wr => ∃ j : Nat, j ≤ l1.length ∧ i = .int .i64 j ∧ Aside0 (OneR w wr g3 (textsB (l1.drop j) ++ ([] : List Int)) 0)) (fun i _ => l1.length - (intOf i).toNat)
      case atStart => exact ⟨0, Nat.zero_le _, rfl, HR3⟩
      case round =>
        clear HR3
        obtain ⟨j, hj, rfl, HR⟩ := hrel
        by_cases hlt : j < l1.length
        · obtain ⟨ad, e, hcell⟩ := at_stringN HR1.out j hlt
          cases e
          have hss := HS1.out _ (List.getElem_mem hlt)
          have hdr := drop_cons_ l1 j hlt
          obtain ⟨s, hs⟩ : ∃ s, l1[j] = s := ⟨_, rfl⟩
          rw [hs] at hcell hss hdr
          have HCL := Aside0.mk hcell
          have HRd := Aside0.mk (HR.out.below ((Below.refl _ _).drew))
          have HXX := Aside0.mk (rText_back s (textsB (l1.drop (j + 1)) ++ ([] : List Int)) (by
            have := of_decide_eq_false hss
            omega))
          rw [hdr, textsB_cons, List.append_assoc] at HRd
          clear hs hss hdr hcell HR
          go_wp2
          refine start_ (n := 7) (S := fun w' => w'.cell? (ad.add j) = some (.string s)) (ds := []) #[false, false, false, false, false, false, false] (by kernel_rfl) rfl rfl (((HRd.out.bel.cell (World.block_lt_of_cell? w _ HCL.out)).trans HCL.out)) (fun hHeld => ?_)
          generalize wr.drew = wd at HRd hHeld ⊢
          refine pure_ (i := 0) (N := some 58) (v := ?_) (a' := ?_) #[true, false, false, false, false, false, false] rfl rfl (by kernel_rfl) (fun _ _ _ h => h) (Or.inl ⟨by rfl, ?_⟩) ?_ ?_
          rotate_left
          · intro w'
            go_simp
            with_reducible rfl
          rotate_left
          · simp only [Act.put, List.setIfInBounds_toArray, List.set_cons_zero, List.set_cons_succ, i64_w, i32_w]
            rfl
          refine pure_ (i := 2) (N := some 60) (v := ?_) (a' := ?_) #[true, false, true, false, false, false, false] rfl rfl (by kernel_rfl) (fun _ _ _ h => h) (Or.inl ⟨by rfl, ?_⟩) ?_ ?_
          rotate_left
          · intro w'
            go_simp
            with_reducible rfl
          rotate_left
          · simp only [Act.put, List.setIfInBounds_toArray, List.set_cons_zero, List.set_cons_succ, i64_w, i32_w]
            rfl
          refine pure_ (i := 3) (N := some 61) (v := ?_) (a' := ?_) #[true, false, true, true, false, false, false] rfl rfl (by kernel_rfl) (fun _ _ _ h => h) (Or.inl ⟨by rfl, ?_⟩) ?_ ?_
          rotate_left
          · intro w'
            go_simp
            with_reducible rfl
          rotate_left
          · simp only [Act.put, List.setIfInBounds_toArray, List.set_cons_zero, List.set_cons_succ, i64_w, i32_w]
            rfl
          refine pure_ (i := 4) (N := some 62) (v := ?_) (a' := ?_) #[true, false, true, true, true, false, false] rfl rfl (by kernel_rfl) (fun _ _ _ h => h) (Or.inl ⟨by rfl, ?_⟩) ?_ ?_
          rotate_left
          · intro w'
            go_simp
            with_reducible rfl
          rotate_left
          · simp only [Act.put, List.setIfInBounds_toArray, List.set_cons_zero, List.set_cons_succ, i64_w, i32_w]
            rfl
          refine take_ (i := 5) (N := some 63) (v := ?_) (a' := ?_) #[true, false, true, true, true, true, false] rfl rfl (by kernel_rfl) (fun _ _ _ h => h) (Or.inl ⟨by rfl, ?_⟩) hHeld ?_ ?_
          rotate_left
          · intro w' s0
            go_simp
            with_reducible rfl
          rotate_left
          · simp only [Act.put, List.setIfInBounds_toArray, List.set_cons_zero, List.set_cons_succ, i64_w, i32_w]
            rfl
          refine one_ (i := 1) (N := some 59) #[true, true, true, true, true, true, false] rfl rfl (by kernel_rfl) (by decide) (fun K hK => ?_)
          refine goes_ Try.func31 (by kernel_rfl) rfl #[.pointer (some ⟨g3, 0, none⟩)] (by rfl) rfl rfl (by simp only [List.map_toArray, List.map_cons, List.map_nil]; rfl) ?_
          with_reducible refine (textR1 HXX.out HRd.out).mono ?_
          rintro e w5 ⟨rfl, hR5⟩
          refine ⟨_, rfl, ?_⟩
          have HR5 := Aside0.mk hR5
          clear hR5
          refine hK.out _ _ (((HR5.out.bel.cell (World.block_lt_of_cell? w _ HCL.out)).trans HCL.out)) (fun hHeld => ?_)
          clear hK K
          refine norm_ (a' := ?_) ?_ ?_
          rotate_left
          · show Act.put _ (some 59) _ = _
            simp only [Act.put, List.setIfInBounds_toArray, List.set_cons_zero, List.set_cons_succ, i64_w, i32_w]
            rfl
          refine pure_ (i := 6) (N := some 64) (v := ?_) (a' := ?_) #[true, true, true, true, true, true, true] rfl rfl (by kernel_rfl) (fun _ _ _ h => h) (Or.inl ⟨by rfl, ?_⟩) ?_ ?_
          rotate_left
          · intro w'
            go_simp
            with_reducible rfl
          rotate_left
          · simp only [Act.put, List.setIfInBounds_toArray, List.set_cons_zero, List.set_cons_succ, i64_w, i32_w]
            rfl
          refine done_ (by kernel_rfl) ?_
          clear hHeld
          go_wp2
          go_roundw
          case rel => exact ⟨j + 1, by omega, by go_num, HR5⟩
          case measure => simp [intOf]; omega
        · have hnil : textsB (l1.drop j) = [] := by rw [List.drop_eq_nil_of_le (by omega)]; rfl
          rw [hnil, List.nil_append] at HR
          clear hnil
          have HDN := Aside0.mk (show rDone [] 0 = 0 from rfl)
          go_wp2_with (first | (go_at_call 32; (with_reducible refine (doneR1 HR.out).mono ?_); rintro e w5 ⟨rfl, hR5⟩; rw [HDN.out]; have HR5 := Aside0.mk hR5; clear hR5) | (go_at_call 17; (with_reducible refine (weighhouselaw01_num.calls 0 0 _ rfl).mono ?_); rintro e w6 ⟨rfl, hd⟩; have HR6 := Aside0.mk (HR5.out.below hd.below); clear hd) | (go_at_call 19; (with_reducible refine (kn _).mono ?_); rintro e w7 ⟨rfl, hB7⟩; have HR7 := Aside0.mk (HR6.out.below hB7); clear hB7))
          go_ret
          exact ⟨rfl, HR7.out.bel⟩


end Go.Proofs.Ytjkimfjhfncldaa.Q
end

section
/- what the readings of the parameters of WireJoins give -/
set_option linter.unusedVariables false
set_option linter.unusedSimpArgs false
namespace Go.Proofs.Ytjkimfjhfncldaa.OpWireJoins
open Go.RowKit Go.Proofs.YtjkimfjhfncldaaW.PrintWords Go.Proofs.YtjkimfjhfncldaaW.Hb Go.Proofs.YtjkimfjhfncldaaW.Ho Go.Proofs.YtjkimfjhfncldaaW.Hu Go.Proofs.Ytjkimfjhfncldaa.Q

theorem opens_slice' {P : Program} {t : TypeId} {α : Type} {d : Kd α} {e B : Nat} {Q : α → Prop} (ht : P.underlying t = some (.slice e)) (hs : P.cellsOf e = d.sz) (hB : P.bytesOf e = B) (hp : Opens P d e Q) :
    Opens P (Kd.slice e d) t (fun xs => xs.length * B ≤ reachBytes ∧ xs.length ≤ maxLen ∧ ∀ x ∈ xs, Q x) := by
  subst hB
  exact opens_slice ht hs hp
end Go.Proofs.Ytjkimfjhfncldaa.OpWireJoins
end

section
/- the pure statement of WireJoins -/
namespace Go.Proofs.Ytjkimfjhfncldaa.PuWireJoins
open Go.RowKit Go.Proofs.YtjkimfjhfncldaaW.PrintWords Go.Proofs.YtjkimfjhfncldaaW.Hb Go.Proofs.YtjkimfjhfncldaaW.Ho Go.Proofs.Ytjkimfjhfncldaa.Q Go.Proofs.Ytjkimfjhfncldaa.OpWireJoins
def Pure : Prop := ∀ (x0 : List (ByteArray)) (x1 : List (ByteArray)), ((x0).length * 16 ≤ reachBytes ∧ (x0).length ≤ maxLen ∧ ∀ y ∈ (x0), (y).size ≤ reachBytes) → ((x1).length * 16 ≤ reachBytes ∧ (x1).length ≤ maxLen ∧ ∀ y ∈ (x1), (y).size ≤ reachBytes) → (((x0).map (fun z => ((z).size + 1))).sum + 1) + (((x1).map (fun z => ((z).size + 1))).sum + 1) ≤ 1048576 → weighhouselaw01_WireJoins.f x0 x1 = some true
end Go.Proofs.Ytjkimfjhfncldaa.PuWireJoins
end

section
namespace Go.Proofs.Ytjkimfjhfncldaa.Th
open Go.RowKit Go.Proofs.Ytjkimfjhfncldaa.Q Go.Proofs.YtjkimfjhfncldaaW.PrintWords Go.Proofs.YtjkimfjhfncldaaW.PrintLast
theorem sum_mem {α : Type} (f : α → Nat) {x : α} {l : List α} (h : x ∈ l) : f x ≤ (l.map f).sum := by
  induction l with
  | nil => cases h
  | cons y l ih =>
    simp only [List.map_cons, List.sum_cons]
    rcases List.mem_cons.1 h with rfl | h
    · omega
    · have := ih h
      omega
theorem sum_one {α : Type} (l : List α) : (l.map (fun _ => 1)).sum = l.length := by
  induction l with
  | nil => rfl
  | cons y l ih => simp only [List.map_cons, List.sum_cons, ih, List.length_cons]; omega
theorem texts_sum (l : List ByteArray) : (textsB l).length ≤ 2 * (l.map (fun z => z.size + 1)).sum ∧ l.length ≤ (l.map (fun z => z.size + 1)).sum := by
  induction l with
  | nil => simp [textsB]
  | cons y l ih =>
    have e : textsB (y :: l) = textB y ++ textsB l := by simp [textsB]
    have h2 : (textB y).length = 2 + y.size := by unfold textB; rw [List.length_append, bigL_len', bytesOf_length]
    rw [e, List.length_append, h2]
    simp only [List.map_cons, List.sum_cons, List.length_cons]
    omega
end Go.Proofs.Ytjkimfjhfncldaa.Th
end

section
/- WireJoins (inputs of bulk at most 1048576): the pure statement, proved: what two writers wrote, joined, is read as one -/
namespace Go.Proofs.Ytjkimfjhfncldaa.PuWireJoins
open Go.RowKit Go.Proofs.YtjkimfjhfncldaaW.PrintWords Go.Proofs.YtjkimfjhfncldaaW.Hb Go.Proofs.YtjkimfjhfncldaaW.Ho Go.Proofs.Ytjkimfjhfncldaa.Q Go.Proofs.Ytjkimfjhfncldaa.OpWireJoins Go.Proofs.Ytjkimfjhfncldaa.Th
theorem pure : Pure := by
  intro x0 x1 h0 h1 hb
  unfold weighhouselaw01_WireJoins.f
  rw [if_pos]
  have h2 := texts_sum x0
  have h3 := texts_sum x1
  simp only [okJ, Bool.and_eq_true, decide_eq_true_eq]
  omega
end Go.Proofs.Ytjkimfjhfncldaa.PuWireJoins
end
