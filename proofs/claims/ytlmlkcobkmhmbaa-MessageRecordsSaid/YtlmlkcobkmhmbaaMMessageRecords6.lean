/- texts of one claim, merged: each in a section of its own -/
import Derived.Test.YtlmlkcobkmhmbaaMMessageRecords3
import Derived.Test.YtlmlkcobkmhmbaaMMessageRecords5
import Derived.Test.YtlmlkcobkmhmbaaMMessageRecords4
section
-- written by hprint.py (a program of these sessions) out of the translation; Lean checks it
namespace Go.Proofs.Ytlmlkcobkmhmbaa.Q
open Go.RowKit Go.Proofs.YtlmlkcobkmhmbaaW.Hb Go.Proofs.YtlmlkcobkmhmbaaW.PrintWords Go.Proofs.YtlmlkcobkmhmbaaW.PrintLast Go.Proofs.YtlmlkcobkmhmbaaW.PrintMore
attribute [local go_sem] max2_int min2_int max_two min_two max_three min_three max_four min_four   -- for this text's walks alone
set_option linter.unusedVariables false
set_option linter.unusedSimpArgs false

/-! ### weighhouseref17_read: function 49, by hand -/
/-- The document's reader, told by what is left; its blocks lie from w0 on, below b. -/
def Oq (w0 w : World) (b g : Nat) (xs : List Int) (e : Int) : Prop := ∃ S B a, Rq w S g B a e ∧ B.drop a = xs ∧ (∀ k, S k → w0.heap.size ≤ k ∧ k < b) ∧ b ≤ w.heap.size ∧ Below w0.heap.size w0 w ∧ S g
section
variable {w0 w w' : World} {b g : Nat} {xs xs' : List Int} {e e' : Int}
theorem Oq.bel (h : Oq w0 w b g xs e) : Below w0.heap.size w0 w := by
  obtain ⟨_, _, _, _, _, _, _, h, _⟩ := h
  exact h
theorem Oq.le (h : Oq w0 w b g xs e) : b ≤ w.heap.size := by
  obtain ⟨_, _, _, _, _, _, h, _⟩ := h
  exact h
theorem Oq.g_in (h : Oq w0 w b g xs e) : w0.heap.size ≤ g ∧ g < b := by
  obtain ⟨S, _, _, h1, _, h2, _, _, hg⟩ := h
  exact h2 g hg
theorem Oq.B (h : Oq w0 w b g xs e) : ∀ x ∈ xs, 0 ≤ x ∧ x ≤ 255 := by
  obtain ⟨S, B, a, h1, hx, _⟩ := h
  intro x hm
  rw [← hx] at hm
  exact h1.info.1 x (List.mem_of_mem_drop hm)
theorem Oq.cell2 (h : Oq w0 w b g xs e) : w.cell? ⟨g, 2, none⟩ = some (.int .i64 e) := by
  obtain ⟨S, B, a, ⟨A, c, hb, _⟩, _⟩ := h
  exact hb.cell 2
theorem Oq.kept {S2 : Nat → Prop} (h : Oq w0 w b g xs e) (hk : Kept w w' S2) (hd : ∀ k, S2 k → b ≤ k) (hb : Below w0.heap.size w w') : Oq w0 w' b g xs e := by
  obtain ⟨S, B, a, h1, hx, h2, h3, h4, hg⟩ := h
  exact ⟨S, B, a, h1.kept hk (fun k hS h => by have := (h2 k hS).2; have := hd k h; omega), hx, h2, Nat.le_trans h3 hk.1, h4.trans hb, hg⟩
theorem Oq.kept2 {S2 : Nat → Prop} (h : Oq w0 w b g xs e) (hk : Kept w w' S2) (hd : ∀ k, S2 k → b ≤ k) (hb : Below w0.heap.size w0 w') : Oq w0 w' b g xs e := by
  obtain ⟨S, B, a, h1, hx, h2, h3, h4, hg⟩ := h
  exact ⟨S, B, a, h1.kept hk (fun k hS h => by have := (h2 k hS).2; have := hd k h; omega), hx, h2, Nat.le_trans h3 hk.1, hb, hg⟩
theorem Oq.below (h : Oq w0 w b g xs e) (hb : Below b w w') : Oq w0 w' b g xs e :=
  h.kept (S2 := fun k => b ≤ k) ⟨hb.size, fun i hi hn => hb.block i (by omega)⟩ (fun _ h => h) (hb.mono (by have := h.g_in; omega))
theorem Oq.step {S : Nat → Prop} {B : List Int} (hg : S g) (h2 : ∀ k, S k → w0.heap.size ≤ k ∧ k < b) (h3 : b ≤ w.heap.size) (h4 : Below w0.heap.size w0 w) (hr : ∃ a', Rq w' S g B a' e' ∧ B.drop a' = xs') (hf : Fr w w' (fun k => k = g)) : Oq w0 w' b g xs' e' := by
  obtain ⟨a', hr, hx⟩ := hr
  exact ⟨S, B, a', hr, hx, h2, Nat.le_trans h3 hf.1.size, h4.trans (hf.below h4.size (fun k hk => by subst hk; exact (h2 _ hg).1)), hg⟩
theorem byteZ {v : Int} (h : Oq w0 w b g xs e) (hx : rByte xs e = (v, xs', e')) : Calls Try.prog 47 #[.pointer (some ⟨g, 0, none⟩)] w fun en w' => en = .returned (.int .i64 v) ∧ Oq w0 w' b g xs' e' ∧ Fr w w' (fun k => k = g) := by
  obtain ⟨S, B, a, h1, rfl, h2, h3, h4, hg⟩ := h
  have := weighhouseref01_Reader_Byte.calls S g B a e w h1
  rw [hx] at this
  exact this.mono fun en w' ⟨he, hr, hf⟩ => ⟨he, Oq.step hg h2 h3 h4 hr hf, hf⟩
theorem intZ {v : Int} (h : Oq w0 w b g xs e) (hx : rInt xs e = (v, xs', e')) : Calls Try.prog 48 #[.pointer (some ⟨g, 0, none⟩)] w fun en w' => en = .returned (.int .i64 v) ∧ Oq w0 w' b g xs' e' ∧ Fr w w' (fun k => k = g) := by
  obtain ⟨S, B, a, h1, rfl, h2, h3, h4, hg⟩ := h
  have := weighhouseref01_Reader_Int.calls S g B a e w h1
  rw [hx] at this
  exact this.mono fun en w' ⟨he, hr, hf⟩ => ⟨he, Oq.step hg h2 h3 h4 hr hf, hf⟩
theorem textZ {v : ByteArray} (h : Oq w0 w b g xs e) (hx : rText xs e = (v, xs', e')) : Calls Try.prog 71 #[.pointer (some ⟨g, 0, none⟩)] w fun en w' => en = .returned (.string v) ∧ Oq w0 w' b g xs' e' ∧ Fr w w' (fun k => k = g) := by
  obtain ⟨S, B, a, h1, rfl, h2, h3, h4, hg⟩ := h
  have := weighhouseref01_Reader_Text.calls S g B a e w h1
  rw [hx] at this
  exact this.mono fun en w' ⟨he, hr, hf⟩ => ⟨he, Oq.step hg h2 h3 h4 hr hf, hf⟩
theorem doneZ (h : Oq w0 w b g xs e) : Calls Try.prog 50 #[.pointer (some ⟨g, 0, none⟩)] w fun en w' => en = .returned (.int .i64 (rDone xs e)) ∧ Below w.heap.size w w' := by
  obtain ⟨S, B, a, h1, rfl, h2, h3, h4, hg⟩ := h
  exact weighhouseref01_Reader_Done.calls S g B a e w h1
end
theorem rByte_B {xs xs1 : List Int} {e e1 v : Int} (hB : ∀ x ∈ xs, 0 ≤ x ∧ x ≤ 255) (h1 : rByte xs e = (v, xs1, e1)) : ∀ x ∈ xs1, 0 ≤ x ∧ x ≤ 255 := fun x hx => by
  by_cases he : e ≠ 0
  · rw [rByte_err he] at h1; cases h1; exact hB x hx
  · obtain rfl : e = 0 := by omega
    by_cases h3 : xs.length < 1
    · rw [rByte_end h3] at h1; cases h1; exact hB x hx
    · rw [rByte_ok h3] at h1; cases h1; exact hB x (List.mem_of_mem_drop hx)
def mkR (v : Int) (s : ByteArray) : S113 := ⟨v, s⟩
set_option maxRecDepth 100000 in
set_option maxHeartbeats 2000000 in
theorem weighhouseref17_read.calls (w0 w : World) (b g : Nat) (xs : List Int) (e : Int) (ls : List S113) (xs' : List Int) (e' : Int) (h : Oq w0 w b g xs e) (hx : rdLog mkR xs e = (ls, xs', e')) :
    Calls Try.prog 49 #[.pointer (some ⟨g, 0, none⟩)] w fun en w' => ∃ v, en = .returned v ∧ Kd.R k113 113 w' w0.heap.size (fun k => w.heap.size ≤ k) v ls ∧ Oq w0 w' b g xs' e' ∧ Kept w w' (fun k => k = g) := by
  obtain ⟨v1, xs1, e1, h1⟩ : ∃ v1 xs1 e1, rByte xs e = (v1, xs1, e1) := ⟨_, _, _, rfl⟩
  obtain ⟨v2, xs2, e2, h2⟩ : ∃ v2 xs2 e2, rByte xs1 e1 = (v2, xs2, e2) := ⟨_, _, _, rfl⟩
  have hv1 := rByte_in h.B h1
  have hv2 := rByte_in (rByte_B h.B h1) h2
  obtain ⟨p1, p2⟩ := hv1
  obtain ⟨p3, p4⟩ := hv2
  obtain ⟨a1, rfl⟩ := Int.eq_ofNat_of_zero_le p1
  obtain ⟨a2, rfl⟩ := Int.eq_ofNat_of_zero_le p3
  obtain ⟨n, hn⟩ : ∃ n : Nat, a1 * 256 + a2 = n := ⟨_, rfl⟩
  have hn2 : n ≤ 65535 := by omega
  have HX := Aside0.mk (show readL mkR n xs2 e2 [] = (ls, xs', e') by rw [← rdLog_is mkR h1 h2 (by omega)]; exact hx)
  have hw2 : wrap64 (256 * (a1 : Int)) = 256 * (a1 : Int) := wrapI (by omega) (by omega)
  have hw3 : wrap64 (256 * (a1 : Int) + (a2 : Int)) = (n : Int) := by rw [wrapI (by omega) (by omega)]; omega
  have HO := Aside0.mk h
  have H1 := Aside0.mk h1
  have H2 := Aside0.mk h2
  have hgi := h.g_in
  have hble := h.le
  clear h hx h1 h2 p1 p2 p3 p4 hn
  go_enter Try.func49, Try.ntmps49
  go_wp2_with (first | (go_at_call 47; (with_reducible refine (byteZ HO.out H1.out).mono ?_); rintro en w3 ⟨rfl, hO3, hF3⟩; have HO3 := Aside0.mk hO3; have HK3 := Aside0.mk hF3.2; clear hO3 hF3) | (go_at_call 47; (with_reducible refine (byteZ HO3.out H2.out).mono ?_); rintro en w4 ⟨rfl, hO4, hF4⟩; have HO4 := Aside0.mk hO4; have HK4 := Aside0.mk (HK3.out.then_ hF4.2 (fun _ h => .inl h)); clear hO4 hF4))
  try rw [hw3]
  clear hw2 hw3
  go_loopw [4, 5] (fun v i wr => ∃ (m : Nat) (ys : List Int) (ee : Int) (l : List S113), i = .int .i64 l.length ∧ l.length + m = n ∧ Aside0 (readL mkR m ys ee l = (ls, xs', e')) ∧ Aside0 (Oq w0 wr b g ys ee) ∧ Aside0 (Kept w wr (fun k => k = g)) ∧ Aside0 (Kd.R k113 113 wr w0.heap.size (fun k => w.heap.size ≤ k) v l)) (fun _ i _ => n - (intOf i).toNat)
  case atStart => exact ⟨n, xs2, e2, [], rfl, by simp, HX, HO4, HK4, ⟨Kd.R_nil _ _ _ _ _⟩⟩
  case round =>
    clear HX HO HO3 HO4 HK3 HK4 H1 H2
    obtain ⟨m, ys, ee, l, rfl, hlm, HX, HO, HK, HR⟩ := hrel
    rcases Nat.eq_zero_or_pos m with h0 | h0
    · subst h0
      have hX := HX.out
      rw [readL_0] at hX
      have HE := Aside0.mk hX
      clear hX
      have hz : ¬ (l.length : Int) < (n : Int) := by omega
      have hz2 : ¬ l.length < n := by omega
      go_wp2
      go_ret
      obtain ⟨q1, hX⟩ := Prod.mk.inj HE.out
      obtain ⟨q2, q3⟩ := Prod.mk.inj hX
      exact ⟨_, rfl, by rw [← q1]; exact HR.out, by rw [← q2, ← q3]; exact HO.out, HK.out⟩
    · have hz : (l.length : Int) < (n : Int) := by omega
      have hz2 : l.length < n := by omega
      have hcE := HO.out.cell2
      by_cases he : ee = 0
      · subst he
        obtain ⟨m, rfl⟩ : ∃ m', m = m' + 1 := ⟨m - 1, by omega⟩
        obtain ⟨v5, xs5, e5, h5⟩ : ∃ v1 xs1 e1, rInt ys 0 = (v1, xs1, e1) := ⟨_, _, _, rfl⟩
        obtain ⟨s6, xs6, e6, h6⟩ : ∃ v1 xs1 e1, rText xs5 e5 = (v1, xs1, e1) := ⟨_, _, _, rfl⟩
        have hX := HX.out
        rw [readL_step mkR h5 h6] at hX
        have HX2 := Aside0.mk hX
        have H5 := Aside0.mk h5
        have H6 := Aside0.mk h6
        have HLN := Aside0.mk (show (l.length + 1) * 24 ≤ 140737488355328 by omega)
        clear hX h5 h6 HX
        have hbw : b ≤ wr.heap.size := HO.out.le
        have hwr : w.heap.size ≤ wr.heap.size := HK.out.1
        have HRa := Aside0.mk (Kd.R_mono (ok' := fun k => w.heap.size ≤ k ∧ k < wr.heap.size) (Kd.R_bound HR.out) (fun k hk => ⟨hk.1, hk.2.2.1⟩))
        go_wp2_with (first | (go_at_call 48; (with_reducible refine (intZ HO.out H5.out).mono ?_); rintro en w5 ⟨rfl, hO5, hF5⟩; have hs5 : wr.heap.size ≤ w5.heap.size := hF5.1.size; have HA5 := Aside0.mk ((Below.refl w5.heap.size w5).alloc (Nat.le_refl _) (.cells #[.int .i64 v5, .string { data := #[] }] 113)); have HO5 := Aside0.mk (hO5.below (HA5.out.mono hO5.le)); have HK5 := Aside0.mk ((HK.out.then_ hF5.2 (fun _ h => .inl h)).below HA5.out); have HR5 := Aside0.mk (Kd.R_below (Kd.R_kept HRa.out hF5.2 (fun k hk h => by omega)) HA5.out); have HB5 := Aside0.mk (Blk.new w5 113 #[.int .i64 v5, .string { data := #[] }]); clear hO5 hF5) | fail)
        (with_reducible refine (textZ HO5.out H6.out).mono ?_)
        rintro en w6 ⟨rfl, hO6, hF6⟩
        have hb6 : Blk w6 w5.heap.size 113 #[.int .i64 v5, .string { data := #[] }] := blk_kept HB5.out hF6.2 (fun h => by omega)
        have q0 : w6.cell? ⟨w5.heap.size, 0, none⟩ = some (.int .i64 v5) := hb6.cell 0
        have q1 : w6.cell? ⟨w5.heap.size, 1, none⟩ = some (.string { data := #[] }) := hb6.cell 1
        have qf : w6.frozen? ⟨w5.heap.size, 1, none⟩ = false := hb6.frozen 1
        have HO6 := Aside0.mk hO6
        have HK6 := Aside0.mk (HK5.out.then_ hF6.2 (fun _ h => .inl h))
        have HR6 := Aside0.mk (Kd.R_kept HR5.out hF6.2 (fun k hk h => by omega))
        have HO7 := Aside0.mk ((HO6.out.kept (S2 := fun k => k = w5.heap.size) (Kept.setCell (S := fun k => k = w5.heap.size) (p := ⟨w5.heap.size, 1, none⟩) (Kept.refl w6 _) (.inl rfl) (.string s6)) (fun k hk => by omega) ((Below.refl _ _).setCell (show w0.heap.size ≤ w5.heap.size by have := HO6.out.g_in; omega) _)).below ((Below.refl _ _).alloc (by have := HO6.out.le; simpa [World.setCell] using this) (.cells #[.int .i64 v5, .string s6] 113)))
        have HK7 := Aside0.mk ((HK6.out.setCell (p := ⟨w5.heap.size, 1, none⟩) (.inr (show w.heap.size ≤ w5.heap.size by omega)) (.string s6)).alloc (.cells #[.int .i64 v5, .string s6] 113))
        have HR7 := Aside0.mk (Kd.R_mono (ok' := fun k => w.heap.size ≤ k) (Kd.R_alloc (Kd.R_far HR6.out (p := ⟨w5.heap.size, 1, none⟩) (fun k hk => show k ≠ w5.heap.size by omega) (.string s6)) (.cells #[.int .i64 v5, .string s6] 113)) (fun k hk => hk.1))
        have hsz : (w6.setCell ⟨w5.heap.size, 1, none⟩ (.string s6)).heap.size = w6.heap.size := by simp [World.setCell]
        have hC7 := C_of_reps (d := k113) (Blk.new (w6.setCell ⟨w5.heap.size, 1, none⟩ (.string s6)) 113 #[.int .i64 v5, .string s6]) [mkR v5 s6] (Reps_one (c := [.int .i64 v5, .string s6]) (k113_mk _ (mkR v5 s6)) rfl) (by simp)
        rw [hsz] at hC7
        have HC7 := Aside0.mk hC7
        clear hC7 hsz
        clear hO6 hF6 hb6
        go_wp2_with ((with_reducible refine gate_builtin (b := .append) (xs := #[.tmp 32, .tmp 34]) rfl ?_); at_builtin; refine Kd.R_append_rows k113 (w0 := w0) (Rr := k113.K ((w6.setCell ⟨w5.heap.size, 1, none⟩ (.string s6)).alloc (.cells #[.int .i64 v5, .string s6] 113))) w0.heap.size rfl (.tmp 32) (.tmp 34) 32 113 (.agg #[(.int .i64 0), (.string ⟨#[]⟩)]) 24 rfl Try.underlying32 info113 rfl (by decide) (by omega) u4 l [mkR v5 s6] (some ⟨w6.heap.size, 0, none⟩) 1 1 (fun k => w.heap.size ≤ k) (fun _ => False) rfl rfl HR7.out HC7.out (fun x cs hK => by have := k113_open hK; subst this; exact k113_mkM _ _ _ _) (fun _ hk => hk.elim) (fun k hk => Nat.le_trans HK7.out.1 hk) HO7.out.bel HO7.out.bel.size HLN.out ?_; intro v8 w8 hR8 hB8 hG8 hA8; have HR8 := Aside0.mk hR8; have HB8 := Aside0.mk hB8; have HG8 := Aside0.mk hG8; clear hR8 hB8 hG8 hA8)
        have HN := Aside0.mk (show ∀ k, u4.ownBlock = some k → w.heap.size ≤ k from fun k hk => HR.out.1 k hk)
        have HK8 := Aside0.mk (Kept.of_grown HG8.out HK7.out (fun k hk => .inr (HN.out k hk)))
        have HO8 := Aside0.mk (show Oq w0 w8 b g xs6 e6 from HO7.out.kept2 (S2 := fun k => u4.ownBlock = some k) ⟨HG8.out.size, fun i hi hn => HG8.out.block i hi (fun he => hn he.symm)⟩ (fun k hk => by have := HN.out k hk; omega) HB8.out)
        go_roundw
        case rel => exact ⟨m, xs6, e6, l ++ [mkR v5 s6], by rw [List.length_append, List.length_singleton]; go_num, by rw [List.length_append, List.length_singleton]; omega, HX2, HO8, HK8, HR8⟩
        case measure => first | (simp [intOf]; done) | (simp [intOf]; omega)
      · have hd : (ee == 0) = false := by simp [he]
        have hX := HX.out
        rw [readL_err mkR m ys he] at hX
        have HE := Aside0.mk hX
        clear hX he
        go_wp2
        go_ret
        obtain ⟨q1, hX⟩ := Prod.mk.inj HE.out
        obtain ⟨q2, q3⟩ := Prod.mk.inj hX
        exact ⟨_, rfl, by rw [← q1]; exact HR.out, by rw [← q2, ← q3]; exact HO.out, HK.out⟩
def okR (x : S113) : Bool := !(outR x.f0 || decide (16384 < (x.f1.size : Int)))
def refEnt (l : List S113) : Bool := decide (l.length ≤ 2048) && l.all okR
theorem in_is (a : Int) : weighhouseref17_in.f a = some (!outR a) := by
  unfold weighhouseref17_in.f outR
  by_cases h : a ≥ 0
  · rw [if_pos h]
    have : decide (a < 0) = false := decide_eq_false (by omega)
    rw [this, Bool.false_or]
    by_cases h2 : a ≤ 1099511627776
    · have : ¬ 1099511627776 < a := by omega
      simp [h2, this]
    · have : 1099511627776 < a := by omega
      simp [h2, this]
  · rw [if_neg h]
    have : decide (a < 0) = true := decide_eq_true (by omega)
    rw [this]
    rfl
theorem reflog_run (xs : List S113) (hm : xs.length ≤ 2048) (j : Nat) : ∀ m i : Nat, xs.length ≤ i + m → i ≤ xs.length → weighhouseref17_log.l0 (j + m + 1) xs (i : Int) = some ((xs.drop i).all okR)
  | 0, i, h1, h2 => by
    rw [weighhouseref17_log.l0, if_neg (by omega), List.drop_eq_nil_of_le (by omega)]
    rfl
  | m + 1, i, h1, h2 => by
    rcases Nat.lt_or_ge i xs.length with hi | hi
    · have e1 : rd_T113 xs (i : Int) = xs[i] := by simp [rd_T113, List.getD_eq_getElem?_getD, hi]
      have e2 : wrap64 ((i : Int) + 1) = ((i + 1 : Nat) : Int) := by rw [wrapI (by omega) (by omega)]; omega
      rw [show j + (m + 1) + 1 = (j + m + 1) + 1 by omega, weighhouseref17_log.l0, if_pos (by omega), if_pos (by omega), e1, in_is, Option.bind_some, e2, List.drop_eq_getElem_cons hi, List.all_cons]
      rw [show okR xs[i] = !(outR xs[i].f0 || decide (16384 < (xs[i].f1.size : Int))) from rfl]
      cases ho : outR xs[i].f0 with
      | true => simp
      | false =>
        by_cases hs : (xs[i].f1.size : Int) > 16384
        · simp [hs]
        · have ih := reflog_run xs hm j m (i + 1) (by omega) (by omega)
          simp only [Bool.not_false, if_true, if_neg hs, ih]
          have : ¬ (16384 : Int) < (xs[i].f1.size : Int) := hs
          simp [this]
    · rw [weighhouseref17_log.l0, if_neg (by omega), List.drop_eq_nil_of_le (by omega)]
      rfl
theorem reflog_is (j : Nat) (xs : List S113) : weighhouseref17_log.f (j + xs.length + 1) xs = some (refEnt xs) := by
  unfold weighhouseref17_log.f refEnt
  by_cases h : (xs.length : Int) > 2048
  · rw [if_pos h]
    have : decide (xs.length ≤ 2048) = false := decide_eq_false (by omega)
    rw [this]
    rfl
  · rw [if_neg h, show (0 : Int) = ((0 : Nat) : Int) from rfl, reflog_run xs (by omega) j xs.length 0 (by omega) (by omega)]
    have : decide (xs.length ≤ 2048) = true := decide_eq_true (by omega)
    rw [this]
    rfl


end Go.Proofs.Ytlmlkcobkmhmbaa.Q
end

section
-- written by hprint.py (a program of these sessions) out of the translation; Lean checks it
namespace Go.Proofs.Ytlmlkcobkmhmbaa.Q
open Go.RowKit Go.Proofs.YtlmlkcobkmhmbaaW.Hb Go.Proofs.YtlmlkcobkmhmbaaW.PrintWords Go.Proofs.YtlmlkcobkmhmbaaW.PrintLast Go.Proofs.YtlmlkcobkmhmbaaW.PrintMore
attribute [local go_sem] max2_int min2_int max_two min_two max_three min_three max_four min_four   -- for this text's walks alone
set_option linter.unusedVariables false
set_option linter.unusedSimpArgs false

/-! ### weighhouseref17_GetRecord: function 20, by hand -/
def refRR (k v o c : Int) (l : List S113) : Bool := decide (1 ≤ k) && decide (k ≤ 3) && (decide (k = 2) || decide (l.length = 0)) && !([v, o, c].any outR) && refEnt l
theorem refRR_is (j : Nat) (a b c d : Int) (ls : List S113) : weighhouseref17_RightRecord.f (j + ls.length + 1) a b c d ls = some (refRR a b c d ls) := by
  unfold weighhouseref17_RightRecord.f refRR
  simp only [in_is, Option.bind_some, reflog_is j ls]
  have hl : decide (ls.length = 0) = decide ((ls.length : Int) = 0) := by
    by_cases h : ls.length = 0
    · have : (ls.length : Int) = 0 := by omega
      simp [h]
    · have : ¬ (ls.length : Int) = 0 := by omega
      simp [h]
  rw [hl]
  generalize (ls.length : Int) = q
  generalize refEnt ls = re
  by_cases h1 : a ≥ 1
  · by_cases h2 : a ≤ 3
    · have h1' : 1 ≤ a := h1
      cases g1 : outR b <;> cases g2 : outR c <;> cases g3 : outR d <;> by_cases h3 : a = 2 <;> by_cases h4 : q = 0 <;> simp [h1, h1', h2, h3, h4, g1, g2, g3]
    · simp [h1, h2]
  · have : ¬ 1 ≤ a := h1
    simp [h1, this]
theorem weighhouseref17_GetRecord.ret_ {R : Ending → World → Prop} {a : Act} {W : World} {g : Nat} {c0 c1 c2 c3 c4 : Value} {e : Int} (hB : Blk W g 46 #[c0, c1, c2, c3, c4]) (h2 : a.tmps[2]? = some (.pointer (some ⟨g, 0, none⟩))) (h3 : a.tmps[3]? = some (.int .i64 e)) (hd : a.defers = []) (hR : R (.returned (.tuple #[.agg #[c0, c1, c2, c3, c4], .int .i64 e])) W) :
    bodyPost Try.prog Try.f20 R Exit.ret a W := by
  have q0 : W.cell? ⟨g, 0, none⟩ = some c0 := hB.cell 0
  have q1 : W.cell? ⟨g, 1, none⟩ = some c1 := hB.cell 1
  have q2 : W.cell? ⟨g, 2, none⟩ = some c2 := hB.cell 2
  have q3 : W.cell? ⟨g, 3, none⟩ = some c3 := hB.cell 3
  have q4 : W.cell? ⟨g, 4, none⟩ = some c4 := hB.cell 4
  exact bodyPost_ret (v := .tuple #[.agg #[c0, c1, c2, c3, c4], .int .i64 e]) (by simp [results, Try.results20, go_sem, q0, q1, q2, q3, q4, h2, h3]) hd hR
def weighhouseref17_GetRecord.f (l0 : List Int) : Option (Int × Int × Int × Int × List S113 × Int) := if (l0.all isBb && decide (l0.length ≤ 140737488351232)) = true then some (getR mkR refRR l0) else none
set_option maxRecDepth 100000 in
set_option maxHeartbeats 4000000 in
theorem weighhouseref17_GetRecord.calls (A0 : Option Addr) (c0 : Nat) (l0 : List Int) (r1 : Int) (r2 : Int) (r3 : Int) (r4 : Int) (r5 : List S113) (r6 : Int) (w : World) (hr0 : Kd.C (Kd.int .u8) w A0 l0.length l0) (hc0 : l0.length ≤ c0) (h : weighhouseref17_GetRecord.f l0 = some (r1, r2, r3, r4, r5, r6)) :
    Calls Try.prog 20 #[.slice A0 l0.length c0] w fun en w' => ∃ v4_ : Value, en = .returned (.tuple #[.agg #[.int .i64 r1, .int .i64 r2, .int .i64 r3, .int .i64 r4, v4_], .int .i64 r6]) ∧ Kd.R k113 113 w' w.heap.size (fun _ => True) v4_ r5 ∧ Below w.heap.size w w' := by
  unfold weighhouseref17_GetRecord.f at h
  split at h
  rotate_left
  · cases h
  rename_i hall
  have h := Option.some.inj h
  simp only [Bool.and_eq_true, decide_eq_true_eq] at hall
  have HBB := Aside0.mk (isBb_all hall.1)
  have hll := hall.2
  clear hall
  obtain ⟨v1, x1, e1, h1⟩ : ∃ v x e, rByte l0 0 = (v, x, e) := ⟨_, _, _, rfl⟩
  obtain ⟨v2, x2, e2, h2⟩ : ∃ v x e, rInt x1 e1 = (v, x, e) := ⟨_, _, _, rfl⟩
  obtain ⟨v3, x3, e3, h3⟩ : ∃ v x e, rInt x2 e2 = (v, x, e) := ⟨_, _, _, rfl⟩
  obtain ⟨v4, x4, e4, h4⟩ : ∃ v x e, rInt x3 e3 = (v, x, e) := ⟨_, _, _, rfl⟩
  obtain ⟨ls, x8, e8, h8⟩ : ∃ v x e, rdLog mkR x4 e4 = (v, x, e) := ⟨_, _, _, rfl⟩
  have HX := Aside0.mk ((getR_is mkR refRR h1 h2 h3 h4 h8).symm.trans h)
  have H1 := Aside0.mk h1
  have H2 := Aside0.mk h2
  have H3 := Aside0.mk h3
  have H4 := Aside0.mk h4
  have H8 := Aside0.mk h8
  have HC0 := Aside0.mk (Kd.C_alloc hr0 (.cells #[.int .i64 0, .int .i64 0, .int .i64 0, .int .i64 0, .slice none 0 0] 46))
  have hm0 : l0.length ≤ 9223372036854775807 := hr0.2.1
  clear h hr0 h1 h2 h3 h4 h8
  go_enter Try.func20, Try.ntmps20
  go_wp2_with (fail)
  with_reducible refine (weighhouseref01_NewReader.calls A0 c0 l0 _ HC0.out hc0 (by omega) HBB.out).mono ?_
  rintro en w2 ⟨g, rfl, hd2, hg2, hB2⟩
  have hsz1 : (w.alloc (.cells #[.int .i64 0, .int .i64 0, .int .i64 0, .int .i64 0, .slice none 0 0] 46)).heap.size = w.heap.size + 1 := by simp
  have HO2 := Aside0.mk (show Oq (w.alloc (.cells #[.int .i64 0, .int .i64 0, .int .i64 0, .int .i64 0, .slice none 0 0] 46)) w2 w2.heap.size g l0 0 from ⟨_, _, 0, hd2, by simp, fun k hk => hk, Nat.le_refl _, hB2, (by obtain ⟨_, _, _, _, q, _⟩ := hd2; exact q)⟩)
  have HZ2 := Aside0.mk ((Blk.new w 46 #[.int .i64 0, .int .i64 0, .int .i64 0, .int .i64 0, .slice none 0 0]).after hB2)
  have HBw := Aside0.mk (((Below.refl w.heap.size w).alloc (Nat.le_refl _) (.cells #[.int .i64 0, .int .i64 0, .int .i64 0, .int .i64 0, .slice none 0 0] 46)))
  rw [hsz1] at hg2
  clear hd2 hB2
  go_wp2_with (fail)
  with_reducible refine (byteZ HO2.out H1.out).mono ?_
  rintro en w3 ⟨rfl, hO3, hF3⟩
  have HO3 := Aside0.mk hO3
  have hg3 : g < w2.heap.size := hO3.g_in.2
  have HZ3 := Aside0.mk (show Blk w3 w.heap.size 46 #[.int .i64 0, .int .i64 0, .int .i64 0, .int .i64 0, .slice none 0 0] from blk_kept HZ2.out hF3.2 (fun h => by omega))
  have hle3 : w2.heap.size ≤ w3.heap.size := hO3.le
  have HM3 := Aside0.mk (Blk.new w3 46 #[.int .i64 v1, .int .i64 0, .int .i64 0, .int .i64 0, .slice none 0 0])
  have HO3 := Aside0.mk (HO3.out.below ((Below.refl _ _).alloc hle3 (.cells #[.int .i64 v1, .int .i64 0, .int .i64 0, .int .i64 0, .slice none 0 0] 46)))
  have HZ3 := Aside0.mk (HZ3.out.alloc (.cells #[.int .i64 v1, .int .i64 0, .int .i64 0, .int .i64 0, .slice none 0 0] 46))
  have hmz : w.heap.size < w3.heap.size := by omega
  clear hO3 hF3
  go_wp2_with (fail)
  with_reducible refine (intZ HO3.out H2.out).mono ?_
  rintro en w4 ⟨rfl, hO4, hF4⟩
  have HO4 := Aside0.mk hO4
  skip
  have HZ4 := Aside0.mk (show Blk w4 w.heap.size 46 #[.int .i64 0, .int .i64 0, .int .i64 0, .int .i64 0, .slice none 0 0] from blk_kept HZ3.out hF4.2 (fun h => by omega))
  have hM4 : Blk w4 w3.heap.size 46 #[.int .i64 v1, .int .i64 0, .int .i64 0, .int .i64 0, .slice none 0 0] := blk_kept HM3.out hF4.2 (fun h => by omega)
  have q4 : w4.cell? ⟨w3.heap.size, 1, none⟩ = some (.int .i64 0) := hM4.cell 1
  have f4 : w4.frozen? ⟨w3.heap.size, 1, none⟩ = false := hM4.frozen 1
  have HM4 := Aside0.mk (show Blk (w4.setCell ⟨w3.heap.size, 1, none⟩ (.int .i64 v2)) w3.heap.size 46 #[.int .i64 v1, .int .i64 v2, .int .i64 0, .int .i64 0, .slice none 0 0] from by simpa using hM4.set_ 1 (.int .i64 v2))
  have HO4 := Aside0.mk (HO4.out.kept (S2 := fun k => k = w3.heap.size) (Kept.setCell (S := fun k => k = w3.heap.size) (p := ⟨w3.heap.size, 1, none⟩) (Kept.refl w4 _) (.inl rfl) (.int .i64 v2)) (fun k hk => by omega) ((Below.refl _ _).setCell (show (w.alloc (.cells #[.int .i64 0, .int .i64 0, .int .i64 0, .int .i64 0, .slice none 0 0] 46)).heap.size ≤ w3.heap.size by omega) _))
  have HZ4 := Aside0.mk (HZ4.out.far (p := ⟨w3.heap.size, 1, none⟩) (show w.heap.size ≠ w3.heap.size by omega) (.int .i64 v2))
  clear hO4 hF4 hM4
  go_wp2_with (fail)
  with_reducible refine (intZ HO4.out H3.out).mono ?_
  rintro en w5 ⟨rfl, hO5, hF5⟩
  have HO5 := Aside0.mk hO5
  skip
  have HZ5 := Aside0.mk (show Blk w5 w.heap.size 46 #[.int .i64 0, .int .i64 0, .int .i64 0, .int .i64 0, .slice none 0 0] from blk_kept HZ4.out hF5.2 (fun h => by omega))
  have hM5 : Blk w5 w3.heap.size 46 #[.int .i64 v1, .int .i64 v2, .int .i64 0, .int .i64 0, .slice none 0 0] := blk_kept HM4.out hF5.2 (fun h => by omega)
  have q5 : w5.cell? ⟨w3.heap.size, 2, none⟩ = some (.int .i64 0) := hM5.cell 2
  have f5 : w5.frozen? ⟨w3.heap.size, 2, none⟩ = false := hM5.frozen 2
  have HM5 := Aside0.mk (show Blk (w5.setCell ⟨w3.heap.size, 2, none⟩ (.int .i64 v3)) w3.heap.size 46 #[.int .i64 v1, .int .i64 v2, .int .i64 v3, .int .i64 0, .slice none 0 0] from by simpa using hM5.set_ 2 (.int .i64 v3))
  have HO5 := Aside0.mk (HO5.out.kept (S2 := fun k => k = w3.heap.size) (Kept.setCell (S := fun k => k = w3.heap.size) (p := ⟨w3.heap.size, 2, none⟩) (Kept.refl w5 _) (.inl rfl) (.int .i64 v3)) (fun k hk => by omega) ((Below.refl _ _).setCell (show (w.alloc (.cells #[.int .i64 0, .int .i64 0, .int .i64 0, .int .i64 0, .slice none 0 0] 46)).heap.size ≤ w3.heap.size by omega) _))
  have HZ5 := Aside0.mk (HZ5.out.far (p := ⟨w3.heap.size, 2, none⟩) (show w.heap.size ≠ w3.heap.size by omega) (.int .i64 v3))
  clear hO5 hF5 hM5
  go_wp2_with (fail)
  with_reducible refine (intZ HO5.out H4.out).mono ?_
  rintro en w6 ⟨rfl, hO6, hF6⟩
  have HO6 := Aside0.mk hO6
  skip
  have HZ6 := Aside0.mk (show Blk w6 w.heap.size 46 #[.int .i64 0, .int .i64 0, .int .i64 0, .int .i64 0, .slice none 0 0] from blk_kept HZ5.out hF6.2 (fun h => by omega))
  have hM6 : Blk w6 w3.heap.size 46 #[.int .i64 v1, .int .i64 v2, .int .i64 v3, .int .i64 0, .slice none 0 0] := blk_kept HM5.out hF6.2 (fun h => by omega)
  have q6 : w6.cell? ⟨w3.heap.size, 3, none⟩ = some (.int .i64 0) := hM6.cell 3
  have f6 : w6.frozen? ⟨w3.heap.size, 3, none⟩ = false := hM6.frozen 3
  have HM6 := Aside0.mk (show Blk (w6.setCell ⟨w3.heap.size, 3, none⟩ (.int .i64 v4)) w3.heap.size 46 #[.int .i64 v1, .int .i64 v2, .int .i64 v3, .int .i64 v4, .slice none 0 0] from by simpa using hM6.set_ 3 (.int .i64 v4))
  have HO6 := Aside0.mk (HO6.out.kept (S2 := fun k => k = w3.heap.size) (Kept.setCell (S := fun k => k = w3.heap.size) (p := ⟨w3.heap.size, 3, none⟩) (Kept.refl w6 _) (.inl rfl) (.int .i64 v4)) (fun k hk => by omega) ((Below.refl _ _).setCell (show (w.alloc (.cells #[.int .i64 0, .int .i64 0, .int .i64 0, .int .i64 0, .slice none 0 0] 46)).heap.size ≤ w3.heap.size by omega) _))
  have HZ6 := Aside0.mk (HZ6.out.far (p := ⟨w3.heap.size, 3, none⟩) (show w.heap.size ≠ w3.heap.size by omega) (.int .i64 v4))
  clear hO6 hF6 hM6
  have hszm := Nat.le_trans (Nat.succ_le_of_lt HM6.out.lt) (Nat.le_refl _)
  go_wp2_with (fail)
  with_reducible refine (weighhouseref17_read.calls _ _ _ g _ _ ls x8 e8 HO6.out H8.out).mono ?_
  rintro en wl ⟨vl, rfl, hRl, hOl, hKl⟩
  obtain ⟨A8, c8, rfl, hc8, _⟩ := Kd.R_reads hRl
  have hRl := Kd.R_mono (ok' := fun k => w3.heap.size < k) hRl (fun k hk => by omega)
  have hMl : Blk wl w3.heap.size 46 #[.int .i64 v1, .int .i64 v2, .int .i64 v3, .int .i64 v4, .slice none 0 0] := blk_kept HM6.out hKl (fun h => by omega)
  have HZl := Aside0.mk ((show Blk wl w.heap.size 46 #[.int .i64 0, .int .i64 0, .int .i64 0, .int .i64 0, .slice none 0 0] from blk_kept HZ6.out hKl (fun h => by omega)).far (p := ⟨w3.heap.size, 4, none⟩) (show w.heap.size ≠ w3.heap.size by omega) (.slice A8 ls.length c8))
  have ql : wl.cell? ⟨w3.heap.size, 4, none⟩ = some (.slice none 0 0) := hMl.cell 4
  have fl : wl.frozen? ⟨w3.heap.size, 4, none⟩ = false := hMl.frozen 4
  have HM9 := Aside0.mk (show Blk (wl.setCell ⟨w3.heap.size, 4, none⟩ (.slice A8 ls.length c8)) w3.heap.size 46 #[.int .i64 v1, .int .i64 v2, .int .i64 v3, .int .i64 v4, .slice A8 ls.length c8] from by simpa using hMl.set_ 4 (.slice A8 ls.length c8))
  have HO9 := Aside0.mk (hOl.kept (S2 := fun k => k = w3.heap.size) (Kept.setCell (S := fun k => k = w3.heap.size) (p := ⟨w3.heap.size, 4, none⟩) (Kept.refl wl _) (.inl rfl) (.slice A8 ls.length c8)) (fun k hk => by omega) ((Below.refl _ _).setCell (show (w.alloc (.cells #[.int .i64 0, .int .i64 0, .int .i64 0, .int .i64 0, .slice none 0 0] 46)).heap.size ≤ w3.heap.size by omega) _))
  have HR9 := Aside0.mk (Kd.R_far hRl (p := ⟨w3.heap.size, 4, none⟩) (fun k hk => show k ≠ w3.heap.size by omega) (.slice A8 ls.length c8))
  have m0 : (wl.setCell ⟨w3.heap.size, 4, none⟩ (.slice A8 ls.length c8)).cell? ⟨w3.heap.size, 0, none⟩ = some (.int .i64 v1) := HM9.out.cell 0
  have m1 : (wl.setCell ⟨w3.heap.size, 4, none⟩ (.slice A8 ls.length c8)).cell? ⟨w3.heap.size, 1, none⟩ = some (.int .i64 v2) := HM9.out.cell 1
  have m2 : (wl.setCell ⟨w3.heap.size, 4, none⟩ (.slice A8 ls.length c8)).cell? ⟨w3.heap.size, 2, none⟩ = some (.int .i64 v3) := HM9.out.cell 2
  have m3 : (wl.setCell ⟨w3.heap.size, 4, none⟩ (.slice A8 ls.length c8)).cell? ⟨w3.heap.size, 3, none⟩ = some (.int .i64 v4) := HM9.out.cell 3
  have m4 : (wl.setCell ⟨w3.heap.size, 4, none⟩ (.slice A8 ls.length c8)).cell? ⟨w3.heap.size, 4, none⟩ = some (.slice A8 ls.length c8) := HM9.out.cell 4
  clear hRl hOl hKl hMl
  by_cases hdn : rDone x8 e8 = 0
  rotate_left
  · have hX := HX.out
    rw [if_neg (fun h => hdn h.1)] at hX
    obtain ⟨rfl, rfl, rfl, rfl, rfl, rfl⟩ : 0 = r1 ∧ 0 = r2 ∧ 0 = r3 ∧ 0 = r4 ∧ [] = r5 ∧ 21 = r6 := by simpa using hX
    have hdb : (rDone x8 e8 != 0) = true := by simp [hdn]
    have hdc : (rDone x8 e8 == 0) = false := by simp [hdn]
    clear hX HX hdn
    go_wp2_with (fail)
    with_reducible refine (doneZ HO9.out).mono ?_
    rintro en wd ⟨rfl, hbd⟩
    have HZd := Aside0.mk (HZl.out.after hbd)
    have HMd := Aside0.mk (HM9.out.after hbd)
    have HRd := Aside0.mk (Kd.R_below HR9.out hbd)
    have HBd := Aside0.mk (HO9.out.bel.trans (hbd.mono HO9.out.bel.size))
    clear m0 m1 m2 m3 m4 hbd
    have m0 : wd.cell? ⟨w3.heap.size, 0, none⟩ = some (.int .i64 v1) := HMd.out.cell 0
    have m1 : wd.cell? ⟨w3.heap.size, 1, none⟩ = some (.int .i64 v2) := HMd.out.cell 1
    have m2 : wd.cell? ⟨w3.heap.size, 2, none⟩ = some (.int .i64 v3) := HMd.out.cell 2
    have m3 : wd.cell? ⟨w3.heap.size, 3, none⟩ = some (.int .i64 v4) := HMd.out.cell 3
    have m4 : wd.cell? ⟨w3.heap.size, 4, none⟩ = some (.slice A8 ls.length c8) := HMd.out.cell 4
    have z0 : wd.cell? ⟨w.heap.size, 0, none⟩ = some (.int .i64 0) := HZd.out.cell 0
    have z1 : wd.cell? ⟨w.heap.size, 1, none⟩ = some (.int .i64 0) := HZd.out.cell 1
    have z2 : wd.cell? ⟨w.heap.size, 2, none⟩ = some (.int .i64 0) := HZd.out.cell 2
    have z3 : wd.cell? ⟨w.heap.size, 3, none⟩ = some (.int .i64 0) := HZd.out.cell 3
    have z4 : wd.cell? ⟨w.heap.size, 4, none⟩ = some (.slice none 0 0) := HZd.out.cell 4
    have g0 : wd.frozen? ⟨w.heap.size, 0, none⟩ = false := HZd.out.frozen 0
    have g1 : wd.frozen? ⟨w.heap.size, 1, none⟩ = false := HZd.out.frozen 1
    have g2 : wd.frozen? ⟨w.heap.size, 2, none⟩ = false := HZd.out.frozen 2
    have g3 : wd.frozen? ⟨w.heap.size, 3, none⟩ = false := HZd.out.frozen 3
    have g4 : wd.frozen? ⟨w.heap.size, 4, none⟩ = false := HZd.out.frozen 4
    clear m0 m1 m2 m3 m4
    go_wp2
    with_reducible refine weighhouseref17_GetRecord.ret_ (g := w.heap.size) (e := 21) (((((HZd.out.set_ 0 _).set_ 1 _).set_ 2 _).set_ 3 _).set_ 4 _) ?_ ?_ ?_ ?_
    · rfl
    · rfl
    · rfl
    · exact ⟨_, rfl, Kd.R_nil _ _ _ _ _, ((((((HBw.out.trans (HBd.out.mono HBw.out.size)).setCell (Nat.le_refl _) _).setCell (Nat.le_refl _) _).setCell (Nat.le_refl _) _).setCell (Nat.le_refl _) _).setCell (Nat.le_refl _) _)⟩
  have hdb : (rDone x8 e8 != 0) = false := by simp [hdn]
  have hdc : (rDone x8 e8 == 0) = true := by simp [hdn]
  cases hrt : refRR v1 v2 v3 v4 ls with
  | false =>
    have HF := Aside0.mk (show weighhouseref17_RightRecord.f (0 + ls.length + 1) v1 v2 v3 v4 ls = some false by rw [← hrt]; exact refRR_is 0 v1 v2 v3 v4 ls)
    have hX := HX.out
    rw [if_neg (fun h => by have := h.2.1; rw [hrt] at this; cases this)] at hX
    obtain ⟨rfl, rfl, rfl, rfl, rfl, rfl⟩ : 0 = r1 ∧ 0 = r2 ∧ 0 = r3 ∧ 0 = r4 ∧ [] = r5 ∧ 21 = r6 := by simpa using hX
    clear hX HX hdn hrt
    go_wp2_with (fail)
    with_reducible refine (doneZ HO9.out).mono ?_
    rintro en wd ⟨rfl, hbd⟩
    have HZd := Aside0.mk (HZl.out.after hbd)
    have HMd := Aside0.mk (HM9.out.after hbd)
    have HRd := Aside0.mk (Kd.R_below HR9.out hbd)
    have HBd := Aside0.mk (HO9.out.bel.trans (hbd.mono HO9.out.bel.size))
    clear m0 m1 m2 m3 m4 hbd
    have m0 : wd.cell? ⟨w3.heap.size, 0, none⟩ = some (.int .i64 v1) := HMd.out.cell 0
    have m1 : wd.cell? ⟨w3.heap.size, 1, none⟩ = some (.int .i64 v2) := HMd.out.cell 1
    have m2 : wd.cell? ⟨w3.heap.size, 2, none⟩ = some (.int .i64 v3) := HMd.out.cell 2
    have m3 : wd.cell? ⟨w3.heap.size, 3, none⟩ = some (.int .i64 v4) := HMd.out.cell 3
    have m4 : wd.cell? ⟨w3.heap.size, 4, none⟩ = some (.slice A8 ls.length c8) := HMd.out.cell 4
    go_wp2_with (fail)
    with_reducible refine (weighhouseref17_RightRecord.calls (0 + ls.length + 1) v1 v2 v3 v4 A8 c8 ls false _ (Kd.R_reads' HRd.out).2.2 hc8 HF.out).mono ?_
    rintro en wr ⟨rfl, hbr⟩
    have HBr := Aside0.mk ((HBw.out.trans (HBd.out.mono HBw.out.size)).trans (hbr.mono (HBw.out.trans (HBd.out.mono HBw.out.size)).size))
    have HZr := Aside0.mk (HZd.out.after hbr)
    clear hbr m0 m1 m2 m3 m4
    have z0 : wr.cell? ⟨w.heap.size, 0, none⟩ = some (.int .i64 0) := HZr.out.cell 0
    have z1 : wr.cell? ⟨w.heap.size, 1, none⟩ = some (.int .i64 0) := HZr.out.cell 1
    have z2 : wr.cell? ⟨w.heap.size, 2, none⟩ = some (.int .i64 0) := HZr.out.cell 2
    have z3 : wr.cell? ⟨w.heap.size, 3, none⟩ = some (.int .i64 0) := HZr.out.cell 3
    have z4 : wr.cell? ⟨w.heap.size, 4, none⟩ = some (.slice none 0 0) := HZr.out.cell 4
    have g0 : wr.frozen? ⟨w.heap.size, 0, none⟩ = false := HZr.out.frozen 0
    have g1 : wr.frozen? ⟨w.heap.size, 1, none⟩ = false := HZr.out.frozen 1
    have g2 : wr.frozen? ⟨w.heap.size, 2, none⟩ = false := HZr.out.frozen 2
    have g3 : wr.frozen? ⟨w.heap.size, 3, none⟩ = false := HZr.out.frozen 3
    have g4 : wr.frozen? ⟨w.heap.size, 4, none⟩ = false := HZr.out.frozen 4
    go_wp2
    with_reducible refine weighhouseref17_GetRecord.ret_ (g := w.heap.size) (e := 21) (((((HZr.out.set_ 0 _).set_ 1 _).set_ 2 _).set_ 3 _).set_ 4 _) ?_ ?_ ?_ ?_
    · rfl
    · rfl
    · rfl
    · exact ⟨_, rfl, Kd.R_nil _ _ _ _ _, (((((HBr.out.setCell (Nat.le_refl _) _).setCell (Nat.le_refl _) _).setCell (Nat.le_refl _) _).setCell (Nat.le_refl _) _).setCell (Nat.le_refl _) _)⟩
  | true =>
    have HF := Aside0.mk (show weighhouseref17_RightRecord.f (0 + ls.length + 1) v1 v2 v3 v4 ls = some true by rw [← hrt]; exact refRR_is 0 v1 v2 v3 v4 ls)
    by_cases hlen : l0.length ≤ 1048576
    rotate_left
    · have hX := HX.out
      rw [if_neg (fun h => hlen h.2.2)] at hX
      obtain ⟨rfl, rfl, rfl, rfl, rfl, rfl⟩ : 0 = r1 ∧ 0 = r2 ∧ 0 = r3 ∧ 0 = r4 ∧ [] = r5 ∧ 21 = r6 := by simpa using hX
      have hl2 : (1048576 : Int) < (l0.length : Int) := by omega
      clear hX HX hdn hrt hlen
      go_wp2_with (fail)
      with_reducible refine (doneZ HO9.out).mono ?_
      rintro en wd ⟨rfl, hbd⟩
      have HZd := Aside0.mk (HZl.out.after hbd)
      have HMd := Aside0.mk (HM9.out.after hbd)
      have HRd := Aside0.mk (Kd.R_below HR9.out hbd)
      have HBd := Aside0.mk (HO9.out.bel.trans (hbd.mono HO9.out.bel.size))
      clear m0 m1 m2 m3 m4 hbd
      have m0 : wd.cell? ⟨w3.heap.size, 0, none⟩ = some (.int .i64 v1) := HMd.out.cell 0
      have m1 : wd.cell? ⟨w3.heap.size, 1, none⟩ = some (.int .i64 v2) := HMd.out.cell 1
      have m2 : wd.cell? ⟨w3.heap.size, 2, none⟩ = some (.int .i64 v3) := HMd.out.cell 2
      have m3 : wd.cell? ⟨w3.heap.size, 3, none⟩ = some (.int .i64 v4) := HMd.out.cell 3
      have m4 : wd.cell? ⟨w3.heap.size, 4, none⟩ = some (.slice A8 ls.length c8) := HMd.out.cell 4
      go_wp2_with (fail)
      with_reducible refine (weighhouseref17_RightRecord.calls (0 + ls.length + 1) v1 v2 v3 v4 A8 c8 ls true _ (Kd.R_reads' HRd.out).2.2 hc8 HF.out).mono ?_
      rintro en wr ⟨rfl, hbr⟩
      have HBr := Aside0.mk ((HBw.out.trans (HBd.out.mono HBw.out.size)).trans (hbr.mono (HBw.out.trans (HBd.out.mono HBw.out.size)).size))
      have HZr := Aside0.mk (HZd.out.after hbr)
      clear hbr m0 m1 m2 m3 m4
      have z0 : wr.cell? ⟨w.heap.size, 0, none⟩ = some (.int .i64 0) := HZr.out.cell 0
      have z1 : wr.cell? ⟨w.heap.size, 1, none⟩ = some (.int .i64 0) := HZr.out.cell 1
      have z2 : wr.cell? ⟨w.heap.size, 2, none⟩ = some (.int .i64 0) := HZr.out.cell 2
      have z3 : wr.cell? ⟨w.heap.size, 3, none⟩ = some (.int .i64 0) := HZr.out.cell 3
      have z4 : wr.cell? ⟨w.heap.size, 4, none⟩ = some (.slice none 0 0) := HZr.out.cell 4
      have g0 : wr.frozen? ⟨w.heap.size, 0, none⟩ = false := HZr.out.frozen 0
      have g1 : wr.frozen? ⟨w.heap.size, 1, none⟩ = false := HZr.out.frozen 1
      have g2 : wr.frozen? ⟨w.heap.size, 2, none⟩ = false := HZr.out.frozen 2
      have g3 : wr.frozen? ⟨w.heap.size, 3, none⟩ = false := HZr.out.frozen 3
      have g4 : wr.frozen? ⟨w.heap.size, 4, none⟩ = false := HZr.out.frozen 4
      go_wp2
      with_reducible refine weighhouseref17_GetRecord.ret_ (g := w.heap.size) (e := 21) (((((HZr.out.set_ 0 _).set_ 1 _).set_ 2 _).set_ 3 _).set_ 4 _) ?_ ?_ ?_ ?_
      · rfl
      · rfl
      · rfl
      · exact ⟨_, rfl, Kd.R_nil _ _ _ _ _, (((((HBr.out.setCell (Nat.le_refl _) _).setCell (Nat.le_refl _) _).setCell (Nat.le_refl _) _).setCell (Nat.le_refl _) _).setCell (Nat.le_refl _) _)⟩
    · have hX := HX.out
      rw [if_pos ⟨hdn, hrt, hlen⟩] at hX
      have HE := Aside0.mk (show v1 = r1 ∧ v2 = r2 ∧ v3 = r3 ∧ v4 = r4 ∧ ls = r5 ∧ (0 : Int) = r6 from by simpa using hX)
      have hl2 : ¬ (1048576 : Int) < (l0.length : Int) := by omega
      clear hX HX hdn hrt hlen
      go_wp2_with (fail)
      with_reducible refine (doneZ HO9.out).mono ?_
      rintro en wd ⟨rfl, hbd⟩
      have HZd := Aside0.mk (HZl.out.after hbd)
      have HMd := Aside0.mk (HM9.out.after hbd)
      have HRd := Aside0.mk (Kd.R_below HR9.out hbd)
      have HBd := Aside0.mk (HO9.out.bel.trans (hbd.mono HO9.out.bel.size))
      clear m0 m1 m2 m3 m4 hbd
      have m0 : wd.cell? ⟨w3.heap.size, 0, none⟩ = some (.int .i64 v1) := HMd.out.cell 0
      have m1 : wd.cell? ⟨w3.heap.size, 1, none⟩ = some (.int .i64 v2) := HMd.out.cell 1
      have m2 : wd.cell? ⟨w3.heap.size, 2, none⟩ = some (.int .i64 v3) := HMd.out.cell 2
      have m3 : wd.cell? ⟨w3.heap.size, 3, none⟩ = some (.int .i64 v4) := HMd.out.cell 3
      have m4 : wd.cell? ⟨w3.heap.size, 4, none⟩ = some (.slice A8 ls.length c8) := HMd.out.cell 4
      go_wp2_with (fail)
      with_reducible refine (weighhouseref17_RightRecord.calls (0 + ls.length + 1) v1 v2 v3 v4 A8 c8 ls true _ (Kd.R_reads' HRd.out).2.2 hc8 HF.out).mono ?_
      rintro en wr ⟨rfl, hbr⟩
      have HBr := Aside0.mk ((HBw.out.trans (HBd.out.mono HBw.out.size)).trans (hbr.mono (HBw.out.trans (HBd.out.mono HBw.out.size)).size))
      have HZr := Aside0.mk (HZd.out.after hbr)
      have HMr := Aside0.mk (HMd.out.after hbr)
      have HRr := Aside0.mk (Kd.R_below HRd.out hbr)
      clear hbr m0 m1 m2 m3 m4
      have z0 : wr.cell? ⟨w.heap.size, 0, none⟩ = some (.int .i64 0) := HZr.out.cell 0
      have z1 : wr.cell? ⟨w.heap.size, 1, none⟩ = some (.int .i64 0) := HZr.out.cell 1
      have z2 : wr.cell? ⟨w.heap.size, 2, none⟩ = some (.int .i64 0) := HZr.out.cell 2
      have z3 : wr.cell? ⟨w.heap.size, 3, none⟩ = some (.int .i64 0) := HZr.out.cell 3
      have z4 : wr.cell? ⟨w.heap.size, 4, none⟩ = some (.slice none 0 0) := HZr.out.cell 4
      have g0 : wr.frozen? ⟨w.heap.size, 0, none⟩ = false := HZr.out.frozen 0
      have g1 : wr.frozen? ⟨w.heap.size, 1, none⟩ = false := HZr.out.frozen 1
      have g2 : wr.frozen? ⟨w.heap.size, 2, none⟩ = false := HZr.out.frozen 2
      have g3 : wr.frozen? ⟨w.heap.size, 3, none⟩ = false := HZr.out.frozen 3
      have g4 : wr.frozen? ⟨w.heap.size, 4, none⟩ = false := HZr.out.frozen 4
      have m0 : wr.cell? ⟨w3.heap.size, 0, none⟩ = some (.int .i64 v1) := HMr.out.cell 0
      have m1 : wr.cell? ⟨w3.heap.size, 1, none⟩ = some (.int .i64 v2) := HMr.out.cell 1
      have m2 : wr.cell? ⟨w3.heap.size, 2, none⟩ = some (.int .i64 v3) := HMr.out.cell 2
      have m3 : wr.cell? ⟨w3.heap.size, 3, none⟩ = some (.int .i64 v4) := HMr.out.cell 3
      have m4 : wr.cell? ⟨w3.heap.size, 4, none⟩ = some (.slice A8 ls.length c8) := HMr.out.cell 4
      go_wp2
      with_reducible refine weighhouseref17_GetRecord.ret_ (g := w.heap.size) (e := 0) (((((HZr.out.set_ 0 _).set_ 1 _).set_ 2 _).set_ 3 _).set_ 4 _) ?_ ?_ ?_ ?_
      · rfl
      · rfl
      · rfl
      · obtain ⟨rfl, rfl, rfl, rfl, rfl, rfl⟩ := HE.out
        exact ⟨_, rfl, Kd.R_lower (Kd.R_mono (Kd.R_far (Kd.R_far (Kd.R_far (Kd.R_far (Kd.R_far HRr.out (p := ⟨w.heap.size, 0, none⟩) (fun k hk => show k ≠ w.heap.size by omega) _) (p := ⟨w.heap.size, 1, none⟩) (fun k hk => show k ≠ w.heap.size by omega) _) (p := ⟨w.heap.size, 2, none⟩) (fun k hk => show k ≠ w.heap.size by omega) _) (p := ⟨w.heap.size, 3, none⟩) (fun k hk => show k ≠ w.heap.size by omega) _) (p := ⟨w.heap.size, 4, none⟩) (fun k hk => show k ≠ w.heap.size by omega) _) (fun _ _ => trivial)) (by omega), (((((HBr.out.setCell (Nat.le_refl _) _).setCell (Nat.le_refl _) _).setCell (Nat.le_refl _) _).setCell (Nat.le_refl _) _).setCell (Nat.le_refl _) _)⟩


end Go.Proofs.Ytlmlkcobkmhmbaa.Q
end

section
-- written by hprint.py (a program of these sessions) out of the translation; Lean checks it
namespace Go.Proofs.Ytlmlkcobkmhmbaa.Q
open Go.RowKit Go.Proofs.YtlmlkcobkmhmbaaW.Hb Go.Proofs.YtlmlkcobkmhmbaaW.PrintWords Go.Proofs.YtlmlkcobkmhmbaaW.PrintLast Go.Proofs.YtlmlkcobkmhmbaaW.PrintMore
attribute [local go_sem] max2_int min2_int max_two min_two max_three min_three max_four min_four   -- for this text's walks alone
set_option linter.unusedVariables false
set_option linter.unusedSimpArgs false

/-! ### weighhouselaw17_MessageRecords: function 5, by hand -/
def weighhouselaw17_MessageRecords.T7 : Bool × List (List Nat × List Nat) := (true, [([], []), ([0], [0]), ([], []), ([2, 1], [2]), ([1, 3], [1, 3]), ([4, 3], [4]), ([5], [5]), ([6, 5], [5, 6]), ([5], [5]), ([8, 5], [5, 8]), ([7, 9, 5], [5, 7, 9]), ([5, 10], [5, 10]), ([11, 5], [11]), ([12], [12]), ([13, 12, 12], [12, 13]), ([12], [12]), ([14, 15, 12], [12, 14, 15]), ([12, 16], [12, 16]), ([17, 14], [17]), ([18], [18]), ([18], [18]), ([20, 18, 18], [18, 20]), ([19, 21, 21, 18], [18, 19, 21]), ([18, 22], [18, 22]), ([23, 22], [23]), ([24], [24]), ([25, 24, 24], [24, 25]), ([24], [24]), ([26, 27, 24], [24, 26, 27]), ([24, 28], [24, 28]), ([29, 26], [29]), ([30], [30]), ([30], [30]), ([32, 30, 30], [30, 32]), ([31, 33, 33, 30], [30, 31, 33]), ([30, 34], [30, 34]), ([35, 34], [35]), ([36], [36]), ([36], [36]), ([37, 38, 36, 36], [36, 37, 38]), ([36, 39], [36, 39]), ([40, 39], [40]), ([41, 41], [41]), ([41, 42], [41, 42]), ([43, 42, 0, 1, 2, 3, 4, 5, 6, 7, 8, 9, 10, 11, 12, 13, 14, 15, 16, 17, 18, 19, 20, 21, 22, 23, 24, 25, 26, 27, 28, 29, 30, 31, 32, 33, 34, 35, 36, 37, 38, 39, 40, 41, 42, 43], [43])])
def weighhouselaw17_MessageRecords.B7 : List Nat := [0, 1, 0, 7, 15, 31, 63, 127, 63, 319, 1023, 2047, 4095, 8191, 16383, 8191, 65535, 131071, 262143, 524287, 524287, 1572863, 4194303, 8388607, 16777215, 33554431, 67108863, 33554431, 268435455, 536870911, 1073741823, 2147483647, 2147483647, 6442450943, 17179869183, 34359738367, 68719476735, 137438953471, 137438953471, 549755813887, 1099511627775, 2199023255551, 4398046511103, 8796093022207, 17592186044415]
theorem weighhouselaw17_MessageRecords.tab7 : rtab .any (opsOf Try.f5 7) = weighhouselaw17_MessageRecords.T7 := by kernel_rfl
theorem weighhouselaw17_MessageRecords.bits7 : waitsOk weighhouselaw17_MessageRecords.T7.2 weighhouselaw17_MessageRecords.B7 = true := by kernel_rfl
set_option maxRecDepth 100000 in
set_option maxHeartbeats 2000000 in
theorem weighhouselaw17_MessageRecords.same (k : Nat) (x0 x1 x2 x3 : Int) (A B : Option Addr) (c d : Nat) (xl : List S74) (w : World) (hr : Kd.C k74 w A xl.length xl) (hc : xl.length ≤ c) (hr2 : Kd.C k74 w B xl.length xl) (hd : xl.length ≤ d) (h : weighhouselaw17_SameLog.f k xl xl = some true) : Calls Try.prog 23 #[.agg #[.int .i64 x0, .int .i64 x1, .int .i64 x2, .int .i64 x3, .slice A xl.length c], .agg #[.int .i64 x0, .int .i64 x1, .int .i64 x2, .int .i64 x3, .slice B xl.length d]] w fun e w' => e = .returned (.bool true) ∧ Below w.heap.size w w' := by
  have H1 := Aside0.mk (Kd.C_alloc (Kd.C_alloc hr (.cells #[.int .i64 x0, .int .i64 x1, .int .i64 x2, .int .i64 x3, .slice A xl.length c] 49)) (.cells #[.int .i64 x0, .int .i64 x1, .int .i64 x2, .int .i64 x3, .slice B xl.length d] 49))
  have H2 := Aside0.mk (Kd.C_alloc (Kd.C_alloc hr2 (.cells #[.int .i64 x0, .int .i64 x1, .int .i64 x2, .int .i64 x3, .slice A xl.length c] 49)) (.cells #[.int .i64 x0, .int .i64 x1, .int .i64 x2, .int .i64 x3, .slice B xl.length d] 49))
  have H := Aside0.mk h
  have HB := Aside0.mk (((Below.refl w.heap.size w).alloc (Nat.le_refl _) (.cells #[.int .i64 x0, .int .i64 x1, .int .i64 x2, .int .i64 x3, .slice A xl.length c] 49)).alloc (by simp) (.cells #[.int .i64 x0, .int .i64 x1, .int .i64 x2, .int .i64 x3, .slice B xl.length d] 49))
  have hm : xl.length ≤ 9223372036854775807 := hr.2.1
  clear hr hr2 h
  have e0 : (x0 == x0) = true := by simp
  have e1 : (x1 == x1) = true := by simp
  have e2 : (x2 == x2) = true := by simp
  have e3 : (x3 == x3) = true := by simp
  go_enter Try.func23, Try.ntmps23
  go_wp2_with (go_at_call 38; (with_reducible refine (weighhouselaw17_SameLog.calls k A c xl B d xl true _ H1.out hc H2.out hd H.out).mono ?_); rintro e w1 ⟨rfl, hb⟩; have HB1 := Aside0.mk (HB.out.trans (hb.below.mono HB.out.size)); clear hb)
  go_ret
  exact ⟨rfl, HB1.out⟩
open Classical in
noncomputable def weighhouselaw17_MessageRecords.f (k : Nat) (a0_0 a0_1 a0_2 a0_3 : Int) (l0_4 : List S113) (l1 : List Int) : Option Bool := (weighhouselaw17_Record.f k a0_0 a0_1 a0_2 a0_3 l0_4).bind fun x => (weighhouseref17_PutRecord.f k a0_0 a0_1 a0_2 a0_3 l0_4).bind fun d => (weighhouseref17_RightRecord.f k a0_0 a0_1 a0_2 a0_3 l0_4).bind fun q => (message_GetRecord.f l1).bind fun g => (weighhouseref17_GetRecord.f l1).bind fun z => (weighhouselaw17_Record.f k z.1 z.2.1 z.2.2.1 z.2.2.2.1 z.2.2.2.2.1).bind fun zz => (weighhouselaw17_SameLog.f k g.2.2.2.2.1 g.2.2.2.2.1).bind fun s => (weighhouselaw17_SameLog.f k x.2.2.2.2 x.2.2.2.2).bind fun t => if message_PutRecord.f x.1 x.2.1 x.2.2.1 x.2.2.2.1 x.2.2.2.2 = some d ∧ message_RightRecord.f x.1 x.2.1 x.2.2.1 x.2.2.2.1 x.2.2.2.2 = some q ∧ s = true ∧ t = true ∧ g.2.2.2.2.2 = z.2.2.2.2.2 ∧ l1.length ≤ 140737488351232 ∧ g.1 = zz.1 ∧ g.2.1 = zz.2.1 ∧ g.2.2.1 = zz.2.2.1 ∧ g.2.2.2.1 = zz.2.2.2.1 ∧ g.2.2.2.2.1 = zz.2.2.2.2 then some true else none
set_option maxRecDepth 100000 in
set_option maxHeartbeats 8000000 in
theorem weighhouselaw17_MessageRecords.calls (k : Nat) (a0_0 a0_1 a0_2 a0_3 : Int) (A0_4 : Option Addr) (c0_4 : Nat) (l0_4 : List S113) (A1 : Option Addr) (c1 : Nat) (l1 : List Int) (r : Bool) (w : World) (hr0_4 : Kd.C k113 w A0_4 l0_4.length l0_4) (hc0_4 : l0_4.length ≤ c0_4) (hr1 : Kd.C (Kd.int .u8) w A1 l1.length l1) (hc1 : l1.length ≤ c1) (h : weighhouselaw17_MessageRecords.f k a0_0 a0_1 a0_2 a0_3 l0_4 l1 = some r) :
    Calls Try.prog 5 #[.agg #[.int .i64 a0_0, .int .i64 a0_1, .int .i64 a0_2, .int .i64 a0_3, .slice A0_4 l0_4.length c0_4], .slice A1 l1.length c1] w fun e w' => e = .returned (.bool r) ∧ Below w.heap.size w w' := by
  unfold weighhouselaw17_MessageRecords.f at h
  obtain ⟨⟨x0, x1, x2, x3, xl⟩, hm, h⟩ := Option.bind_eq_some_iff.mp h
  obtain ⟨⟨d, de⟩, hd, h⟩ := Option.bind_eq_some_iff.mp h
  obtain ⟨q, hq, h⟩ := Option.bind_eq_some_iff.mp h
  obtain ⟨⟨g0, g1, g2, g3, gl, ge⟩, hg, h⟩ := Option.bind_eq_some_iff.mp h
  obtain ⟨⟨z0, z1, z2, z3, zl, ze⟩, hz, h⟩ := Option.bind_eq_some_iff.mp h
  obtain ⟨⟨y0, y1, y2, y3, yl⟩, hzz, h⟩ := Option.bind_eq_some_iff.mp h
  obtain ⟨s, hs, h⟩ := Option.bind_eq_some_iff.mp h
  obtain ⟨t, ht, h⟩ := Option.bind_eq_some_iff.mp h
  simp only at hzz hs ht h
  split at h
  rotate_left
  · cases h
  rename_i hcond
  obtain rfl := Option.some.inj h
  obtain ⟨hput, hri, rfl, rfl, rfl, hlen, rfl, rfl, rfl, rfl, rfl⟩ := hcond
  have HM := Aside0.mk hm
  have HD := Aside0.mk hd
  have HQ := Aside0.mk hq
  have HG := Aside0.mk hg
  have HZ := Aside0.mk hz
  have HZZ := Aside0.mk hzz
  have HS := Aside0.mk hs
  have HT := Aside0.mk ht
  have HPUT := Aside0.mk hput
  have HRI := Aside0.mk hri
  have HLN := Aside0.mk (show (l1 ++ [77, 78] : List Int).length = l1.length + 2 by simp)
  have HTK := Aside0.mk (show (l1 ++ [77, 78] : List Int).take l1.length = l1 by simp)
  have hm0 : l0_4.length ≤ 9223372036854775807 := hr0_4.2.1
  have hm1 : l1.length ≤ 9223372036854775807 := hr1.2.1
  have hss : ((strOfNums d).toList == (strOfNums d).toList) = true := by simp
  have hqq : (q == q) = true := by simp
  have hee : (de == de) = true := by simp
  have hgg : (ge == ge) = true := by simp
  obtain ⟨st, hst⟩ : ∃ st, strOfNums d = st := ⟨_, rfl⟩
  rw [hst] at hss
  have HST := Aside0.mk hst
  have HB := Aside0.mk ((Below.refl w.heap.size w).alloc (Nat.le_refl _) (.cells #[.int .i64 a0_0, .int .i64 a0_1, .int .i64 a0_2, .int .i64 a0_3, .slice A0_4 l0_4.length c0_4] 46))
  have CM := Aside0.mk (Kd.C_alloc hr0_4 (.cells #[.int .i64 a0_0, .int .i64 a0_1, .int .i64 a0_2, .int .i64 a0_3, .slice A0_4 l0_4.length c0_4] 46))
  have CL := Aside0.mk (Kd.C_alloc hr1 (.cells #[.int .i64 a0_0, .int .i64 a0_1, .int .i64 a0_2, .int .i64 a0_3, .slice A0_4 l0_4.length c0_4] 46))
  have BM := Aside0.mk (Blk.new w 46 #[.int .i64 a0_0, .int .i64 a0_1, .int .i64 a0_2, .int .i64 a0_3, .slice A0_4 l0_4.length c0_4])
  clear h hm hd hq hg hz hzz hs ht hput hri hst hr0_4 hr1
  go_enter Try.func5, Try.ntmps5
  go_upto_region 1 with (fail)
  generalize w.alloc (.cells #[.int .i64 a0_0, .int .i64 a0_1, .int .i64 a0_2, .int .i64 a0_3, .slice A0_4 l0_4.length c0_4] 46) = w1 at HB CM CL BM ⊢
  go_wp2_with (fail)
  with_reducible refine (lentRoom A1 c1 l1 _ CL.out hc1 (by omega)).mono ?_
  rintro en w2 ⟨A2, c2, rfl, hR2, hb⟩
  replace HB := Aside0.mk (HB.out.trans ((hb).mono HB.out.size))
  replace CM := Aside0.mk (Kd.C_below CM.out hb)
  replace CL := Aside0.mk (Kd.C_below CL.out hb)
  replace BM := Aside0.mk (BM.out.after hb)
  obtain ⟨_, hcc2, hC2⟩ := Kd.R_reads' hR2
  have hcl2 : l1.length ≤ c2 := by omega
  have hroom : l1.length + 2 ≤ c2 := by have := HLN.out; omega
  have CW := Aside0.mk (show (Kd.int .u8).C w2 A2 (l1.length + 2) (l1 ++ [77, 78]) from by rw [HLN.out] at hC2; exact hC2)
  have CV := Aside0.mk (show (Kd.int .u8).C w2 A2 l1.length l1 from by have h2 := Kd.C_take (m := l1.length) hC2 (by have := HLN.out; omega); rw [HTK.out] at h2; exact h2)
  clear hR2 hb hC2
  have k0 : w2.cell? ⟨w.heap.size, 0, none⟩ = some (.int .i64 a0_0) := BM.out.cell 0
  have k1 : w2.cell? ⟨w.heap.size, 1, none⟩ = some (.int .i64 a0_1) := BM.out.cell 1
  have k2 : w2.cell? ⟨w.heap.size, 2, none⟩ = some (.int .i64 a0_2) := BM.out.cell 2
  have k3 : w2.cell? ⟨w.heap.size, 3, none⟩ = some (.int .i64 a0_3) := BM.out.cell 3
  have k4 : w2.cell? ⟨w.heap.size, 4, none⟩ = some (.slice A0_4 l0_4.length c0_4) := BM.out.cell 4
  go_wp2_with (fail)
  clear k0 k1 k2 k3 k4
  with_reducible refine (weighhouselaw17_Record.calls k a0_0 a0_1 a0_2 a0_3 A0_4 c0_4 l0_4 x0 x1 x2 x3 xl _ CM.out hc0_4 HM.out).mono ?_
  rintro en w3 ⟨v3, rfl, hR3, hb⟩
  replace HB := Aside0.mk (HB.out.trans ((hb).mono HB.out.size))
  replace CM := Aside0.mk (Kd.C_below CM.out hb)
  replace CL := Aside0.mk (Kd.C_below CL.out hb)
  replace BM := Aside0.mk (BM.out.after hb)
  replace CW := Aside0.mk (Kd.C_below CW.out hb)
  replace CV := Aside0.mk (Kd.C_below CV.out hb)
  obtain ⟨A3, c3, rfl, hc3, hC3⟩ := Kd.R_reads hR3
  have CX := Aside0.mk (hC3)
  clear hR3 hC3 hb
  go_upto_region 3 with (fail)
  replace HB := Aside0.mk (HB.out.alloc HB.out.size (.cells #[.int .i64 x0, .int .i64 x1, .int .i64 x2, .int .i64 x3, .slice A3 xl.length c3] 49))
  replace CM := Aside0.mk (Kd.C_alloc CM.out (.cells #[.int .i64 x0, .int .i64 x1, .int .i64 x2, .int .i64 x3, .slice A3 xl.length c3] 49))
  replace CL := Aside0.mk (Kd.C_alloc CL.out (.cells #[.int .i64 x0, .int .i64 x1, .int .i64 x2, .int .i64 x3, .slice A3 xl.length c3] 49))
  replace BM := Aside0.mk (BM.out.alloc (.cells #[.int .i64 x0, .int .i64 x1, .int .i64 x2, .int .i64 x3, .slice A3 xl.length c3] 49))
  replace CW := Aside0.mk (Kd.C_alloc CW.out (.cells #[.int .i64 x0, .int .i64 x1, .int .i64 x2, .int .i64 x3, .slice A3 xl.length c3] 49))
  replace CV := Aside0.mk (Kd.C_alloc CV.out (.cells #[.int .i64 x0, .int .i64 x1, .int .i64 x2, .int .i64 x3, .slice A3 xl.length c3] 49))
  replace CX := Aside0.mk (Kd.C_alloc CX.out (.cells #[.int .i64 x0, .int .i64 x1, .int .i64 x2, .int .i64 x3, .slice A3 xl.length c3] 49))
  have BX := Aside0.mk (Blk.new w3 49 #[.int .i64 x0, .int .i64 x1, .int .i64 x2, .int .i64 x3, .slice A3 xl.length c3])
  generalize w3.alloc (.cells #[.int .i64 x0, .int .i64 x1, .int .i64 x2, .int .i64 x3, .slice A3 xl.length c3] 49) = w4 at HB CM CL BM CW CV CX BX ⊢
  generalize w3.heap.size = xb at BX ⊢
  have k0 : w4.cell? ⟨xb, 0, none⟩ = some (.int .i64 x0) := BX.out.cell 0
  have k1 : w4.cell? ⟨xb, 1, none⟩ = some (.int .i64 x1) := BX.out.cell 1
  have k2 : w4.cell? ⟨xb, 2, none⟩ = some (.int .i64 x2) := BX.out.cell 2
  have k3 : w4.cell? ⟨xb, 3, none⟩ = some (.int .i64 x3) := BX.out.cell 3
  have k4 : w4.cell? ⟨xb, 4, none⟩ = some (.slice A3 xl.length c3) := BX.out.cell 4
  go_wp2_with (fail)
  clear k0 k1 k2 k3 k4
  with_reducible refine (message_PutRecord.calls x0 x1 x2 x3 A3 c3 xl d de _ CX.out hc3 HPUT.out).mono ?_
  rintro en w5 ⟨v5, rfl, hR5, hb⟩
  replace HB := Aside0.mk (HB.out.trans ((hb).mono HB.out.size))
  replace CM := Aside0.mk (Kd.C_below CM.out hb)
  replace CL := Aside0.mk (Kd.C_below CL.out hb)
  replace BM := Aside0.mk (BM.out.after hb)
  replace CW := Aside0.mk (Kd.C_below CW.out hb)
  replace CV := Aside0.mk (Kd.C_below CV.out hb)
  replace CX := Aside0.mk (Kd.C_below CX.out hb)
  replace BX := Aside0.mk (BX.out.after hb)
  obtain ⟨A5, c5, rfl, hc5, hC5⟩ := Kd.R_reads hR5
  have CP := Aside0.mk (hC5)
  clear hR5 hC5 hb
  have k0 : w5.cell? ⟨w.heap.size, 0, none⟩ = some (.int .i64 a0_0) := BM.out.cell 0
  have k1 : w5.cell? ⟨w.heap.size, 1, none⟩ = some (.int .i64 a0_1) := BM.out.cell 1
  have k2 : w5.cell? ⟨w.heap.size, 2, none⟩ = some (.int .i64 a0_2) := BM.out.cell 2
  have k3 : w5.cell? ⟨w.heap.size, 3, none⟩ = some (.int .i64 a0_3) := BM.out.cell 3
  have k4 : w5.cell? ⟨w.heap.size, 4, none⟩ = some (.slice A0_4 l0_4.length c0_4) := BM.out.cell 4
  go_wp2_with (fail)
  clear k0 k1 k2 k3 k4
  with_reducible refine (weighhouseref17_PutRecord.calls k a0_0 a0_1 a0_2 a0_3 A0_4 c0_4 l0_4 d de _ CM.out hc0_4 HD.out).mono ?_
  rintro en w6 ⟨v6, rfl, hR6, hb⟩
  replace HB := Aside0.mk (HB.out.trans ((hb).mono HB.out.size))
  replace CM := Aside0.mk (Kd.C_below CM.out hb)
  replace CL := Aside0.mk (Kd.C_below CL.out hb)
  replace BM := Aside0.mk (BM.out.after hb)
  replace CW := Aside0.mk (Kd.C_below CW.out hb)
  replace CV := Aside0.mk (Kd.C_below CV.out hb)
  replace CX := Aside0.mk (Kd.C_below CX.out hb)
  replace BX := Aside0.mk (BX.out.after hb)
  replace CP := Aside0.mk (Kd.C_below CP.out hb)
  obtain ⟨A6, c6, rfl, hc6, hC6⟩ := Kd.R_reads hR6
  have CD := Aside0.mk (hC6)
  clear hR6 hC6 hb
  go_wp2_with (fail)
  with_reducible refine (message_GetRecord.calls A2 c2 l1 g0 g1 g2 g3 gl ge _ CV.out hcl2 HG.out).mono ?_
  rintro en w7 ⟨v7, rfl, hR7, hb⟩
  replace HB := Aside0.mk (HB.out.trans ((hb).mono HB.out.size))
  replace CM := Aside0.mk (Kd.C_below CM.out hb)
  replace CL := Aside0.mk (Kd.C_below CL.out hb)
  replace BM := Aside0.mk (BM.out.after hb)
  replace CW := Aside0.mk (Kd.C_below CW.out hb)
  replace CV := Aside0.mk (Kd.C_below CV.out hb)
  replace CX := Aside0.mk (Kd.C_below CX.out hb)
  replace BX := Aside0.mk (BX.out.after hb)
  replace CP := Aside0.mk (Kd.C_below CP.out hb)
  replace CD := Aside0.mk (Kd.C_below CD.out hb)
  obtain ⟨A7, c7, rfl, hc7, hC7⟩ := Kd.R_reads hR7
  have CG := Aside0.mk (hC7)
  clear hR7 hC7 hb
  go_upto_region 6 with (fail)
  replace HB := Aside0.mk (HB.out.alloc HB.out.size (.cells #[.int .i64 g0, .int .i64 g1, .int .i64 g2, .int .i64 g3, .slice A7 gl.length c7] 49))
  replace CM := Aside0.mk (Kd.C_alloc CM.out (.cells #[.int .i64 g0, .int .i64 g1, .int .i64 g2, .int .i64 g3, .slice A7 gl.length c7] 49))
  replace CL := Aside0.mk (Kd.C_alloc CL.out (.cells #[.int .i64 g0, .int .i64 g1, .int .i64 g2, .int .i64 g3, .slice A7 gl.length c7] 49))
  replace BM := Aside0.mk (BM.out.alloc (.cells #[.int .i64 g0, .int .i64 g1, .int .i64 g2, .int .i64 g3, .slice A7 gl.length c7] 49))
  replace CW := Aside0.mk (Kd.C_alloc CW.out (.cells #[.int .i64 g0, .int .i64 g1, .int .i64 g2, .int .i64 g3, .slice A7 gl.length c7] 49))
  replace CV := Aside0.mk (Kd.C_alloc CV.out (.cells #[.int .i64 g0, .int .i64 g1, .int .i64 g2, .int .i64 g3, .slice A7 gl.length c7] 49))
  replace CX := Aside0.mk (Kd.C_alloc CX.out (.cells #[.int .i64 g0, .int .i64 g1, .int .i64 g2, .int .i64 g3, .slice A7 gl.length c7] 49))
  replace BX := Aside0.mk (BX.out.alloc (.cells #[.int .i64 g0, .int .i64 g1, .int .i64 g2, .int .i64 g3, .slice A7 gl.length c7] 49))
  replace CP := Aside0.mk (Kd.C_alloc CP.out (.cells #[.int .i64 g0, .int .i64 g1, .int .i64 g2, .int .i64 g3, .slice A7 gl.length c7] 49))
  replace CD := Aside0.mk (Kd.C_alloc CD.out (.cells #[.int .i64 g0, .int .i64 g1, .int .i64 g2, .int .i64 g3, .slice A7 gl.length c7] 49))
  replace CG := Aside0.mk (Kd.C_alloc CG.out (.cells #[.int .i64 g0, .int .i64 g1, .int .i64 g2, .int .i64 g3, .slice A7 gl.length c7] 49))
  have BG := Aside0.mk (Blk.new w7 49 #[.int .i64 g0, .int .i64 g1, .int .i64 g2, .int .i64 g3, .slice A7 gl.length c7])
  generalize w7.alloc (.cells #[.int .i64 g0, .int .i64 g1, .int .i64 g2, .int .i64 g3, .slice A7 gl.length c7] 49) = w8 at HB CM CL BM CW CV CX BX CP CD CG BG ⊢
  generalize w7.heap.size = gb at BG ⊢
  go_wp2_with (fail)
  with_reducible refine (weighhouseref17_GetRecord.calls A1 c1 l1 z0 z1 z2 z3 zl ge _ CL.out hc1 HZ.out).mono ?_
  rintro en w9 ⟨v9, rfl, hR9, hb⟩
  replace HB := Aside0.mk (HB.out.trans ((hb).mono HB.out.size))
  replace CM := Aside0.mk (Kd.C_below CM.out hb)
  replace CL := Aside0.mk (Kd.C_below CL.out hb)
  replace BM := Aside0.mk (BM.out.after hb)
  replace CW := Aside0.mk (Kd.C_below CW.out hb)
  replace CV := Aside0.mk (Kd.C_below CV.out hb)
  replace CX := Aside0.mk (Kd.C_below CX.out hb)
  replace BX := Aside0.mk (BX.out.after hb)
  replace CP := Aside0.mk (Kd.C_below CP.out hb)
  replace CD := Aside0.mk (Kd.C_below CD.out hb)
  replace CG := Aside0.mk (Kd.C_below CG.out hb)
  replace BG := Aside0.mk (BG.out.after hb)
  obtain ⟨A9, c9, rfl, hc9, hC9⟩ := Kd.R_reads hR9
  have CZ := Aside0.mk (hC9)
  clear hR9 hC9 hb
  go_upto_region 7 with (fail)
  replace HB := Aside0.mk (HB.out.alloc HB.out.size (.cells #[.int .i64 z0, .int .i64 z1, .int .i64 z2, .int .i64 z3, .slice A9 zl.length c9] 46))
  replace CM := Aside0.mk (Kd.C_alloc CM.out (.cells #[.int .i64 z0, .int .i64 z1, .int .i64 z2, .int .i64 z3, .slice A9 zl.length c9] 46))
  replace CL := Aside0.mk (Kd.C_alloc CL.out (.cells #[.int .i64 z0, .int .i64 z1, .int .i64 z2, .int .i64 z3, .slice A9 zl.length c9] 46))
  replace BM := Aside0.mk (BM.out.alloc (.cells #[.int .i64 z0, .int .i64 z1, .int .i64 z2, .int .i64 z3, .slice A9 zl.length c9] 46))
  replace CW := Aside0.mk (Kd.C_alloc CW.out (.cells #[.int .i64 z0, .int .i64 z1, .int .i64 z2, .int .i64 z3, .slice A9 zl.length c9] 46))
  replace CV := Aside0.mk (Kd.C_alloc CV.out (.cells #[.int .i64 z0, .int .i64 z1, .int .i64 z2, .int .i64 z3, .slice A9 zl.length c9] 46))
  replace CX := Aside0.mk (Kd.C_alloc CX.out (.cells #[.int .i64 z0, .int .i64 z1, .int .i64 z2, .int .i64 z3, .slice A9 zl.length c9] 46))
  replace BX := Aside0.mk (BX.out.alloc (.cells #[.int .i64 z0, .int .i64 z1, .int .i64 z2, .int .i64 z3, .slice A9 zl.length c9] 46))
  replace CP := Aside0.mk (Kd.C_alloc CP.out (.cells #[.int .i64 z0, .int .i64 z1, .int .i64 z2, .int .i64 z3, .slice A9 zl.length c9] 46))
  replace CD := Aside0.mk (Kd.C_alloc CD.out (.cells #[.int .i64 z0, .int .i64 z1, .int .i64 z2, .int .i64 z3, .slice A9 zl.length c9] 46))
  replace CG := Aside0.mk (Kd.C_alloc CG.out (.cells #[.int .i64 z0, .int .i64 z1, .int .i64 z2, .int .i64 z3, .slice A9 zl.length c9] 46))
  replace BG := Aside0.mk (BG.out.alloc (.cells #[.int .i64 z0, .int .i64 z1, .int .i64 z2, .int .i64 z3, .slice A9 zl.length c9] 46))
  replace CZ := Aside0.mk (Kd.C_alloc CZ.out (.cells #[.int .i64 z0, .int .i64 z1, .int .i64 z2, .int .i64 z3, .slice A9 zl.length c9] 46))
  have BZ := Aside0.mk (Blk.new w9 46 #[.int .i64 z0, .int .i64 z1, .int .i64 z2, .int .i64 z3, .slice A9 zl.length c9])
  generalize w9.alloc (.cells #[.int .i64 z0, .int .i64 z1, .int .i64 z2, .int .i64 z3, .slice A9 zl.length c9] 46) = wx at HB CM CL BM CW CV CX BX CP CD CG BG CZ BZ ⊢
  generalize w9.heap.size = zb at BZ ⊢
  replace HB := Aside0.mk (HB.out.trans ((((Below.refl _ wx).drew)).mono HB.out.size))
  replace CM := Aside0.mk (Kd.C_below CM.out ((Below.refl _ wx).drew))
  replace CL := Aside0.mk (Kd.C_below CL.out ((Below.refl _ wx).drew))
  replace BM := Aside0.mk (BM.out.after ((Below.refl _ wx).drew))
  replace CW := Aside0.mk (Kd.C_below CW.out ((Below.refl _ wx).drew))
  replace CV := Aside0.mk (Kd.C_below CV.out ((Below.refl _ wx).drew))
  replace CX := Aside0.mk (Kd.C_below CX.out ((Below.refl _ wx).drew))
  replace BX := Aside0.mk (BX.out.after ((Below.refl _ wx).drew))
  replace CP := Aside0.mk (Kd.C_below CP.out ((Below.refl _ wx).drew))
  replace CD := Aside0.mk (Kd.C_below CD.out ((Below.refl _ wx).drew))
  replace CG := Aside0.mk (Kd.C_below CG.out ((Below.refl _ wx).drew))
  replace BG := Aside0.mk (BG.out.after ((Below.refl _ wx).drew))
  replace CZ := Aside0.mk (Kd.C_below CZ.out ((Below.refl _ wx).drew))
  replace BZ := Aside0.mk (BZ.out.after ((Below.refl _ wx).drew))
  have hcp : (convert 35 9 (.slice A5 d.length c5)).run Try.prog wx.drew = .ok (.string st) wx.drew := by rw [← HST.out]; exact (Kd.C_string (P := Try.prog) (src := 35) (dst := 9) (e := 5) (c := c5) Try.underlying35 Try.underlying5 Try.underlying9 CP.out)
  have hcd : (convert 35 9 (.slice A6 d.length c6)).run Try.prog wx.drew = .ok (.string st) wx.drew := by rw [← HST.out]; exact (Kd.C_string (P := Try.prog) (src := 35) (dst := 9) (e := 5) (c := c6) Try.underlying35 Try.underlying5 Try.underlying9 CD.out)
  refine start_ (n := 45) (S := fun w' => (convert 35 9 (.slice A5 d.length c5)).run Try.prog w' = .ok (.string st) w' ∧ (convert 35 9 (.slice A6 d.length c6)).run Try.prog w' = .ok (.string st) w' ∧ w'.cell? ⟨xb, 0, none⟩ = some (.int .i64 x0) ∧ w'.cell? ⟨xb, 1, none⟩ = some (.int .i64 x1) ∧ w'.cell? ⟨xb, 2, none⟩ = some (.int .i64 x2) ∧ w'.cell? ⟨xb, 3, none⟩ = some (.int .i64 x3) ∧ w'.cell? ⟨xb, 4, none⟩ = some (.slice A3 xl.length c3) ∧ w'.cell? ⟨w.heap.size, 0, none⟩ = some (.int .i64 a0_0) ∧ w'.cell? ⟨w.heap.size, 1, none⟩ = some (.int .i64 a0_1) ∧ w'.cell? ⟨w.heap.size, 2, none⟩ = some (.int .i64 a0_2) ∧ w'.cell? ⟨w.heap.size, 3, none⟩ = some (.int .i64 a0_3) ∧ w'.cell? ⟨w.heap.size, 4, none⟩ = some (.slice A0_4 l0_4.length c0_4) ∧ w'.cell? ⟨gb, 0, none⟩ = some (.int .i64 g0) ∧ w'.cell? ⟨gb, 1, none⟩ = some (.int .i64 g1) ∧ w'.cell? ⟨gb, 2, none⟩ = some (.int .i64 g2) ∧ w'.cell? ⟨gb, 3, none⟩ = some (.int .i64 g3) ∧ w'.cell? ⟨gb, 4, none⟩ = some (.slice A7 gl.length c7) ∧ w'.cell? ⟨zb, 0, none⟩ = some (.int .i64 z0) ∧ w'.cell? ⟨zb, 1, none⟩ = some (.int .i64 z1) ∧ w'.cell? ⟨zb, 2, none⟩ = some (.int .i64 z2) ∧ w'.cell? ⟨zb, 3, none⟩ = some (.int .i64 z3) ∧ w'.cell? ⟨zb, 4, none⟩ = some (.slice A9 zl.length c9)) (ds := [34, 39, 42]) #[false, false, false, false, false, false, false, false, false, false, false, false, false, false, false, false, false, false, false, false, false, false, false, false, false, false, false, false, false, false, false, false, false, false, false, false, false, false, false, false, false, false, false, false, false] (by kernel_rfl) rfl rfl ⟨hcp, hcd, (BX.out.cell 0), (BX.out.cell 1), (BX.out.cell 2), (BX.out.cell 3), (BX.out.cell 4), (BM.out.cell 0), (BM.out.cell 1), (BM.out.cell 2), (BM.out.cell 3), (BM.out.cell 4), (BG.out.cell 0), (BG.out.cell 1), (BG.out.cell 2), (BG.out.cell 3), (BG.out.cell 4), (BZ.out.cell 0), (BZ.out.cell 1), (BZ.out.cell 2), (BZ.out.cell 3), (BZ.out.cell 4)⟩ (fun hHeld => ?_); refine with_tabW weighhouselaw17_MessageRecords.tab7 weighhouselaw17_MessageRecords.bits7 (fun HT_ HW_ => ?_)
  generalize wx.drew = wd at HB CM CL BM CW CV CX BX CP CD CG BG CZ BZ hcp hcd hHeld ⊢
  refine take_ (i := 0) (N := some 39) (v := ?_) (a' := ?_) #[true, false, false, false, false, false, false, false, false, false, false, false, false, false, false, false, false, false, false, false, false, false, false, false, false, false, false, false, false, false, false, false, false, false, false, false, false, false, false, false, false, false, false, false, false] rfl rfl (take_ofW HT_.out HW_.out (by kernel_rfl)) (fun _ _ _ h => h) (Or.inl ⟨by rfl, ?_⟩) hHeld ?_ ?_
  rotate_left
  · rintro w' ⟨s0, s1, s2, s3, s4, s5, s6, s7, s8, s9, s10, s11, s12, s13, s14, s15, s16, s17, s18, s19, s20, s21⟩
    go_simp
    with_reducible rfl
  rotate_left
  · simp only [Act.put, List.setIfInBounds_toArray, List.set_cons_zero, List.set_cons_succ, i64_w, i32_w]
    rfl
  refine take_ (i := 2) (N := some 41) (v := ?_) (a' := ?_) #[true, false, true, false, false, false, false, false, false, false, false, false, false, false, false, false, false, false, false, false, false, false, false, false, false, false, false, false, false, false, false, false, false, false, false, false, false, false, false, false, false, false, false, false, false] rfl rfl (take_ofW HT_.out HW_.out (by kernel_rfl)) (fun _ _ _ h => h) (Or.inl ⟨by rfl, ?_⟩) hHeld ?_ ?_
  rotate_left
  · rintro w' ⟨s0, s1, s2, s3, s4, s5, s6, s7, s8, s9, s10, s11, s12, s13, s14, s15, s16, s17, s18, s19, s20, s21⟩
    go_simp
    with_reducible rfl
  rotate_left
  · simp only [Act.put, List.setIfInBounds_toArray, List.set_cons_zero, List.set_cons_succ, i64_w, i32_w]
    rfl
  refine one_ (i := 1) (N := some 40) #[true, true, true, false, false, false, false, false, false, false, false, false, false, false, false, false, false, false, false, false, false, false, false, false, false, false, false, false, false, false, false, false, false, false, false, false, false, false, false, false, false, false, false, false, false] rfl rfl (one_of HT_.out (by kernel_rfl)) (by decide) (fun K hK => ?_)
  refine goes_ Try.func21 (by kernel_rfl) rfl #[.agg #[.int .i64 x0, .int .i64 x1, .int .i64 x2, .int .i64 x3, .slice A3 xl.length c3]] (by rfl) rfl rfl (by simp only [List.map_toArray, List.map_cons, List.map_nil]; rfl) ?_
  with_reducible refine (message_RightRecord.calls x0 x1 x2 x3 A3 c3 xl q _ CX.out hc3 HRI.out).mono ?_
  rintro en wa ⟨rfl, hb1⟩
  refine ⟨_, rfl, ?_⟩
  replace HB := Aside0.mk (HB.out.trans ((hb1).mono HB.out.size))
  replace CM := Aside0.mk (Kd.C_below CM.out hb1)
  replace CL := Aside0.mk (Kd.C_below CL.out hb1)
  replace BM := Aside0.mk (BM.out.after hb1)
  replace CW := Aside0.mk (Kd.C_below CW.out hb1)
  replace CV := Aside0.mk (Kd.C_below CV.out hb1)
  replace CX := Aside0.mk (Kd.C_below CX.out hb1)
  replace BX := Aside0.mk (BX.out.after hb1)
  replace CP := Aside0.mk (Kd.C_below CP.out hb1)
  replace CD := Aside0.mk (Kd.C_below CD.out hb1)
  replace CG := Aside0.mk (Kd.C_below CG.out hb1)
  replace BG := Aside0.mk (BG.out.after hb1)
  replace CZ := Aside0.mk (Kd.C_below CZ.out hb1)
  replace BZ := Aside0.mk (BZ.out.after hb1)
  clear hb1
  refine hK.out _ _ ⟨(by rw [← HST.out]; exact (Kd.C_string (P := Try.prog) (src := 35) (dst := 9) (e := 5) (c := c5) Try.underlying35 Try.underlying5 Try.underlying9 CP.out)), (by rw [← HST.out]; exact (Kd.C_string (P := Try.prog) (src := 35) (dst := 9) (e := 5) (c := c6) Try.underlying35 Try.underlying5 Try.underlying9 CD.out)), (BX.out.cell 0), (BX.out.cell 1), (BX.out.cell 2), (BX.out.cell 3), (BX.out.cell 4), (BM.out.cell 0), (BM.out.cell 1), (BM.out.cell 2), (BM.out.cell 3), (BM.out.cell 4), (BG.out.cell 0), (BG.out.cell 1), (BG.out.cell 2), (BG.out.cell 3), (BG.out.cell 4), (BZ.out.cell 0), (BZ.out.cell 1), (BZ.out.cell 2), (BZ.out.cell 3), (BZ.out.cell 4)⟩ (fun hHeld => ?_)
  clear hK K
  refine norm_ (a' := ?_) ?_ ?_
  rotate_left
  · show Act.put _ (some 40) _ = _
    simp only [Act.put, List.setIfInBounds_toArray, List.set_cons_zero, List.set_cons_succ, i64_w, i32_w]
    rfl
  refine one_ (i := 3) (N := some 42) #[true, true, true, true, false, false, false, false, false, false, false, false, false, false, false, false, false, false, false, false, false, false, false, false, false, false, false, false, false, false, false, false, false, false, false, false, false, false, false, false, false, false, false, false, false] rfl rfl (one_of HT_.out (by kernel_rfl)) (by decide) (fun K hK => ?_)
  refine goes_ Try.func22 (by kernel_rfl) rfl #[.agg #[.int .i64 a0_0, .int .i64 a0_1, .int .i64 a0_2, .int .i64 a0_3, .slice A0_4 l0_4.length c0_4]] (by rfl) rfl rfl (by simp only [List.map_toArray, List.map_cons, List.map_nil]; rfl) ?_
  with_reducible refine (weighhouseref17_RightRecord.calls k a0_0 a0_1 a0_2 a0_3 A0_4 c0_4 l0_4 q _ CM.out hc0_4 HQ.out).mono ?_
  rintro en wb ⟨rfl, hb1⟩
  refine ⟨_, rfl, ?_⟩
  replace HB := Aside0.mk (HB.out.trans ((hb1).mono HB.out.size))
  replace CM := Aside0.mk (Kd.C_below CM.out hb1)
  replace CL := Aside0.mk (Kd.C_below CL.out hb1)
  replace BM := Aside0.mk (BM.out.after hb1)
  replace CW := Aside0.mk (Kd.C_below CW.out hb1)
  replace CV := Aside0.mk (Kd.C_below CV.out hb1)
  replace CX := Aside0.mk (Kd.C_below CX.out hb1)
  replace BX := Aside0.mk (BX.out.after hb1)
  replace CP := Aside0.mk (Kd.C_below CP.out hb1)
  replace CD := Aside0.mk (Kd.C_below CD.out hb1)
  replace CG := Aside0.mk (Kd.C_below CG.out hb1)
  replace BG := Aside0.mk (BG.out.after hb1)
  replace CZ := Aside0.mk (Kd.C_below CZ.out hb1)
  replace BZ := Aside0.mk (BZ.out.after hb1)
  clear hb1
  refine hK.out _ _ ⟨(by rw [← HST.out]; exact (Kd.C_string (P := Try.prog) (src := 35) (dst := 9) (e := 5) (c := c5) Try.underlying35 Try.underlying5 Try.underlying9 CP.out)), (by rw [← HST.out]; exact (Kd.C_string (P := Try.prog) (src := 35) (dst := 9) (e := 5) (c := c6) Try.underlying35 Try.underlying5 Try.underlying9 CD.out)), (BX.out.cell 0), (BX.out.cell 1), (BX.out.cell 2), (BX.out.cell 3), (BX.out.cell 4), (BM.out.cell 0), (BM.out.cell 1), (BM.out.cell 2), (BM.out.cell 3), (BM.out.cell 4), (BG.out.cell 0), (BG.out.cell 1), (BG.out.cell 2), (BG.out.cell 3), (BG.out.cell 4), (BZ.out.cell 0), (BZ.out.cell 1), (BZ.out.cell 2), (BZ.out.cell 3), (BZ.out.cell 4)⟩ (fun hHeld => ?_)
  clear hK K
  refine norm_ (a' := ?_) ?_ ?_
  rotate_left
  · show Act.put _ (some 42) _ = _
    simp only [Act.put, List.setIfInBounds_toArray, List.set_cons_zero, List.set_cons_succ, i64_w, i32_w]
    rfl
  refine pure_ (i := 4) (N := some 43) (v := ?_) (a' := ?_) #[true, true, true, true, true, false, false, false, false, false, false, false, false, false, false, false, false, false, false, false, false, false, false, false, false, false, false, false, false, false, false, false, false, false, false, false, false, false, false, false, false, false, false, false, false] rfl rfl (any_of HT_.out (by kernel_rfl)) (fun _ _ _ h => h) (Or.inl ⟨by rfl, ?_⟩) ?_ ?_
  rotate_left
  · intro w'
    go_simp
    with_reducible rfl
  rotate_left
  · simp only [Act.put, List.setIfInBounds_toArray, List.set_cons_zero, List.set_cons_succ, i64_w, i32_w]
    rfl
  refine pure_ (i := 5) (N := some 44) (v := ?_) (a' := ?_) #[true, true, true, true, true, true, false, false, false, false, false, false, false, false, false, false, false, false, false, false, false, false, false, false, false, false, false, false, false, false, false, false, false, false, false, false, false, false, false, false, false, false, false, false, false] rfl rfl (any_of HT_.out (by kernel_rfl)) (fun _ _ _ h => h) (Or.inl ⟨by rfl, ?_⟩) ?_ ?_
  rotate_left
  · intro w'
    go_simp
    with_reducible rfl
  rotate_left
  · simp only [Act.put, List.setIfInBounds_toArray, List.set_cons_zero, List.set_cons_succ, i64_w, i32_w]
    rfl
  refine pure_ (i := 6) (N := some 45) (v := ?_) (a' := ?_) #[true, true, true, true, true, true, true, false, false, false, false, false, false, false, false, false, false, false, false, false, false, false, false, false, false, false, false, false, false, false, false, false, false, false, false, false, false, false, false, false, false, false, false, false, false] rfl rfl (any_of HT_.out (by kernel_rfl)) (fun _ _ _ h => h) (Or.inl ⟨by rfl, ?_⟩) ?_ ?_
  rotate_left
  · intro w'
    go_simp
    with_reducible rfl
  rotate_left
  · simp only [Act.put, List.setIfInBounds_toArray, List.set_cons_zero, List.set_cons_succ, i64_w, i32_w]
    rfl
  refine pure_ (i := 8) (N := some 47) (v := ?_) (a' := ?_) #[true, true, true, true, true, true, true, false, true, false, false, false, false, false, false, false, false, false, false, false, false, false, false, false, false, false, false, false, false, false, false, false, false, false, false, false, false, false, false, false, false, false, false, false, false] rfl rfl (any_of HT_.out (by kernel_rfl)) (fun _ _ _ h => h) (Or.inl ⟨by rfl, ?_⟩) ?_ ?_
  rotate_left
  · intro w'
    go_simp
    with_reducible rfl
  rotate_left
  · simp only [Act.put, List.setIfInBounds_toArray, List.set_cons_zero, List.set_cons_succ, i64_w, i32_w]
    rfl
  refine take_ (i := 7) (N := some 46) (v := ?_) (a' := ?_) #[true, true, true, true, true, true, true, true, true, false, false, false, false, false, false, false, false, false, false, false, false, false, false, false, false, false, false, false, false, false, false, false, false, false, false, false, false, false, false, false, false, false, false, false, false] rfl rfl (take_ofW HT_.out HW_.out (by kernel_rfl)) (fun _ _ _ h => h) (Or.inl ⟨by rfl, ?_⟩) hHeld ?_ ?_
  rotate_left
  · rintro w' ⟨s0, s1, s2, s3, s4, s5, s6, s7, s8, s9, s10, s11, s12, s13, s14, s15, s16, s17, s18, s19, s20, s21⟩
    go_simp
    with_reducible rfl
  rotate_left
  · simp only [Act.put, List.setIfInBounds_toArray, List.set_cons_zero, List.set_cons_succ, i64_w, i32_w]
    rfl
  refine take_ (i := 9) (N := some 48) (v := ?_) (a' := ?_) #[true, true, true, true, true, true, true, true, true, true, false, false, false, false, false, false, false, false, false, false, false, false, false, false, false, false, false, false, false, false, false, false, false, false, false, false, false, false, false, false, false, false, false, false, false] rfl rfl (take_ofW HT_.out HW_.out (by kernel_rfl)) (fun _ _ _ h => h) (Or.inl ⟨by rfl, ?_⟩) hHeld ?_ ?_
  rotate_left
  · rintro w' ⟨s0, s1, s2, s3, s4, s5, s6, s7, s8, s9, s10, s11, s12, s13, s14, s15, s16, s17, s18, s19, s20, s21⟩
    go_simp
    with_reducible rfl
  rotate_left
  · simp only [Act.put, List.setIfInBounds_toArray, List.set_cons_zero, List.set_cons_succ, i64_w, i32_w]
    rfl
  refine pure_ (i := 10) (N := some 49) (v := ?_) (a' := ?_) #[true, true, true, true, true, true, true, true, true, true, true, false, false, false, false, false, false, false, false, false, false, false, false, false, false, false, false, false, false, false, false, false, false, false, false, false, false, false, false, false, false, false, false, false, false] rfl rfl (any_of HT_.out (by kernel_rfl)) (fun _ _ _ h => h) (Or.inl ⟨by rfl, ?_⟩) ?_ ?_
  rotate_left
  · intro w'
    go_simp
    with_reducible rfl
  rotate_left
  · simp only [Act.put, List.setIfInBounds_toArray, List.set_cons_zero, List.set_cons_succ, i64_w, i32_w]
    rfl
  refine pure_ (i := 11) (N := some 50) (v := ?_) (a' := ?_) #[true, true, true, true, true, true, true, true, true, true, true, true, false, false, false, false, false, false, false, false, false, false, false, false, false, false, false, false, false, false, false, false, false, false, false, false, false, false, false, false, false, false, false, false, false] rfl rfl (any_of HT_.out (by kernel_rfl)) (fun _ _ _ h => h) (Or.inl ⟨by rfl, ?_⟩) ?_ ?_
  rotate_left
  · intro w'
    go_simp
    with_reducible rfl
  rotate_left
  · simp only [Act.put, List.setIfInBounds_toArray, List.set_cons_zero, List.set_cons_succ, i64_w, i32_w]
    rfl
  refine pure_ (i := 12) (N := some 51) (v := ?_) (a' := ?_) #[true, true, true, true, true, true, true, true, true, true, true, true, true, false, false, false, false, false, false, false, false, false, false, false, false, false, false, false, false, false, false, false, false, false, false, false, false, false, false, false, false, false, false, false, false] rfl rfl (any_of HT_.out (by kernel_rfl)) (fun _ _ _ h => h) (Or.inl ⟨by rfl, ?_⟩) ?_ ?_
  rotate_left
  · intro w'
    go_simp
    with_reducible rfl
  rotate_left
  · simp only [Act.put, List.setIfInBounds_toArray, List.set_cons_zero, List.set_cons_succ, i64_w, i32_w]
    rfl
  refine pure_ (i := 13) (N := some 52) (v := ?_) (a' := ?_) #[true, true, true, true, true, true, true, true, true, true, true, true, true, true, false, false, false, false, false, false, false, false, false, false, false, false, false, false, false, false, false, false, false, false, false, false, false, false, false, false, false, false, false, false, false] rfl rfl (any_of HT_.out (by kernel_rfl)) (fun _ _ _ h => h) (Or.inl ⟨by rfl, ?_⟩) ?_ ?_
  rotate_left
  · intro w'
    go_simp
    with_reducible rfl
  rotate_left
  · simp only [Act.put, List.setIfInBounds_toArray, List.set_cons_zero, List.set_cons_succ, i64_w, i32_w]
    rfl
  refine pure_ (i := 15) (N := some 54) (v := ?_) (a' := ?_) #[true, true, true, true, true, true, true, true, true, true, true, true, true, true, false, true, false, false, false, false, false, false, false, false, false, false, false, false, false, false, false, false, false, false, false, false, false, false, false, false, false, false, false, false, false] rfl rfl (any_of HT_.out (by kernel_rfl)) (fun _ _ _ h => h) (Or.inl ⟨by rfl, ?_⟩) ?_ ?_
  rotate_left
  · intro w'
    go_simp
    with_reducible rfl
  rotate_left
  · simp only [Act.put, List.setIfInBounds_toArray, List.set_cons_zero, List.set_cons_succ, i64_w, i32_w]
    rfl
  refine one_ (i := 14) (N := some 53) #[true, true, true, true, true, true, true, true, true, true, true, true, true, true, true, true, false, false, false, false, false, false, false, false, false, false, false, false, false, false, false, false, false, false, false, false, false, false, false, false, false, false, false, false, false] rfl rfl (one_of HT_.out (by kernel_rfl)) (by decide) (fun K hK => ?_)
  refine goes_ Try.func13 (by kernel_rfl) rfl #[.int .i64 de] (by rfl) rfl rfl (by simp only [List.map_toArray, List.map_cons, List.map_nil]; rfl) ?_
  with_reducible refine (weighhouselaw17_num.calls de de _ rfl).mono ?_
  rintro en wc ⟨rfl, hd1⟩
  refine ⟨_, rfl, ?_⟩
  replace HB := Aside0.mk (HB.out.trans ((hd1.below).mono HB.out.size))
  replace CM := Aside0.mk (Kd.C_below CM.out hd1.below)
  replace CL := Aside0.mk (Kd.C_below CL.out hd1.below)
  replace BM := Aside0.mk (BM.out.after hd1.below)
  replace CW := Aside0.mk (Kd.C_below CW.out hd1.below)
  replace CV := Aside0.mk (Kd.C_below CV.out hd1.below)
  replace CX := Aside0.mk (Kd.C_below CX.out hd1.below)
  replace BX := Aside0.mk (BX.out.after hd1.below)
  replace CP := Aside0.mk (Kd.C_below CP.out hd1.below)
  replace CD := Aside0.mk (Kd.C_below CD.out hd1.below)
  replace CG := Aside0.mk (Kd.C_below CG.out hd1.below)
  replace BG := Aside0.mk (BG.out.after hd1.below)
  replace CZ := Aside0.mk (Kd.C_below CZ.out hd1.below)
  replace BZ := Aside0.mk (BZ.out.after hd1.below)
  clear hd1
  refine hK.out _ _ ⟨(by rw [← HST.out]; exact (Kd.C_string (P := Try.prog) (src := 35) (dst := 9) (e := 5) (c := c5) Try.underlying35 Try.underlying5 Try.underlying9 CP.out)), (by rw [← HST.out]; exact (Kd.C_string (P := Try.prog) (src := 35) (dst := 9) (e := 5) (c := c6) Try.underlying35 Try.underlying5 Try.underlying9 CD.out)), (BX.out.cell 0), (BX.out.cell 1), (BX.out.cell 2), (BX.out.cell 3), (BX.out.cell 4), (BM.out.cell 0), (BM.out.cell 1), (BM.out.cell 2), (BM.out.cell 3), (BM.out.cell 4), (BG.out.cell 0), (BG.out.cell 1), (BG.out.cell 2), (BG.out.cell 3), (BG.out.cell 4), (BZ.out.cell 0), (BZ.out.cell 1), (BZ.out.cell 2), (BZ.out.cell 3), (BZ.out.cell 4)⟩ (fun hHeld => ?_)
  clear hK K
  refine norm_ (a' := ?_) ?_ ?_
  rotate_left
  · show Act.put _ (some 53) _ = _
    simp only [Act.put, List.setIfInBounds_toArray, List.set_cons_zero, List.set_cons_succ, i64_w, i32_w]
    rfl
  refine pure_ (i := 16) (N := some 55) (v := ?_) (a' := ?_) #[true, true, true, true, true, true, true, true, true, true, true, true, true, true, true, true, true, false, false, false, false, false, false, false, false, false, false, false, false, false, false, false, false, false, false, false, false, false, false, false, false, false, false, false, false] rfl rfl (any_of HT_.out (by kernel_rfl)) (fun _ _ _ h => h) (Or.inl ⟨by rfl, ?_⟩) ?_ ?_
  rotate_left
  · intro w'
    go_simp
    with_reducible rfl
  rotate_left
  · simp only [Act.put, List.setIfInBounds_toArray, List.set_cons_zero, List.set_cons_succ, i64_w, i32_w]
    rfl
  refine pure_ (i := 17) (N := some 56) (v := ?_) (a' := ?_) #[true, true, true, true, true, true, true, true, true, true, true, true, true, true, true, true, true, true, false, false, false, false, false, false, false, false, false, false, false, false, false, false, false, false, false, false, false, false, false, false, false, false, false, false, false] rfl rfl (any_of HT_.out (by kernel_rfl)) (fun _ _ _ h => h) (Or.inl ⟨by rfl, ?_⟩) ?_ ?_
  rotate_left
  · intro w'
    go_simp
    with_reducible rfl
  rotate_left
  · simp only [Act.put, List.setIfInBounds_toArray, List.set_cons_zero, List.set_cons_succ, i64_w, i32_w]
    rfl
  refine pure_ (i := 18) (N := some 57) (v := ?_) (a' := ?_) #[true, true, true, true, true, true, true, true, true, true, true, true, true, true, true, true, true, true, true, false, false, false, false, false, false, false, false, false, false, false, false, false, false, false, false, false, false, false, false, false, false, false, false, false, false] rfl rfl (any_of HT_.out (by kernel_rfl)) (fun _ _ _ h => h) (Or.inl ⟨by rfl, ?_⟩) ?_ ?_
  rotate_left
  · intro w'
    go_simp
    with_reducible rfl
  rotate_left
  · simp only [Act.put, List.setIfInBounds_toArray, List.set_cons_zero, List.set_cons_succ, i64_w, i32_w]
    rfl
  refine take_ (i := 19) (N := some 58) (v := ?_) (a' := ?_) #[true, true, true, true, true, true, true, true, true, true, true, true, true, true, true, true, true, true, true, true, false, false, false, false, false, false, false, false, false, false, false, false, false, false, false, false, false, false, false, false, false, false, false, false, false] rfl rfl (take_ofW HT_.out HW_.out (by kernel_rfl)) (fun _ _ _ h => h) (Or.inl ⟨by rfl, ?_⟩) hHeld ?_ ?_
  rotate_left
  · rintro w' ⟨s0, s1, s2, s3, s4, s5, s6, s7, s8, s9, s10, s11, s12, s13, s14, s15, s16, s17, s18, s19, s20, s21⟩
    go_simp
    with_reducible rfl
  rotate_left
  · simp only [Act.put, List.setIfInBounds_toArray, List.set_cons_zero, List.set_cons_succ, i64_w, i32_w]
    rfl
  refine take_ (i := 20) (N := some 59) (v := ?_) (a' := ?_) #[true, true, true, true, true, true, true, true, true, true, true, true, true, true, true, true, true, true, true, true, true, false, false, false, false, false, false, false, false, false, false, false, false, false, false, false, false, false, false, false, false, false, false, false, false] rfl rfl (take_ofW HT_.out HW_.out (by kernel_rfl)) (fun _ _ _ h => h) (Or.inl ⟨by rfl, ?_⟩) hHeld ?_ ?_
  rotate_left
  · rintro w' ⟨s0, s1, s2, s3, s4, s5, s6, s7, s8, s9, s10, s11, s12, s13, s14, s15, s16, s17, s18, s19, s20, s21⟩
    go_simp
    with_reducible rfl
  rotate_left
  · simp only [Act.put, List.setIfInBounds_toArray, List.set_cons_zero, List.set_cons_succ, i64_w, i32_w]
    rfl
  refine one_ (i := 21) (N := some 60) #[true, true, true, true, true, true, true, true, true, true, true, true, true, true, true, true, true, true, true, true, true, true, false, false, false, false, false, false, false, false, false, false, false, false, false, false, false, false, false, false, false, false, false, false, false] rfl rfl (one_of HT_.out (by kernel_rfl)) (by decide) (fun K hK => ?_)
  refine goes_ Try.func16 (by kernel_rfl) rfl #[.agg #[.int .i64 z0, .int .i64 z1, .int .i64 z2, .int .i64 z3, .slice A9 zl.length c9]] (by rfl) rfl rfl (by simp only [List.map_toArray, List.map_cons, List.map_nil]; rfl) ?_
  with_reducible refine (weighhouselaw17_Record.calls k z0 z1 z2 z3 A9 c9 zl g0 g1 g2 g3 gl _ CZ.out hc9 HZZ.out).mono ?_
  rintro en we ⟨vb, rfl, hRb, hb2⟩
  refine ⟨_, rfl, ?_⟩
  replace HB := Aside0.mk (HB.out.trans ((hb2).mono HB.out.size))
  replace CM := Aside0.mk (Kd.C_below CM.out hb2)
  replace CL := Aside0.mk (Kd.C_below CL.out hb2)
  replace BM := Aside0.mk (BM.out.after hb2)
  replace CW := Aside0.mk (Kd.C_below CW.out hb2)
  replace CV := Aside0.mk (Kd.C_below CV.out hb2)
  replace CX := Aside0.mk (Kd.C_below CX.out hb2)
  replace BX := Aside0.mk (BX.out.after hb2)
  replace CP := Aside0.mk (Kd.C_below CP.out hb2)
  replace CD := Aside0.mk (Kd.C_below CD.out hb2)
  replace CG := Aside0.mk (Kd.C_below CG.out hb2)
  replace BG := Aside0.mk (BG.out.after hb2)
  replace CZ := Aside0.mk (Kd.C_below CZ.out hb2)
  replace BZ := Aside0.mk (BZ.out.after hb2)
  obtain ⟨Ab, cb, rfl, hcb, hCb⟩ := Kd.R_reads hRb
  have CY := Aside0.mk (hCb)
  clear hRb hCb hb2
  refine hK.out _ _ ⟨(by rw [← HST.out]; exact (Kd.C_string (P := Try.prog) (src := 35) (dst := 9) (e := 5) (c := c5) Try.underlying35 Try.underlying5 Try.underlying9 CP.out)), (by rw [← HST.out]; exact (Kd.C_string (P := Try.prog) (src := 35) (dst := 9) (e := 5) (c := c6) Try.underlying35 Try.underlying5 Try.underlying9 CD.out)), (BX.out.cell 0), (BX.out.cell 1), (BX.out.cell 2), (BX.out.cell 3), (BX.out.cell 4), (BM.out.cell 0), (BM.out.cell 1), (BM.out.cell 2), (BM.out.cell 3), (BM.out.cell 4), (BG.out.cell 0), (BG.out.cell 1), (BG.out.cell 2), (BG.out.cell 3), (BG.out.cell 4), (BZ.out.cell 0), (BZ.out.cell 1), (BZ.out.cell 2), (BZ.out.cell 3), (BZ.out.cell 4)⟩ (fun hHeld => ?_)
  clear hK K
  refine norm_ (a' := ?_) ?_ ?_
  rotate_left
  · show Act.put _ (some 60) _ = _
    simp only [Act.put, List.setIfInBounds_toArray, List.set_cons_zero, List.set_cons_succ, i64_w, i32_w]
    rfl
  refine one_ (i := 22) (N := some 61) #[true, true, true, true, true, true, true, true, true, true, true, true, true, true, true, true, true, true, true, true, true, true, true, false, false, false, false, false, false, false, false, false, false, false, false, false, false, false, false, false, false, false, false, false, false] rfl rfl (one_of HT_.out (by kernel_rfl)) (by decide) (fun K hK => ?_)
  refine goes_ Try.func23 (by kernel_rfl) rfl #[.agg #[.int .i64 g0, .int .i64 g1, .int .i64 g2, .int .i64 g3, .slice A7 gl.length c7], .agg #[.int .i64 g0, .int .i64 g1, .int .i64 g2, .int .i64 g3, .slice Ab gl.length cb]] (by rfl) rfl rfl (by simp only [List.map_toArray, List.map_cons, List.map_nil]; rfl) ?_
  with_reducible refine (weighhouselaw17_MessageRecords.same k g0 g1 g2 g3 A7 Ab c7 cb gl _ CG.out hc7 CY.out hcb HS.out).mono ?_
  rintro en wf ⟨rfl, hb3⟩
  refine ⟨_, rfl, ?_⟩
  replace HB := Aside0.mk (HB.out.trans ((hb3).mono HB.out.size))
  replace CM := Aside0.mk (Kd.C_below CM.out hb3)
  replace CL := Aside0.mk (Kd.C_below CL.out hb3)
  replace BM := Aside0.mk (BM.out.after hb3)
  replace CW := Aside0.mk (Kd.C_below CW.out hb3)
  replace CV := Aside0.mk (Kd.C_below CV.out hb3)
  replace CX := Aside0.mk (Kd.C_below CX.out hb3)
  replace BX := Aside0.mk (BX.out.after hb3)
  replace CP := Aside0.mk (Kd.C_below CP.out hb3)
  replace CD := Aside0.mk (Kd.C_below CD.out hb3)
  replace CG := Aside0.mk (Kd.C_below CG.out hb3)
  replace BG := Aside0.mk (BG.out.after hb3)
  replace CZ := Aside0.mk (Kd.C_below CZ.out hb3)
  replace BZ := Aside0.mk (BZ.out.after hb3)
  replace CY := Aside0.mk (Kd.C_below CY.out hb3)
  clear hb3
  refine hK.out _ _ ⟨(by rw [← HST.out]; exact (Kd.C_string (P := Try.prog) (src := 35) (dst := 9) (e := 5) (c := c5) Try.underlying35 Try.underlying5 Try.underlying9 CP.out)), (by rw [← HST.out]; exact (Kd.C_string (P := Try.prog) (src := 35) (dst := 9) (e := 5) (c := c6) Try.underlying35 Try.underlying5 Try.underlying9 CD.out)), (BX.out.cell 0), (BX.out.cell 1), (BX.out.cell 2), (BX.out.cell 3), (BX.out.cell 4), (BM.out.cell 0), (BM.out.cell 1), (BM.out.cell 2), (BM.out.cell 3), (BM.out.cell 4), (BG.out.cell 0), (BG.out.cell 1), (BG.out.cell 2), (BG.out.cell 3), (BG.out.cell 4), (BZ.out.cell 0), (BZ.out.cell 1), (BZ.out.cell 2), (BZ.out.cell 3), (BZ.out.cell 4)⟩ (fun hHeld => ?_)
  clear hK K
  refine norm_ (a' := ?_) ?_ ?_
  rotate_left
  · show Act.put _ (some 61) _ = _
    simp only [Act.put, List.setIfInBounds_toArray, List.set_cons_zero, List.set_cons_succ, i64_w, i32_w]
    rfl
  refine pure_ (i := 23) (N := some 62) (v := ?_) (a' := ?_) #[true, true, true, true, true, true, true, true, true, true, true, true, true, true, true, true, true, true, true, true, true, true, true, true, false, false, false, false, false, false, false, false, false, false, false, false, false, false, false, false, false, false, false, false, false] rfl rfl (any_of HT_.out (by kernel_rfl)) (fun _ _ _ h => h) (Or.inl ⟨by rfl, ?_⟩) ?_ ?_
  rotate_left
  · intro w'
    go_simp
    with_reducible rfl
  rotate_left
  · simp only [Act.put, List.setIfInBounds_toArray, List.set_cons_zero, List.set_cons_succ, i64_w, i32_w]
    rfl
  refine pure_ (i := 24) (N := some 63) (v := ?_) (a' := ?_) #[true, true, true, true, true, true, true, true, true, true, true, true, true, true, true, true, true, true, true, true, true, true, true, true, true, false, false, false, false, false, false, false, false, false, false, false, false, false, false, false, false, false, false, false, false] rfl rfl (any_of HT_.out (by kernel_rfl)) (fun _ _ _ h => h) (Or.inl ⟨by rfl, ?_⟩) ?_ ?_
  rotate_left
  · intro w'
    go_simp
    with_reducible rfl
  rotate_left
  · simp only [Act.put, List.setIfInBounds_toArray, List.set_cons_zero, List.set_cons_succ, i64_w, i32_w]
    rfl
  refine pure_ (i := 25) (N := some 64) (v := ?_) (a' := ?_) #[true, true, true, true, true, true, true, true, true, true, true, true, true, true, true, true, true, true, true, true, true, true, true, true, true, true, false, false, false, false, false, false, false, false, false, false, false, false, false, false, false, false, false, false, false] rfl rfl (any_of HT_.out (by kernel_rfl)) (fun _ _ _ h => h) (Or.inl ⟨by rfl, ?_⟩) ?_ ?_
  rotate_left
  · intro w'
    go_simp
    with_reducible rfl
  rotate_left
  · simp only [Act.put, List.setIfInBounds_toArray, List.set_cons_zero, List.set_cons_succ, i64_w, i32_w]
    rfl
  refine pure_ (i := 27) (N := some 66) (v := ?_) (a' := ?_) #[true, true, true, true, true, true, true, true, true, true, true, true, true, true, true, true, true, true, true, true, true, true, true, true, true, true, false, true, false, false, false, false, false, false, false, false, false, false, false, false, false, false, false, false, false] rfl rfl (any_of HT_.out (by kernel_rfl)) (fun _ _ _ h => h) (Or.inl ⟨by rfl, ?_⟩) ?_ ?_
  rotate_left
  · intro w'
    go_simp
    with_reducible rfl
  rotate_left
  · simp only [Act.put, List.setIfInBounds_toArray, List.set_cons_zero, List.set_cons_succ, i64_w, i32_w]
    rfl
  refine one_ (i := 26) (N := some 65) #[true, true, true, true, true, true, true, true, true, true, true, true, true, true, true, true, true, true, true, true, true, true, true, true, true, true, true, true, false, false, false, false, false, false, false, false, false, false, false, false, false, false, false, false, false] rfl rfl (one_of HT_.out (by kernel_rfl)) (by decide) (fun K hK => ?_)
  refine goes_ Try.func13 (by kernel_rfl) rfl #[.int .i64 ge] (by rfl) rfl rfl (by simp only [List.map_toArray, List.map_cons, List.map_nil]; rfl) ?_
  with_reducible refine (weighhouselaw17_num.calls ge ge _ rfl).mono ?_
  rintro en wg ⟨rfl, hd1⟩
  refine ⟨_, rfl, ?_⟩
  replace HB := Aside0.mk (HB.out.trans ((hd1.below).mono HB.out.size))
  replace CM := Aside0.mk (Kd.C_below CM.out hd1.below)
  replace CL := Aside0.mk (Kd.C_below CL.out hd1.below)
  replace BM := Aside0.mk (BM.out.after hd1.below)
  replace CW := Aside0.mk (Kd.C_below CW.out hd1.below)
  replace CV := Aside0.mk (Kd.C_below CV.out hd1.below)
  replace CX := Aside0.mk (Kd.C_below CX.out hd1.below)
  replace BX := Aside0.mk (BX.out.after hd1.below)
  replace CP := Aside0.mk (Kd.C_below CP.out hd1.below)
  replace CD := Aside0.mk (Kd.C_below CD.out hd1.below)
  replace CG := Aside0.mk (Kd.C_below CG.out hd1.below)
  replace BG := Aside0.mk (BG.out.after hd1.below)
  replace CZ := Aside0.mk (Kd.C_below CZ.out hd1.below)
  replace BZ := Aside0.mk (BZ.out.after hd1.below)
  replace CY := Aside0.mk (Kd.C_below CY.out hd1.below)
  clear hd1
  refine hK.out _ _ ⟨(by rw [← HST.out]; exact (Kd.C_string (P := Try.prog) (src := 35) (dst := 9) (e := 5) (c := c5) Try.underlying35 Try.underlying5 Try.underlying9 CP.out)), (by rw [← HST.out]; exact (Kd.C_string (P := Try.prog) (src := 35) (dst := 9) (e := 5) (c := c6) Try.underlying35 Try.underlying5 Try.underlying9 CD.out)), (BX.out.cell 0), (BX.out.cell 1), (BX.out.cell 2), (BX.out.cell 3), (BX.out.cell 4), (BM.out.cell 0), (BM.out.cell 1), (BM.out.cell 2), (BM.out.cell 3), (BM.out.cell 4), (BG.out.cell 0), (BG.out.cell 1), (BG.out.cell 2), (BG.out.cell 3), (BG.out.cell 4), (BZ.out.cell 0), (BZ.out.cell 1), (BZ.out.cell 2), (BZ.out.cell 3), (BZ.out.cell 4)⟩ (fun hHeld => ?_)
  clear hK K
  refine norm_ (a' := ?_) ?_ ?_
  rotate_left
  · show Act.put _ (some 65) _ = _
    simp only [Act.put, List.setIfInBounds_toArray, List.set_cons_zero, List.set_cons_succ, i64_w, i32_w]
    rfl
  refine pure_ (i := 28) (N := some 67) (v := ?_) (a' := ?_) #[true, true, true, true, true, true, true, true, true, true, true, true, true, true, true, true, true, true, true, true, true, true, true, true, true, true, true, true, true, false, false, false, false, false, false, false, false, false, false, false, false, false, false, false, false] rfl rfl (any_of HT_.out (by kernel_rfl)) (fun _ _ _ h => h) (Or.inl ⟨by rfl, ?_⟩) ?_ ?_
  rotate_left
  · intro w'
    go_simp
    with_reducible rfl
  rotate_left
  · simp only [Act.put, List.setIfInBounds_toArray, List.set_cons_zero, List.set_cons_succ, i64_w, i32_w]
    rfl
  refine pure_ (i := 29) (N := some 68) (v := ?_) (a' := ?_) #[true, true, true, true, true, true, true, true, true, true, true, true, true, true, true, true, true, true, true, true, true, true, true, true, true, true, true, true, true, true, false, false, false, false, false, false, false, false, false, false, false, false, false, false, false] rfl rfl (any_of HT_.out (by kernel_rfl)) (fun _ _ _ h => h) (Or.inl ⟨by rfl, ?_⟩) ?_ ?_
  rotate_left
  · intro w'
    go_simp
    with_reducible rfl
  rotate_left
  · simp only [Act.put, List.setIfInBounds_toArray, List.set_cons_zero, List.set_cons_succ, i64_w, i32_w]
    rfl
  refine pure_ (i := 30) (N := some 69) (v := ?_) (a' := ?_) #[true, true, true, true, true, true, true, true, true, true, true, true, true, true, true, true, true, true, true, true, true, true, true, true, true, true, true, true, true, true, true, false, false, false, false, false, false, false, false, false, false, false, false, false, false] rfl rfl (any_of HT_.out (by kernel_rfl)) (fun _ _ _ h => h) (Or.inl ⟨by rfl, ?_⟩) ?_ ?_
  rotate_left
  · intro w'
    go_simp
    with_reducible rfl
  rotate_left
  · simp only [Act.put, List.setIfInBounds_toArray, List.set_cons_zero, List.set_cons_succ, i64_w, i32_w]
    rfl
  refine take_ (i := 31) (N := some 70) (v := ?_) (a' := ?_) #[true, true, true, true, true, true, true, true, true, true, true, true, true, true, true, true, true, true, true, true, true, true, true, true, true, true, true, true, true, true, true, true, false, false, false, false, false, false, false, false, false, false, false, false, false] rfl rfl (take_ofW HT_.out HW_.out (by kernel_rfl)) (fun _ _ _ h => h) (Or.inl ⟨by rfl, ?_⟩) hHeld ?_ ?_
  rotate_left
  · rintro w' ⟨s0, s1, s2, s3, s4, s5, s6, s7, s8, s9, s10, s11, s12, s13, s14, s15, s16, s17, s18, s19, s20, s21⟩
    go_simp
    with_reducible rfl
  rotate_left
  · simp only [Act.put, List.setIfInBounds_toArray, List.set_cons_zero, List.set_cons_succ, i64_w, i32_w]
    rfl
  refine take_ (i := 32) (N := some 71) (v := ?_) (a' := ?_) #[true, true, true, true, true, true, true, true, true, true, true, true, true, true, true, true, true, true, true, true, true, true, true, true, true, true, true, true, true, true, true, true, true, false, false, false, false, false, false, false, false, false, false, false, false] rfl rfl (take_ofW HT_.out HW_.out (by kernel_rfl)) (fun _ _ _ h => h) (Or.inl ⟨by rfl, ?_⟩) hHeld ?_ ?_
  rotate_left
  · rintro w' ⟨s0, s1, s2, s3, s4, s5, s6, s7, s8, s9, s10, s11, s12, s13, s14, s15, s16, s17, s18, s19, s20, s21⟩
    go_simp
    with_reducible rfl
  rotate_left
  · simp only [Act.put, List.setIfInBounds_toArray, List.set_cons_zero, List.set_cons_succ, i64_w, i32_w]
    rfl
  refine one_ (i := 33) (N := some 72) #[true, true, true, true, true, true, true, true, true, true, true, true, true, true, true, true, true, true, true, true, true, true, true, true, true, true, true, true, true, true, true, true, true, true, false, false, false, false, false, false, false, false, false, false, false] rfl rfl (one_of HT_.out (by kernel_rfl)) (by decide) (fun K hK => ?_)
  refine goes_ Try.func16 (by kernel_rfl) rfl #[.agg #[.int .i64 a0_0, .int .i64 a0_1, .int .i64 a0_2, .int .i64 a0_3, .slice A0_4 l0_4.length c0_4]] (by rfl) rfl rfl (by simp only [List.map_toArray, List.map_cons, List.map_nil]; rfl) ?_
  with_reducible refine (weighhouselaw17_Record.calls k a0_0 a0_1 a0_2 a0_3 A0_4 c0_4 l0_4 x0 x1 x2 x3 xl _ CM.out hc0_4 HM.out).mono ?_
  rintro en wh ⟨vc, rfl, hRc, hb2⟩
  refine ⟨_, rfl, ?_⟩
  replace HB := Aside0.mk (HB.out.trans ((hb2).mono HB.out.size))
  replace CM := Aside0.mk (Kd.C_below CM.out hb2)
  replace CL := Aside0.mk (Kd.C_below CL.out hb2)
  replace BM := Aside0.mk (BM.out.after hb2)
  replace CW := Aside0.mk (Kd.C_below CW.out hb2)
  replace CV := Aside0.mk (Kd.C_below CV.out hb2)
  replace CX := Aside0.mk (Kd.C_below CX.out hb2)
  replace BX := Aside0.mk (BX.out.after hb2)
  replace CP := Aside0.mk (Kd.C_below CP.out hb2)
  replace CD := Aside0.mk (Kd.C_below CD.out hb2)
  replace CG := Aside0.mk (Kd.C_below CG.out hb2)
  replace BG := Aside0.mk (BG.out.after hb2)
  replace CZ := Aside0.mk (Kd.C_below CZ.out hb2)
  replace BZ := Aside0.mk (BZ.out.after hb2)
  replace CY := Aside0.mk (Kd.C_below CY.out hb2)
  obtain ⟨Ac, cc, rfl, hcc, hCc⟩ := Kd.R_reads hRc
  have CX2 := Aside0.mk (hCc)
  clear hRc hCc hb2
  refine hK.out _ _ ⟨(by rw [← HST.out]; exact (Kd.C_string (P := Try.prog) (src := 35) (dst := 9) (e := 5) (c := c5) Try.underlying35 Try.underlying5 Try.underlying9 CP.out)), (by rw [← HST.out]; exact (Kd.C_string (P := Try.prog) (src := 35) (dst := 9) (e := 5) (c := c6) Try.underlying35 Try.underlying5 Try.underlying9 CD.out)), (BX.out.cell 0), (BX.out.cell 1), (BX.out.cell 2), (BX.out.cell 3), (BX.out.cell 4), (BM.out.cell 0), (BM.out.cell 1), (BM.out.cell 2), (BM.out.cell 3), (BM.out.cell 4), (BG.out.cell 0), (BG.out.cell 1), (BG.out.cell 2), (BG.out.cell 3), (BG.out.cell 4), (BZ.out.cell 0), (BZ.out.cell 1), (BZ.out.cell 2), (BZ.out.cell 3), (BZ.out.cell 4)⟩ (fun hHeld => ?_)
  clear hK K
  refine norm_ (a' := ?_) ?_ ?_
  rotate_left
  · show Act.put _ (some 72) _ = _
    simp only [Act.put, List.setIfInBounds_toArray, List.set_cons_zero, List.set_cons_succ, i64_w, i32_w]
    rfl
  refine last_ (i := 34) (N := some 73) #[true, true, true, true, true, true, true, true, true, true, true, true, true, true, true, true, true, true, true, true, true, true, true, true, true, true, true, true, true, true, true, true, true, true, true, false, false, false, false, false, false, false, false, false, false] rfl rfl (one_of HT_.out (by kernel_rfl)) (by decide) (fun K hK => ?_)
  refine goes_ Try.func23 (by kernel_rfl) rfl #[.agg #[.int .i64 x0, .int .i64 x1, .int .i64 x2, .int .i64 x3, .slice A3 xl.length c3], .agg #[.int .i64 x0, .int .i64 x1, .int .i64 x2, .int .i64 x3, .slice Ac xl.length cc]] (by rfl) rfl rfl (by simp only [List.map_toArray, List.map_cons, List.map_nil]; rfl) ?_
  with_reducible refine (weighhouselaw17_MessageRecords.same k x0 x1 x2 x3 A3 Ac c3 cc xl _ CX.out hc3 CX2.out hcc HT.out).mono ?_
  rintro en wi ⟨rfl, hb3⟩
  refine ⟨_, rfl, ?_⟩
  replace HB := Aside0.mk (HB.out.trans ((hb3).mono HB.out.size))
  replace CM := Aside0.mk (Kd.C_below CM.out hb3)
  replace CL := Aside0.mk (Kd.C_below CL.out hb3)
  replace BM := Aside0.mk (BM.out.after hb3)
  replace CW := Aside0.mk (Kd.C_below CW.out hb3)
  replace CV := Aside0.mk (Kd.C_below CV.out hb3)
  replace CX := Aside0.mk (Kd.C_below CX.out hb3)
  replace BX := Aside0.mk (BX.out.after hb3)
  replace CP := Aside0.mk (Kd.C_below CP.out hb3)
  replace CD := Aside0.mk (Kd.C_below CD.out hb3)
  replace CG := Aside0.mk (Kd.C_below CG.out hb3)
  replace BG := Aside0.mk (BG.out.after hb3)
  replace CZ := Aside0.mk (Kd.C_below CZ.out hb3)
  replace BZ := Aside0.mk (BZ.out.after hb3)
  replace CY := Aside0.mk (Kd.C_below CY.out hb3)
  replace CX2 := Aside0.mk (Kd.C_below CX2.out hb3)
  clear hb3
  refine hK.out _ _ ?_
  clear hK K
  refine norm_ (a' := ?_) ?_ ?_
  rotate_left
  · show Act.put _ (some 73) _ = _
    simp only [Act.put, List.setIfInBounds_toArray, List.set_cons_zero, List.set_cons_succ, i64_w, i32_w]
    rfl
  refine pure_ (i := 35) (N := some 74) (v := ?_) (a' := ?_) #[true, true, true, true, true, true, true, true, true, true, true, true, true, true, true, true, true, true, true, true, true, true, true, true, true, true, true, true, true, true, true, true, true, true, true, true, false, false, false, false, false, false, false, false, false] rfl rfl (any_of HT_.out (by kernel_rfl)) (fun _ _ _ h => h) (Or.inl ⟨by rfl, ?_⟩) ?_ ?_
  rotate_left
  · intro w'
    go_simp
    with_reducible rfl
  rotate_left
  · simp only [Act.put, List.setIfInBounds_toArray, List.set_cons_zero, List.set_cons_succ, i64_w, i32_w]
    rfl
  refine pure_ (i := 36) (N := some 75) (v := ?_) (a' := ?_) #[true, true, true, true, true, true, true, true, true, true, true, true, true, true, true, true, true, true, true, true, true, true, true, true, true, true, true, true, true, true, true, true, true, true, true, true, true, false, false, false, false, false, false, false, false] rfl rfl (any_of HT_.out (by kernel_rfl)) (fun _ _ _ h => h) (Or.inl ⟨by rfl, ?_⟩) ?_ ?_
  rotate_left
  · intro w'
    go_simp
    with_reducible rfl
  rotate_left
  · simp only [Act.put, List.setIfInBounds_toArray, List.set_cons_zero, List.set_cons_succ, i64_w, i32_w]
    rfl
  refine pure_ (i := 37) (N := some 76) (v := ?_) (a' := ?_) #[true, true, true, true, true, true, true, true, true, true, true, true, true, true, true, true, true, true, true, true, true, true, true, true, true, true, true, true, true, true, true, true, true, true, true, true, true, true, false, false, false, false, false, false, false] rfl rfl (any_of HT_.out (by kernel_rfl)) (fun _ _ _ h => h) (Or.inl ⟨by rfl, ?_⟩) ?_ ?_
  rotate_left
  · intro w'
    go_simp
    with_reducible rfl
  rotate_left
  · simp only [Act.put, List.setIfInBounds_toArray, List.set_cons_zero, List.set_cons_succ, i64_w, i32_w]
    rfl
  refine pure_ (i := 38) (N := some 77) (v := ?_) (a' := ?_) #[true, true, true, true, true, true, true, true, true, true, true, true, true, true, true, true, true, true, true, true, true, true, true, true, true, true, true, true, true, true, true, true, true, true, true, true, true, true, true, false, false, false, false, false, false] rfl rfl (any_of HT_.out (by kernel_rfl)) (fun _ _ _ h => h) (Or.inl ⟨by rfl, ?_⟩) ?_ ?_
  rotate_left
  · intro w'
    go_simp
    with_reducible rfl
  rotate_left
  · simp only [Act.put, List.setIfInBounds_toArray, List.set_cons_zero, List.set_cons_succ, i64_w, i32_w]
    rfl
  refine last_ (i := 39) (N := some 78) #[true, true, true, true, true, true, true, true, true, true, true, true, true, true, true, true, true, true, true, true, true, true, true, true, true, true, true, true, true, true, true, true, true, true, true, true, true, true, true, true, false, false, false, false, false] rfl rfl (one_of HT_.out (by kernel_rfl)) (by decide) (fun K hK => ?_)
  refine goes_ Try.func24 (by kernel_rfl) rfl #[.slice A2 l1.length c2, .slice A1 l1.length c1] (by rfl) rfl rfl (by simp only [List.map_toArray, List.map_cons, List.map_nil]; rfl) ?_
  with_reducible refine (weighhouselaw01_Stays.calls A2 c2 l1 A1 c1 _ CW.out hroom CL.out hc1).mono ?_
  rintro en wj ⟨rfl, hb3⟩
  refine ⟨_, rfl, ?_⟩
  replace HB := Aside0.mk (HB.out.trans ((hb3).mono HB.out.size))
  replace CM := Aside0.mk (Kd.C_below CM.out hb3)
  replace CL := Aside0.mk (Kd.C_below CL.out hb3)
  replace BM := Aside0.mk (BM.out.after hb3)
  replace CW := Aside0.mk (Kd.C_below CW.out hb3)
  replace CV := Aside0.mk (Kd.C_below CV.out hb3)
  replace CX := Aside0.mk (Kd.C_below CX.out hb3)
  replace BX := Aside0.mk (BX.out.after hb3)
  replace CP := Aside0.mk (Kd.C_below CP.out hb3)
  replace CD := Aside0.mk (Kd.C_below CD.out hb3)
  replace CG := Aside0.mk (Kd.C_below CG.out hb3)
  replace BG := Aside0.mk (BG.out.after hb3)
  replace CZ := Aside0.mk (Kd.C_below CZ.out hb3)
  replace BZ := Aside0.mk (BZ.out.after hb3)
  replace CY := Aside0.mk (Kd.C_below CY.out hb3)
  replace CX2 := Aside0.mk (Kd.C_below CX2.out hb3)
  clear hb3
  refine hK.out _ _ ?_
  clear hK K
  refine norm_ (a' := ?_) ?_ ?_
  rotate_left
  · show Act.put _ (some 78) _ = _
    simp only [Act.put, List.setIfInBounds_toArray, List.set_cons_zero, List.set_cons_succ, i64_w, i32_w]
    rfl
  refine pure_ (i := 40) (N := some 79) (v := ?_) (a' := ?_) #[true, true, true, true, true, true, true, true, true, true, true, true, true, true, true, true, true, true, true, true, true, true, true, true, true, true, true, true, true, true, true, true, true, true, true, true, true, true, true, true, true, false, false, false, false] rfl rfl (any_of HT_.out (by kernel_rfl)) (fun _ _ _ h => h) (Or.inl ⟨by rfl, ?_⟩) ?_ ?_
  rotate_left
  · intro w'
    go_simp
    with_reducible rfl
  rotate_left
  · simp only [Act.put, List.setIfInBounds_toArray, List.set_cons_zero, List.set_cons_succ, i64_w, i32_w]
    rfl
  refine pure_ (i := 41) (N := some 80) (v := ?_) (a' := ?_) #[true, true, true, true, true, true, true, true, true, true, true, true, true, true, true, true, true, true, true, true, true, true, true, true, true, true, true, true, true, true, true, true, true, true, true, true, true, true, true, true, true, true, false, false, false] rfl rfl (any_of HT_.out (by kernel_rfl)) (fun _ _ _ h => h) (Or.inl ⟨by rfl, ?_⟩) ?_ ?_
  rotate_left
  · intro w'
    go_simp
    with_reducible rfl
  rotate_left
  · simp only [Act.put, List.setIfInBounds_toArray, List.set_cons_zero, List.set_cons_succ, i64_w, i32_w]
    rfl
  refine last_ (i := 42) (N := some 81) #[true, true, true, true, true, true, true, true, true, true, true, true, true, true, true, true, true, true, true, true, true, true, true, true, true, true, true, true, true, true, true, true, true, true, true, true, true, true, true, true, true, true, true, false, false] rfl rfl (one_of HT_.out (by kernel_rfl)) (by decide) (fun K hK => ?_)
  refine goes_ Try.func10 (by kernel_rfl) rfl #[] (by rfl) rfl rfl (by simp only [List.map_toArray, List.map_cons, List.map_nil]) ?_
  with_reducible refine (weighhouselaw17_knows.calls true _ rfl).mono ?_
  rintro en wk ⟨rfl, hb3⟩
  refine ⟨_, rfl, ?_⟩
  replace HB := Aside0.mk (HB.out.trans ((hb3).mono HB.out.size))
  replace CM := Aside0.mk (Kd.C_below CM.out hb3)
  replace CL := Aside0.mk (Kd.C_below CL.out hb3)
  replace BM := Aside0.mk (BM.out.after hb3)
  replace CW := Aside0.mk (Kd.C_below CW.out hb3)
  replace CV := Aside0.mk (Kd.C_below CV.out hb3)
  replace CX := Aside0.mk (Kd.C_below CX.out hb3)
  replace BX := Aside0.mk (BX.out.after hb3)
  replace CP := Aside0.mk (Kd.C_below CP.out hb3)
  replace CD := Aside0.mk (Kd.C_below CD.out hb3)
  replace CG := Aside0.mk (Kd.C_below CG.out hb3)
  replace BG := Aside0.mk (BG.out.after hb3)
  replace CZ := Aside0.mk (Kd.C_below CZ.out hb3)
  replace BZ := Aside0.mk (BZ.out.after hb3)
  replace CY := Aside0.mk (Kd.C_below CY.out hb3)
  replace CX2 := Aside0.mk (Kd.C_below CX2.out hb3)
  clear hb3
  refine hK.out _ _ ?_
  clear hK K
  refine norm_ (a' := ?_) ?_ ?_
  rotate_left
  · show Act.put _ (some 81) _ = _
    simp only [Act.put, List.setIfInBounds_toArray, List.set_cons_zero, List.set_cons_succ, i64_w, i32_w]
    rfl
  refine pure_ (i := 43) (N := some 82) (v := ?_) (a' := ?_) #[true, true, true, true, true, true, true, true, true, true, true, true, true, true, true, true, true, true, true, true, true, true, true, true, true, true, true, true, true, true, true, true, true, true, true, true, true, true, true, true, true, true, true, true, false] rfl rfl (any_of HT_.out (by kernel_rfl)) (fun _ _ _ h => h) (Or.inl ⟨by rfl, ?_⟩) ?_ ?_
  rotate_left
  · intro w'
    go_simp
    with_reducible rfl
  rotate_left
  · simp only [Act.put, List.setIfInBounds_toArray, List.set_cons_zero, List.set_cons_succ, i64_w, i32_w]
    rfl
  refine pure_ (i := 44) (N := some 4) (v := ?_) (a' := ?_) #[true, true, true, true, true, true, true, true, true, true, true, true, true, true, true, true, true, true, true, true, true, true, true, true, true, true, true, true, true, true, true, true, true, true, true, true, true, true, true, true, true, true, true, true, true] rfl rfl (any_of HT_.out (by kernel_rfl)) (fun _ _ _ h => h) (Or.inl ⟨by rfl, ?_⟩) ?_ ?_
  rotate_left
  · intro w'
    go_simp
    with_reducible rfl
  rotate_left
  · simp only [Act.put, List.setIfInBounds_toArray, List.set_cons_zero, List.set_cons_succ, i64_w, i32_w]
    rfl
  refine done_ (done_of HT_.out (by kernel_rfl)) ?_
  clear hHeld
  go_wp2
  go_ret
  exact ⟨rfl, HB.out⟩


end Go.Proofs.Ytlmlkcobkmhmbaa.Q
end

section
/- what the readings of the parameters of MessageRecords give -/
set_option linter.unusedVariables false
set_option linter.unusedSimpArgs false
namespace Go.Proofs.Ytlmlkcobkmhmbaa.OpMessageRecords
open Go.RowKit Go.Proofs.YtlmlkcobkmhmbaaW.PrintWords Go.Proofs.YtlmlkcobkmhmbaaW.Hb Go.Proofs.YtlmlkcobkmhmbaaW.Ho Go.Proofs.Ytlmlkcobkmhmbaa.Q

theorem opens_slice' {P : Program} {t : TypeId} {α : Type} {d : Kd α} {e B : Nat} {Q : α → Prop} (ht : P.underlying t = some (.slice e)) (hs : P.cellsOf e = d.sz) (hB : P.bytesOf e = B) (hp : Opens P d e Q) :
    Opens P (Kd.slice e d) t (fun xs => xs.length * B ≤ reachBytes ∧ xs.length ≤ maxLen ∧ ∀ x ∈ xs, Q x) := by
  subst hB
  exact opens_slice ht hs hp
def QS113 (x : S113) : Prop := ((Lit.int .i64 (x.f0)).wf = true) ∧ ((x.f1).size ≤ reachBytes)
theorem open_S113 : Opens Try.prog k113 113 QS113 := by
  intro H enc w base spare held fuel cs x h hw
  obtain ⟨xs, n, _, hx, hl, hxl, hf⟩ := DataW.trod_struct Try.underlying113 h
  rw [show Try.prog.cellsOf 113 = 2 from by kernel_rfl] at hl
  obtain ⟨c0, c1, rfl⟩ : ∃ c0 c1, cs = [c0, c1] := by
    clear hf hx h
    match cs, hl with
    | [c0, c1], _ => exact ⟨c0, c1, rfl⟩
  obtain ⟨y0, y1, rfl⟩ : ∃ y0 y1, xs = [y0, y1] := by
    have hxl2 : xs.length = 2 := hxl
    clear hxl hf hx
    match xs, hxl2 with
    | [y0, y1], _ => exact ⟨y0, y1, rfl⟩
  subst hx
  have g0 : DataW.trod enc Try.prog w base spare held n 3 (([c0, c1].drop 0).take (Try.prog.cellsOf 3)) = some y0 := hf 0 _ rfl
  rw [show Try.prog.cellsOf 3 = 1 from by kernel_rfl] at g0
  replace g0 : DataW.trod enc Try.prog w base spare held n 3 [c0] = some y0 := g0
  obtain ⟨v0, K0, q0⟩ := (opens_int Try.underlying3) enc w base spare held n _ _ g0 (fun m hm => hw m (weights_field (j := 0) (tj := 3) Try.underlying113 rfl rfl m hm))
  have g1 : DataW.trod enc Try.prog w base spare held n 9 (([c0, c1].drop 1).take (Try.prog.cellsOf 9)) = some y1 := hf 1 _ rfl
  rw [show Try.prog.cellsOf 9 = 1 from by kernel_rfl] at g1
  replace g1 : DataW.trod enc Try.prog w base spare held n 9 [c1] = some y1 := g1
  obtain ⟨v1, K1, q1⟩ := (opens_string Try.underlying9) enc w base spare held n _ _ g1 (fun m hm => hw m (weights_field (j := 1) (tj := 9) Try.underlying113 rfl rfl m hm))
  exact ⟨⟨v0, v1⟩, ⟨[c0], [c1], rfl, K0, K1⟩, ⟨q0, q1⟩⟩
def QS46 (x : S46) : Prop := ((Lit.int .i64 (x.f0)).wf = true) ∧ ((Lit.int .i64 (x.f1)).wf = true) ∧ ((Lit.int .i64 (x.f2)).wf = true) ∧ ((Lit.int .i64 (x.f3)).wf = true) ∧ (((x.f4).length * 24 ≤ reachBytes ∧ (x.f4).length ≤ maxLen ∧ ∀ y ∈ (x.f4), QS113 (y)))
theorem open_S46 : Opens Try.prog k46 46 QS46 := by
  intro H enc w base spare held fuel cs x h hw
  obtain ⟨xs, n, _, hx, hl, hxl, hf⟩ := DataW.trod_struct Try.underlying46 h
  rw [show Try.prog.cellsOf 46 = 5 from by kernel_rfl] at hl
  obtain ⟨c0, c1, c2, c3, c4, rfl⟩ : ∃ c0 c1 c2 c3 c4, cs = [c0, c1, c2, c3, c4] := by
    clear hf hx h
    match cs, hl with
    | [c0, c1, c2, c3, c4], _ => exact ⟨c0, c1, c2, c3, c4, rfl⟩
  obtain ⟨y0, y1, y2, y3, y4, rfl⟩ : ∃ y0 y1 y2 y3 y4, xs = [y0, y1, y2, y3, y4] := by
    have hxl2 : xs.length = 5 := hxl
    clear hxl hf hx
    match xs, hxl2 with
    | [y0, y1, y2, y3, y4], _ => exact ⟨y0, y1, y2, y3, y4, rfl⟩
  subst hx
  have g0 : DataW.trod enc Try.prog w base spare held n 3 (([c0, c1, c2, c3, c4].drop 0).take (Try.prog.cellsOf 3)) = some y0 := hf 0 _ rfl
  rw [show Try.prog.cellsOf 3 = 1 from by kernel_rfl] at g0
  replace g0 : DataW.trod enc Try.prog w base spare held n 3 [c0] = some y0 := g0
  obtain ⟨v0, K0, q0⟩ := (opens_int Try.underlying3) enc w base spare held n _ _ g0 (fun m hm => hw m (weights_field (j := 0) (tj := 3) Try.underlying46 rfl rfl m hm))
  have g1 : DataW.trod enc Try.prog w base spare held n 3 (([c0, c1, c2, c3, c4].drop 1).take (Try.prog.cellsOf 3)) = some y1 := hf 1 _ rfl
  rw [show Try.prog.cellsOf 3 = 1 from by kernel_rfl] at g1
  replace g1 : DataW.trod enc Try.prog w base spare held n 3 [c1] = some y1 := g1
  obtain ⟨v1, K1, q1⟩ := (opens_int Try.underlying3) enc w base spare held n _ _ g1 (fun m hm => hw m (weights_field (j := 1) (tj := 3) Try.underlying46 rfl rfl m hm))
  have g2 : DataW.trod enc Try.prog w base spare held n 3 (([c0, c1, c2, c3, c4].drop 2).take (Try.prog.cellsOf 3)) = some y2 := hf 2 _ rfl
  rw [show Try.prog.cellsOf 3 = 1 from by kernel_rfl] at g2
  replace g2 : DataW.trod enc Try.prog w base spare held n 3 [c2] = some y2 := g2
  obtain ⟨v2, K2, q2⟩ := (opens_int Try.underlying3) enc w base spare held n _ _ g2 (fun m hm => hw m (weights_field (j := 2) (tj := 3) Try.underlying46 rfl rfl m hm))
  have g3 : DataW.trod enc Try.prog w base spare held n 3 (([c0, c1, c2, c3, c4].drop 3).take (Try.prog.cellsOf 3)) = some y3 := hf 3 _ rfl
  rw [show Try.prog.cellsOf 3 = 1 from by kernel_rfl] at g3
  replace g3 : DataW.trod enc Try.prog w base spare held n 3 [c3] = some y3 := g3
  obtain ⟨v3, K3, q3⟩ := (opens_int Try.underlying3) enc w base spare held n _ _ g3 (fun m hm => hw m (weights_field (j := 3) (tj := 3) Try.underlying46 rfl rfl m hm))
  have g4 : DataW.trod enc Try.prog w base spare held n 32 (([c0, c1, c2, c3, c4].drop 4).take (Try.prog.cellsOf 32)) = some y4 := hf 4 _ rfl
  rw [show Try.prog.cellsOf 32 = 1 from by kernel_rfl] at g4
  replace g4 : DataW.trod enc Try.prog w base spare held n 32 [c4] = some y4 := g4
  obtain ⟨v4, K4, q4⟩ := (opens_slice' Try.underlying32 (by kernel_rfl) (by kernel_rfl) open_S113) enc w base spare held n _ _ g4 (fun m hm => hw m (weights_field (j := 4) (tj := 32) Try.underlying46 rfl rfl m hm))
  exact ⟨⟨v0, v1, v2, v3, v4⟩, ⟨[c0], [c1, c2, c3, c4], rfl, K0, ⟨[c1], [c2, c3, c4], rfl, K1, ⟨[c2], [c3, c4], rfl, K2, ⟨[c3], [c4], rfl, K3, K4⟩⟩⟩⟩, ⟨q0, q1, q2, q3, q4⟩⟩
end Go.Proofs.Ytlmlkcobkmhmbaa.OpMessageRecords
end

section
/- the pure statement of MessageRecords -/
namespace Go.Proofs.Ytlmlkcobkmhmbaa.PuMessageRecords
open Go.RowKit Go.Proofs.YtlmlkcobkmhmbaaW.PrintWords Go.Proofs.YtlmlkcobkmhmbaaW.Hb Go.Proofs.YtlmlkcobkmhmbaaW.Ho Go.Proofs.Ytlmlkcobkmhmbaa.Q Go.Proofs.Ytlmlkcobkmhmbaa.OpMessageRecords
def Pure : Prop := ∀ (x0 : S46) (x1 : List (Int)), QS46 (x0) → ((x1).length * 1 ≤ reachBytes ∧ (x1).length ≤ maxLen ∧ ∀ y ∈ (x1), (Lit.int .u8 (y)).wf = true) → ∃ k, weighhouselaw17_MessageRecords.f k (x0.f0) (x0.f1) (x0.f2) (x0.f3) (x0.f4) x1 = some true
end Go.Proofs.Ytlmlkcobkmhmbaa.PuMessageRecords
end

section
/- messages as bytes: what is written, and how it is read back (plain laws) -/
set_option linter.unusedVariables false
set_option linter.unusedSimpArgs false
namespace Go.Proofs.Ytlmlkcobkmhmbaa.ThMsg
open Go.RowKit Go.Proofs.YtlmlkcobkmhmbaaW.PrintWords Go.Proofs.YtlmlkcobkmhmbaaW.Hb Go.Proofs.Ytlmlkcobkmhmbaa.Q

/-! ### what is written -/
def entBytes (v : Int) (s : ByteArray) : List Int := bigL (IntKind.u64.wrap v) 8 ++ textB s
def logB (l : List S74) : List Int := l.flatMap (fun x => entBytes x.f0 x.f1)
def headB (n : Nat) : List Int := [(n : Int) / 256, (n : Int) % 256]
def allB (by_ is_ : List Int) (l : List S74) : List Int := by_ ++ (ints8 is_ ++ (headB l.length ++ logB l))
def Good (P : List Int) (st : List Int × Int) : Prop := (st.2 = 0 ∧ st.1 = P ∧ P.length ≤ 1048576) ∨ (st.2 = 6 ∧ 1048576 < P.length)
theorem good_more {P p : List Int} {st : List Int × Int} (h : Good P st) : Good (P ++ p) ((wmore st.1 p).1, mustE st.2 (wmore st.1 p).2) := by
  obtain ⟨L, E⟩ := st
  rcases h with ⟨h1, h2, h3⟩ | ⟨h1, h2⟩
  · simp only at h1 h2
    subst h1 h2
    simp only [mustE_0]
    by_cases ht : 1048576 - (L.length : Int) < (p.length : Int)
    · rw [wmore_no ht]
      exact .inr ⟨rfl, by rw [List.length_append]; omega⟩
    · rw [wmore_yes ht]
      exact .inl ⟨rfl, rfl, by rw [List.length_append]; omega⟩
  · simp only at h1
    subst h1
    exact .inr ⟨rfl, by rw [List.length_append]; omega⟩
theorem good_text {P : List Int} {st : List Int × Int} {s : ByteArray} (h : Good P st) (hs : s.size ≤ 65535) : Good (P ++ textB s) ((wtexts st.1 [s]).1, mustE st.2 (wtexts st.1 [s]).2) := by
  have e : wtexts st.1 [s] = wmore st.1 (textB s) := by
    unfold wtexts
    have : tlong s = false := decide_eq_false (by omega)
    simp [this, textsB]
  rw [e]
  exact good_more h
theorem good_bytes {P p : List Int} {st : List Int × Int} (h : Good P st) (hp : ∀ x ∈ p, 0 ≤ x ∧ x ≤ 255) : Good (P ++ p) ((wbytes st.1 p).1, mustE st.2 (wbytes st.1 p).2) := by
  rw [wbytes_ok (fun x hx => badB_ok (hp x hx).1 (hp x hx).2)]
  exact good_more h
theorem good_put1 {P : List Int} {st : List Int × Int} {x : S74} (h : Good P st) (hs : x.f1.size ≤ 65535) : Good (P ++ entBytes x.f0 x.f1) (wput1 st x) := by
  have h1 := good_more (p := ints8 [x.f0]) h
  have h2 := good_text h1 hs
  have e : ints8 [x.f0] = bigL (IntKind.u64.wrap x.f0) 8 := by simp [ints8]
  unfold entBytes
  rw [← List.append_assoc, ← e]
  exact h2
theorem good_puts : ∀ (xs : List S74) (P : List Int) (st : List Int × Int), Good P st → (∀ x ∈ xs, x.f1.size ≤ 65535) → Good (P ++ logB xs) (wputs st xs)
  | [], P, st, h, _ => by simpa [logB, wputs] using h
  | x :: xs, P, st, h, hs => by
    have h1 := good_put1 h (hs x (List.mem_cons_self ..))
    have h2 := good_puts xs _ _ h1 (fun y hy => hs y (List.mem_cons_of_mem _ hy))
    have e : P ++ logB (x :: xs) = P ++ entBytes x.f0 x.f1 ++ logB xs := by simp [logB]
    rw [e]
    exact h2
theorem headB_in (n : Nat) (h : n ≤ 2048) : ∀ x ∈ headB n, 0 ≤ x ∧ x ≤ 255 := by
  intro x hx
  simp only [headB, List.mem_cons, List.not_mem_nil, or_false] at hx
  rcases hx with rfl | rfl <;> omega
theorem good_log {P : List Int} {st : List Int × Int} (xs : List S74) (h : Good P st) (hn : xs.length ≤ 2048) (hs : ∀ x ∈ xs, x.f1.size ≤ 65535) : Good (P ++ (headB xs.length ++ logB xs)) (wlog st xs) := by
  have h1 := good_bytes h (headB_in xs.length hn)
  have h2 := good_puts xs _ _ h1 hs
  rw [← List.append_assoc]
  exact h2
theorem wall_eq (by_ is_ : List Int) (l : List S74) (hb : ∀ x ∈ by_, 0 ≤ x ∧ x ≤ 255) (hn : l.length ≤ 2048) (hs : ∀ x ∈ l, x.f1.size ≤ 65535) : wall by_ is_ l = if (allB by_ is_ l).length ≤ 1048576 then (allB by_ is_ l, 0) else ([], 6) := by
  have h0 : Good [] ([], 0) := .inl ⟨rfl, rfl, by simp⟩
  have h1 := good_bytes h0 hb
  simp only [mustE_0, List.nil_append] at h1
  have h2 := good_more (p := ints8 is_) h1
  have h3 := good_log l h2 hn hs
  simp only at h3
  unfold wall
  rw [show allB by_ is_ l = by_ ++ ints8 is_ ++ (headB l.length ++ logB l) by simp [allB]]
  rcases h3 with ⟨g1, g2, g3⟩ | ⟨g1, g2⟩
  · rw [if_pos g3, g1, penRes_0, g2]
  · rw [if_neg (by omega), g1]
    rfl

/-! ### how it is read -/
theorem readL_back {α : Type} (mk : Int → ByteArray → α) : ∀ (xs : List S74) (rest : List Int) (acc : List α), (∀ x ∈ xs, x.f1.size ≤ 65535 ∧ -9223372036854775808 ≤ x.f0 ∧ x.f0 ≤ 9223372036854775807) → readL mk xs.length (logB xs ++ rest) 0 acc = (acc ++ xs.map (fun x => mk x.f0 x.f1), rest, 0)
  | [], rest, acc, _ => by simp [readL, logB]
  | x :: xs, rest, acc, h => by
    have hx := h x (List.mem_cons_self ..)
    have e : logB (x :: xs) ++ rest = bigL (IntKind.u64.wrap x.f0) 8 ++ (textB x.f1 ++ (logB xs ++ rest)) := by simp [logB, entBytes]
    rw [e, List.length_cons, readL_step mk (rInt_back x.f0 _ hx.2.1 hx.2.2) (rText_back x.f1 _ hx.1), readL_back mk xs rest _ (fun y hy => h y (List.mem_cons_of_mem _ hy))]
    simp
theorem rdLog_back {α : Type} (mk : Int → ByteArray → α) (xs : List S74) (rest : List Int) (hn : xs.length ≤ 2048) (h : ∀ x ∈ xs, x.f1.size ≤ 65535 ∧ -9223372036854775808 ≤ x.f0 ∧ x.f0 ≤ 9223372036854775807) : rdLog mk (headB xs.length ++ logB xs ++ rest) 0 = (xs.map (fun x => mk x.f0 x.f1), rest, 0) := by
  have h1 := rByte_back ((xs.length : Int) / 256) ((xs.length : Int) % 256 :: (logB xs ++ rest))
  have h2 := rByte_back ((xs.length : Int) % 256) (logB xs ++ rest)
  have e : headB xs.length ++ logB xs ++ rest = (xs.length : Int) / 256 :: (xs.length : Int) % 256 :: (logB xs ++ rest) := by simp [headB]
  rw [e, rdLog_is mk h1 h2 (n := xs.length) (by omega), readL_back mk xs rest [] h]
  simp
theorem rByte_ext {xs r t : List Int} {v : Int} (h : rByte xs 0 = (v, r, 0)) : rByte (xs ++ t) 0 = (v, r ++ t, 0) := by
  cases xs with
  | nil => rw [rByte_end (by simp)] at h; cases h
  | cons x xs =>
    rw [rByte_back] at h
    obtain ⟨rfl, h2⟩ := Prod.mk.inj h
    obtain ⟨rfl, _⟩ := Prod.mk.inj h2
    exact rByte_back _ _
theorem rInt_ext {xs r t : List Int} {v : Int} (h : rInt xs 0 = (v, r, 0)) : rInt (xs ++ t) 0 = (v, r ++ t, 0) := by
  by_cases hl : xs.length < 8
  · rw [rInt_end hl] at h; cases h
  · rw [rInt_ok hl] at h
    obtain ⟨rfl, h2⟩ := Prod.mk.inj h
    obtain ⟨rfl, _⟩ := Prod.mk.inj h2
    rw [rInt_ok (by rw [List.length_append]; omega), List.take_append_of_le_length (by omega), List.drop_append_of_le_length (by omega)]
theorem rText_ext {xs r t : List Int} {v : ByteArray} (h : rText xs 0 = (v, r, 0)) : rText (xs ++ t) 0 = (v, r ++ t, 0) := by
  by_cases hl : xs.length < 2
  · rw [rText_end hl] at h; cases h
  · have et : tlen (xs ++ t) = tlen xs := by
      unfold tlen
      have e : ∀ i : Nat, i < xs.length → rd (xs ++ t) (i : Int) = rd xs (i : Int) := fun i hi => by
        simp only [rd, Int.toNat_natCast, List.getD_eq_getElem?_getD, List.getElem?_append_left hi]
      rw [e 0 (by omega), e 1 (by omega)]
    by_cases hl2 : xs.length < 2 + tlen xs
    · rw [rText_end2 hl hl2] at h; cases h
    · rw [rText_ok hl hl2] at h
      obtain ⟨rfl, h2⟩ := Prod.mk.inj h
      obtain ⟨rfl, _⟩ := Prod.mk.inj h2
      rw [rText_ok (by rw [List.length_append]; omega) (by rw [List.length_append, et]; omega), et, List.drop_append_of_le_length (by omega), List.take_append_of_le_length (by rw [List.length_drop]; omega), List.drop_append_of_le_length (by omega)]
theorem rByte_stick {xs r : List Int} {e v : Int} (h : rByte xs e = (v, r, 0)) : e = 0 := by
  by_cases he : e ≠ 0
  · rw [rByte_err he] at h
    cases h
    rfl
  · omega
theorem rInt_stick {xs r : List Int} {e v : Int} (h : rInt xs e = (v, r, 0)) : e = 0 := by
  by_cases he : e ≠ 0
  · rw [rInt_err he] at h
    cases h
    rfl
  · omega
theorem rText_stick {xs r : List Int} {e : Int} {v : ByteArray} (h : rText xs e = (v, r, 0)) : e = 0 := by
  by_cases he : e ≠ 0
  · rw [rText_err he] at h
    cases h
    rfl
  · omega
theorem readL_stick {α : Type} (mk : Int → ByteArray → α) {n : Nat} {xs r : List Int} {e : Int} {acc l : List α} (h : readL mk n xs e acc = (l, r, 0)) : e = 0 := by
  by_cases he : e ≠ 0
  · rw [readL_err mk n xs he] at h
    cases h
    rfl
  · omega
theorem readL_ext {α : Type} (mk : Int → ByteArray → α) {t : List Int} : ∀ (n : Nat) (xs r : List Int) (acc l : List α), readL mk n xs 0 acc = (l, r, 0) → readL mk n (xs ++ t) 0 acc = (l, r ++ t, 0)
  | 0, xs, r, acc, l, h => by
    rw [readL_0] at h
    cases h
    rfl
  | n + 1, xs, r, acc, l, h => by
    obtain ⟨v, x1, e1, h1⟩ : ∃ v x e, rInt xs 0 = (v, x, e) := ⟨_, _, _, rfl⟩
    obtain ⟨s, x2, e2, h2⟩ : ∃ v x e, rText x1 e1 = (v, x, e) := ⟨_, _, _, rfl⟩
    rw [readL_step mk h1 h2] at h
    obtain rfl := readL_stick mk h
    obtain rfl := rText_stick h2
    rw [readL_step mk (rInt_ext h1) (rText_ext h2)]
    exact readL_ext mk n _ _ _ _ h
theorem rdLog_stick {α : Type} (mk : Int → ByteArray → α) {xs r : List Int} {e : Int} {l : List α} (h : rdLog mk xs e = (l, r, 0)) : e = 0 := by
  unfold rdLog at h
  have h1 := readL_stick mk h
  obtain ⟨v, x1, e1, q1⟩ : ∃ v x e', rByte xs e = (v, x, e') := ⟨_, _, _, rfl⟩
  obtain ⟨v2, x2, e2, q2⟩ : ∃ v x e', rByte x1 e1 = (v, x, e') := ⟨_, _, _, rfl⟩
  rw [q1] at h1
  simp only [q2] at h1
  subst h1
  obtain rfl := rByte_stick q2
  exact rByte_stick q1
theorem rdLog_ext {α : Type} (mk : Int → ByteArray → α) {t xs r : List Int} {l : List α} (h : rdLog mk xs 0 = (l, r, 0)) : rdLog mk (xs ++ t) 0 = (l, r ++ t, 0) := by
  unfold rdLog at h ⊢
  have h1 := readL_stick mk h
  obtain ⟨v, x1, e1, q1⟩ : ∃ v x e', rByte xs 0 = (v, x, e') := ⟨_, _, _, rfl⟩
  obtain ⟨v2, x2, e2, q2⟩ : ∃ v x e', rByte x1 e1 = (v, x, e') := ⟨_, _, _, rfl⟩
  rw [q1] at h h1
  simp only [q2] at h h1
  subst h1
  obtain rfl := rByte_stick q2
  rw [rByte_ext q1]
  simp only [rByte_ext q2]
  exact readL_ext mk _ _ _ _ _ h

/-! ### a message, a record, read whole -/
structure DM (α : Type) where
  a : Int
  b : Int
  c : Int
  d : Int
  e : Int
  f : Int
  g : Int
  l : List α
  r : List Int
  er : Int
def decM {α : Type} (mk : Int → ByteArray → α) (l : List Int) : DM α :=
  let k := rByte l 0; let fr := rByte k.2.1 k.2.2; let t := rByte fr.2.1 fr.2.2; let v := rInt t.2.1 t.2.2; let o := rInt v.2.1 v.2.2; let c := rInt o.2.1 o.2.2; let n := rInt c.2.1 c.2.2; let g := rdLog mk n.2.1 n.2.2
  ⟨k.1, fr.1, t.1, v.1, o.1, c.1, n.1, g.1, g.2.1, g.2.2⟩
theorem decM_is {α : Type} (mk : Int → ByteArray → α) {l x1 x2 x3 x4 x5 x6 x7 x8 : List Int} {v1 v2 v3 v4 v5 v6 v7 e1 e2 e3 e4 e5 e6 e7 e8 : Int} {ls : List α} (h1 : rByte l 0 = (v1, x1, e1)) (h2 : rByte x1 e1 = (v2, x2, e2)) (h3 : rByte x2 e2 = (v3, x3, e3)) (h4 : rInt x3 e3 = (v4, x4, e4)) (h5 : rInt x4 e4 = (v5, x5, e5)) (h6 : rInt x5 e5 = (v6, x6, e6)) (h7 : rInt x6 e6 = (v7, x7, e7)) (h8 : rdLog mk x7 e7 = (ls, x8, e8)) :
    decM mk l = ⟨v1, v2, v3, v4, v5, v6, v7, ls, x8, e8⟩ := by
  simp only [decM, h1, h2, h3, h4, h5, h6, h7, h8]
theorem decM_ext {α : Type} (mk : Int → ByteArray → α) {t xs r : List Int} {a b c d e f g : Int} {l : List α} (h : decM mk xs = ⟨a, b, c, d, e, f, g, l, r, 0⟩) : decM mk (xs ++ t) = ⟨a, b, c, d, e, f, g, l, r ++ t, 0⟩ := by
  obtain ⟨v1, x1, e1, h1⟩ : ∃ v x e', rByte xs 0 = (v, x, e') := ⟨_, _, _, rfl⟩
  obtain ⟨v2, x2, e2, h2⟩ : ∃ v x e', rByte x1 e1 = (v, x, e') := ⟨_, _, _, rfl⟩
  obtain ⟨v3, x3, e3, h3⟩ : ∃ v x e', rByte x2 e2 = (v, x, e') := ⟨_, _, _, rfl⟩
  obtain ⟨v4, x4, e4, h4⟩ : ∃ v x e', rInt x3 e3 = (v, x, e') := ⟨_, _, _, rfl⟩
  obtain ⟨v5, x5, e5, h5⟩ : ∃ v x e', rInt x4 e4 = (v, x, e') := ⟨_, _, _, rfl⟩
  obtain ⟨v6, x6, e6, h6⟩ : ∃ v x e', rInt x5 e5 = (v, x, e') := ⟨_, _, _, rfl⟩
  obtain ⟨v7, x7, e7, h7⟩ : ∃ v x e', rInt x6 e6 = (v, x, e') := ⟨_, _, _, rfl⟩
  obtain ⟨ls, x8, e8, h8⟩ : ∃ v x e', rdLog mk x7 e7 = (v, x, e') := ⟨_, _, _, rfl⟩
  rw [decM_is mk h1 h2 h3 h4 h5 h6 h7 h8] at h
  obtain ⟨rfl, rfl, rfl, rfl, rfl, rfl, rfl, rfl, rfl, rfl⟩ : v1 = a ∧ v2 = b ∧ v3 = c ∧ v4 = d ∧ v5 = e ∧ v6 = f ∧ v7 = g ∧ ls = l ∧ x8 = r ∧ e8 = 0 := by simpa using h
  obtain rfl := rdLog_stick mk h8
  obtain rfl := rInt_stick h7
  obtain rfl := rInt_stick h6
  obtain rfl := rInt_stick h5
  obtain rfl := rInt_stick h4
  obtain rfl := rByte_stick h3
  obtain rfl := rByte_stick h2
  exact decM_is mk (rByte_ext h1) (rByte_ext h2) (rByte_ext h3) (rInt_ext h4) (rInt_ext h5) (rInt_ext h6) (rInt_ext h7) (rdLog_ext mk h8)
structure DR (α : Type) where
  a : Int
  b : Int
  c : Int
  d : Int
  l : List α
  r : List Int
  er : Int
def decR {α : Type} (mk : Int → ByteArray → α) (l : List Int) : DR α :=
  let k := rByte l 0; let v := rInt k.2.1 k.2.2; let o := rInt v.2.1 v.2.2; let c := rInt o.2.1 o.2.2; let g := rdLog mk c.2.1 c.2.2
  ⟨k.1, v.1, o.1, c.1, g.1, g.2.1, g.2.2⟩
theorem decR_is {α : Type} (mk : Int → ByteArray → α) {l x1 x2 x3 x4 x8 : List Int} {v1 v2 v3 v4 e1 e2 e3 e4 e8 : Int} {ls : List α} (h1 : rByte l 0 = (v1, x1, e1)) (h2 : rInt x1 e1 = (v2, x2, e2)) (h3 : rInt x2 e2 = (v3, x3, e3)) (h4 : rInt x3 e3 = (v4, x4, e4)) (h8 : rdLog mk x4 e4 = (ls, x8, e8)) :
    decR mk l = ⟨v1, v2, v3, v4, ls, x8, e8⟩ := by
  simp only [decR, h1, h2, h3, h4, h8]
theorem decR_ext {α : Type} (mk : Int → ByteArray → α) {t xs r : List Int} {a b c d : Int} {l : List α} (h : decR mk xs = ⟨a, b, c, d, l, r, 0⟩) : decR mk (xs ++ t) = ⟨a, b, c, d, l, r ++ t, 0⟩ := by
  obtain ⟨v1, x1, e1, h1⟩ : ∃ v x e', rByte xs 0 = (v, x, e') := ⟨_, _, _, rfl⟩
  obtain ⟨v2, x2, e2, h2⟩ : ∃ v x e', rInt x1 e1 = (v, x, e') := ⟨_, _, _, rfl⟩
  obtain ⟨v3, x3, e3, h3⟩ : ∃ v x e', rInt x2 e2 = (v, x, e') := ⟨_, _, _, rfl⟩
  obtain ⟨v4, x4, e4, h4⟩ : ∃ v x e', rInt x3 e3 = (v, x, e') := ⟨_, _, _, rfl⟩
  obtain ⟨ls, x8, e8, h8⟩ : ∃ v x e', rdLog mk x4 e4 = (v, x, e') := ⟨_, _, _, rfl⟩
  rw [decR_is mk h1 h2 h3 h4 h8] at h
  obtain ⟨rfl, rfl, rfl, rfl, rfl, rfl, rfl⟩ : v1 = a ∧ v2 = b ∧ v3 = c ∧ v4 = d ∧ ls = l ∧ x8 = r ∧ e8 = 0 := by simpa using h
  obtain rfl := rdLog_stick mk h8
  obtain rfl := rInt_stick h4
  obtain rfl := rInt_stick h3
  obtain rfl := rInt_stick h2
  exact decR_is mk (rByte_ext h1) (rInt_ext h2) (rInt_ext h3) (rInt_ext h4) (rdLog_ext mk h8)

/-! ### there and back -/
def I64 (x : Int) : Prop := -9223372036854775808 ≤ x ∧ x ≤ 9223372036854775807
def FitL (l : List S74) : Prop := l.length ≤ 2048 ∧ ∀ x ∈ l, x.f1.size ≤ 65535 ∧ -9223372036854775808 ≤ x.f0 ∧ x.f0 ≤ 9223372036854775807
theorem ints8_four (a b c d : Int) (rest : List Int) : ints8 [a, b, c, d] ++ rest = bigL (IntKind.u64.wrap a) 8 ++ (bigL (IntKind.u64.wrap b) 8 ++ (bigL (IntKind.u64.wrap c) 8 ++ (bigL (IntKind.u64.wrap d) 8 ++ rest))) := by simp [ints8]
theorem ints8_three (a b c : Int) (rest : List Int) : ints8 [a, b, c] ++ rest = bigL (IntKind.u64.wrap a) 8 ++ (bigL (IntKind.u64.wrap b) 8 ++ (bigL (IntKind.u64.wrap c) 8 ++ rest)) := by simp [ints8]
theorem decM_back {α : Type} (mk : Int → ByteArray → α) (a b c d e f g : Int) (l : List S74) (rest : List Int) (hd : I64 d) (he : I64 e) (hf : I64 f) (hg : I64 g) (hl : FitL l) :
    decM mk (allB [a, b, c] [d, e, f, g] l ++ rest) = ⟨a, b, c, d, e, f, g, l.map (fun x => mk x.f0 x.f1), rest, 0⟩ := by
  have e1 : allB [a, b, c] [d, e, f, g] l ++ rest = a :: b :: c :: (ints8 [d, e, f, g] ++ (headB l.length ++ logB l ++ rest)) := by simp [allB]
  rw [e1, ints8_four]
  exact decM_is mk (rByte_back _ _) (rByte_back _ _) (rByte_back _ _) (rInt_back _ _ hd.1 hd.2) (rInt_back _ _ he.1 he.2) (rInt_back _ _ hf.1 hf.2) (rInt_back _ _ hg.1 hg.2) (rdLog_back mk l rest hl.1 hl.2)
theorem decR_back {α : Type} (mk : Int → ByteArray → α) (a b c d : Int) (l : List S74) (rest : List Int) (hb : I64 b) (hc : I64 c) (hd : I64 d) (hl : FitL l) :
    decR mk (allB [a] [b, c, d] l ++ rest) = ⟨a, b, c, d, l.map (fun x => mk x.f0 x.f1), rest, 0⟩ := by
  have e1 : allB [a] [b, c, d] l ++ rest = a :: (ints8 [b, c, d] ++ (headB l.length ++ logB l ++ rest)) := by simp [allB]
  rw [e1, ints8_three]
  exact decR_is mk (rByte_back _ _) (rInt_back _ _ hb.1 hb.2) (rInt_back _ _ hc.1 hc.2) (rInt_back _ _ hd.1 hd.2) (rdLog_back mk l rest hl.1 hl.2)
theorem rDone_0 (r : List Int) (e : Int) : rDone r e = 0 ↔ e = 0 ∧ r = [] := by
  unfold rDone
  by_cases he : e ≠ 0
  · rw [if_pos he]
    constructor
    · intro h; exact absurd h he
    · intro h; exact h.1
  · rw [if_neg he]
    by_cases hr : 0 < r.length
    · rw [if_pos hr]
      constructor
      · intro h; cases h
      · intro h; rw [h.2] at hr; simp at hr
    · rw [if_neg hr]
      constructor
      · intro _; exact ⟨by omega, List.eq_nil_of_length_eq_zero (by omega)⟩
      · intro _; rfl
/-! ### what may be -/
theorem mkE_id (l : List S74) : l.map (fun x => mkE x.f0 x.f1) = l := by
  conv => rhs; rw [← List.map_id l]
  exact List.map_congr_left (fun x _ => rfl)
theorem outR_in {n : Int} (h : outR n = false) : 0 ≤ n ∧ n ≤ 1099511627776 := by
  simp only [outR, Bool.or_eq_false_iff, decide_eq_false_iff_not] at h
  omega
theorem rightM_in {k fr t v o c n : Int} {l : List S74} (h : rightM k fr t v o c n l = true) : (1 ≤ k ∧ k ≤ 8) ∧ (0 ≤ fr ∧ fr < 8) ∧ (0 ≤ t ∧ t < 8) ∧ (0 ≤ v ∧ v ≤ 1099511627776) ∧ (0 ≤ o ∧ o ≤ 1099511627776) ∧ (0 ≤ c ∧ c ≤ 1099511627776) ∧ (0 ≤ n ∧ n ≤ 1099511627776) ∧ entB l = true := by
  simp only [rightM, Bool.and_eq_true, Bool.not_eq_true', decide_eq_true_eq, List.any_cons, List.any_nil, Bool.or_false, Bool.or_eq_false_iff] at h
  obtain ⟨_, ⟨⟨⟨⟨h1, h2⟩, h3⟩, h4⟩, h5, h6, h7, h8⟩, h9⟩ := h
  exact ⟨⟨h1, h2⟩, idB_t h3, idB_t h4, outR_in h5, outR_in h6, outR_in h7, outR_in h8, h9⟩
theorem rightR_in {k v o c : Int} {l : List S74} (h : rightR ⟨k, v, o, c, l⟩ = true) : (1 ≤ k ∧ k ≤ 3) ∧ (0 ≤ v ∧ v ≤ 1099511627776) ∧ (0 ≤ o ∧ o ≤ 1099511627776) ∧ (0 ≤ c ∧ c ≤ 1099511627776) ∧ entB l = true := by
  simp only [rightR, Bool.and_eq_true, Bool.not_eq_true', decide_eq_true_eq, List.any_cons, List.any_nil, Bool.or_false, Bool.or_eq_false_iff] at h
  obtain ⟨⟨⟨⟨h1, h2⟩, _⟩, h5, h6, h7⟩, h9⟩ := h
  exact ⟨⟨h1, h2⟩, outR_in h5, outR_in h6, outR_in h7, h9⟩
theorem fitL_of {l : List S74} (h : entB l = true) : FitL l := by
  refine ⟨(entB_is h).1, fun x hx => ?_⟩
  simp only [entB, Bool.and_eq_true, decide_eq_true_eq, Bool.not_eq_true', List.any_eq_false] at h
  have := h.2 x hx
  simp only [outE, Bool.not_eq_true, Bool.or_eq_false_iff, decide_eq_false_iff_not] at this
  have := outR_in this.1
  omega
theorem nums_str (l : List Int) (h : ∀ x ∈ l, 0 ≤ x ∧ x ≤ 255) : bytesOf (strOfNums l) = l := by
  unfold strOfNums bytesOf
  simp only [List.map_map]
  conv => rhs; rw [← List.map_id l]
  refine List.map_congr_left (fun x hx => ?_)
  have := h x hx
  simp
  omega
theorem logB_in (l : List S74) : ∀ x ∈ logB l, 0 ≤ x ∧ x ≤ 255 := by
  intro x hx
  obtain ⟨y, _, hy⟩ := List.mem_flatMap.1 hx
  rcases List.mem_append.1 hy with h | h
  · exact bigL_B _ _ x h
  · rcases List.mem_append.1 h with h | h
    · exact bigL_B _ _ x h
    · exact bytesOf_B _ x h
theorem allB_in {by_ is_ : List Int} {l : List S74} (hb : ∀ x ∈ by_, 0 ≤ x ∧ x ≤ 255) (hn : l.length ≤ 2048) : ∀ x ∈ allB by_ is_ l, 0 ≤ x ∧ x ≤ 255 := by
  intro x hx
  rcases List.mem_append.1 hx with h | h
  · exact hb x h
  · rcases List.mem_append.1 h with h | h
    · exact ints8_B _ x h
    · rcases List.mem_append.1 h with h | h
      · exact headB_in _ hn x h
      · exact logB_in _ x h
end Go.Proofs.Ytlmlkcobkmhmbaa.ThMsg
end

section
/- the law functions' own helpers, told plainly: messages -/
set_option linter.unusedVariables false
set_option linter.unusedSimpArgs false
namespace Go.Proofs.Ytlmlkcobkmhmbaa.ThMsl
open Go.RowKit Go.Proofs.YtlmlkcobkmhmbaaW.PrintWords Go.Proofs.YtlmlkcobkmhmbaaW.Hb Go.Proofs.Ytlmlkcobkmhmbaa.Q Go.Proofs.Ytlmlkcobkmhmbaa.ThMsg

theorem wrap_in {x : Int} (h0 : -9223372036854775808 ≤ x) (h1 : x ≤ 9223372036854775807) : wrap64 x = x := by
  unfold wrap64
  omega
theorem str_beq (a b : ByteArray) : (a.toList == b.toList) = decide (a = b) := by
  by_cases h : a = b
  · subst h
    simp
  · have : a.toList ≠ b.toList := fun he => h (by
      simp only [ByteArray.toList_eq] at he
      cases a; cases b
      simpa using he)
    simp [h, this]
instance : DecidableEq S74 := fun x y => decidable_of_iff ((x.f0, x.f1) = (y.f0, y.f1)) (by cases x; cases y; simp)
def toE (e : S113) : S74 := ⟨e.f0, e.f1⟩
theorem log_loop (l : List S113) (hl : l.length * 24 ≤ 140737488351232) (d : Nat) : ∀ i, l.length - i = d → i ≤ l.length → Ev (fun k => weighhouselaw17_Log.l0 k l ((l.take i).map toE) i) (l.map toE) := by
  induction d with
  | zero =>
    intro i hd hi
    refine Ev.step (f := fun _ => some (l.map toE)) (fun k => ?_) (Ev.now _)
    simp only [weighhouselaw17_Log.l0]
    rw [if_neg (by omega), List.take_of_length_le (by omega)]
  | succ d ih =>
    intro i hd hi
    refine Ev.step (f := fun k => weighhouselaw17_Log.l0 k l ((l.take (i + 1)).map toE) ((i + 1 : Nat) : Int)) (fun k => ?_) (ih (i + 1) (by omega) (by omega))
    simp only [weighhouselaw17_Log.l0]
    have e1 : rd_T113 l (i : Int) = l[i]'(by omega) := by simp [rd_T113, List.getD_eq_getElem?_getD, show i < l.length by omega]
    rw [if_pos (by omega), if_pos (by omega), if_pos (by rw [List.length_map, List.length_take]; omega), wrap_in (by omega) (by omega), e1, List.take_succ_eq_append_getElem (by omega), List.map_append]
    rfl
theorem log_ev (l : List S113) (hl : l.length * 24 ≤ 140737488351232) : Ev (fun k => weighhouselaw17_Log.f k l) (l.map toE) := by
  have := log_loop l hl l.length 0 (by omega) (by omega)
  simpa [weighhouselaw17_Log.f] using this
theorem ent_eq (x y : S74) : ((!((x.f0 == y.f0)) || (!((x.f1.toList) == (y.f1.toList)))) = true) ↔ ¬ x = y := by
  rw [str_beq]
  obtain ⟨a, s⟩ := x
  obtain ⟨b, t⟩ := y
  simp only [Bool.or_eq_true, Bool.not_eq_true', S74.mk.injEq]
  by_cases h1 : a = b <;> by_cases h2 : s = t <;> simp [h1, h2]
theorem same_loop (l m : List S74) (hl : l.length = m.length) (hm : l.length ≤ 4611686018427387904) (d : Nat) : ∀ i, l.length - i = d → i ≤ l.length → l.take i = m.take i → Ev (fun k => weighhouselaw17_SameLog.l0 k l m i) (decide (l = m)) := by
  induction d with
  | zero =>
    intro i hd hi ht
    have : l = m := by
      rw [← List.take_of_length_le (show l.length ≤ i by omega), ht, List.take_of_length_le (by omega)]
    refine Ev.step (f := fun _ => some (decide (l = m))) (fun k => ?_) (Ev.now _)
    simp only [weighhouselaw17_SameLog.l0]
    rw [if_neg (by omega), this]
    simp
  | succ d ih =>
    intro i hd hi ht
    have hil : i < l.length := by omega
    have hjl : i < m.length := by omega
    have e1 : rd_T74 l (i : Int) = l[i] := by simp [rd_T74, List.getD_eq_getElem?_getD, hil]
    have e2 : rd_T74 m (i : Int) = m[i] := by simp [rd_T74, List.getD_eq_getElem?_getD, hjl]
    by_cases h : l[i] = m[i]
    · refine Ev.step (f := fun k => weighhouselaw17_SameLog.l0 k l m ((i + 1 : Nat) : Int)) (fun k => ?_) (ih (i + 1) (by omega) (by omega) (by rw [List.take_succ_eq_append_getElem hil, List.take_succ_eq_append_getElem hjl, ht, h]))
      simp only [weighhouselaw17_SameLog.l0]
      rw [if_pos (by omega), if_pos (by omega), if_pos (by omega), e1, e2, if_neg (by rw [ent_eq]; simpa using h), wrap_in (by omega) (by omega)]
      rfl
    · have hne : ¬ l = m := fun he => h (by subst he; rfl)
      refine Ev.step (f := fun _ => some false) (fun k => ?_) (by simp only [hne, decide_false]; exact Ev.now _)
      simp only [weighhouselaw17_SameLog.l0]
      rw [if_pos (by omega), if_pos (by omega), if_pos (by omega), e1, e2, if_pos (by rw [ent_eq]; exact h)]
theorem sameLog_ev (l m : List S74) (hm : l.length ≤ 4611686018427387904) : Ev (fun k => weighhouselaw17_SameLog.f k l m) (decide (l = m)) := by
  unfold weighhouselaw17_SameLog.f
  by_cases h : (l.length : Int) = (m.length : Int)
  · simp only [if_pos h]
    exact same_loop l m (by omega) hm l.length 0 (by omega) (by omega) (by simp)
  · simp only [if_neg h]
    have hne : ¬ l = m := fun he => h (by subst he; rfl)
    simp only [hne, decide_false]
    exact Ev.now _
structure M74 where
  a : Int
  b : Int
  c : Int
  d : Int
  e : Int
  f : Int
  g : Int
  l : List S74
instance : DecidableEq M74 := fun x y => decidable_of_iff (((x.a, x.b, x.c, x.d) = (y.a, y.b, y.c, y.d)) ∧ ((x.e, x.f, x.g, x.l) = (y.e, y.f, y.g, y.l))) (by cases x; cases y; simp; constructor <;> intro h <;> simp_all)
/-! ### what Put says -/
def putM (x : M74) : List Int × Int := if rightM x.a x.b x.c x.d x.e x.f x.g x.l = true then wall [x.a, x.b, x.c] [x.d, x.e, x.f, x.g] x.l else ([], 1)
def bytesM (x : M74) : List Int := allB [x.a, x.b, x.c] [x.d, x.e, x.f, x.g] x.l
theorem by3 {a b c : Int} (ha : 0 ≤ a ∧ a ≤ 255) (hb : 0 ≤ b ∧ b ≤ 255) (hc : 0 ≤ c ∧ c ≤ 255) : ∀ x ∈ [a, b, c], 0 ≤ x ∧ x ≤ 255 := by
  intro x hx
  simp only [List.mem_cons, List.not_mem_nil, or_false] at hx
  rcases hx with rfl | rfl | rfl <;> assumption
theorem putM_right {x : M74} (h : rightM x.a x.b x.c x.d x.e x.f x.g x.l = true) : putM x = if (bytesM x).length ≤ 1048576 then (bytesM x, 0) else ([], 6) := by
  have hh := rightM_in h
  have hf := fitL_of hh.2.2.2.2.2.2.2
  unfold putM bytesM
  rw [if_pos h, wall_eq _ _ _ (by3 (by omega) (by omega) (by omega)) hf.1 (fun y hy => (hf.2 y hy).1)]
theorem putM_0 {x : M74} (h : (putM x).2 = 0) : rightM x.a x.b x.c x.d x.e x.f x.g x.l = true ∧ (bytesM x).length ≤ 1048576 ∧ putM x = (bytesM x, 0) := by
  by_cases hr : rightM x.a x.b x.c x.d x.e x.f x.g x.l = true
  · rw [putM_right hr] at h ⊢
    by_cases hl : (bytesM x).length ≤ 1048576
    · rw [if_pos hl]; exact ⟨hr, hl, rfl⟩
    · rw [if_neg hl] at h; cases h
  · unfold putM at h
    rw [if_neg hr] at h
    cases h
theorem decM_bytes {x : M74} (h : rightM x.a x.b x.c x.d x.e x.f x.g x.l = true) (rest : List Int) : decM mkE (bytesM x ++ rest) = ⟨x.a, x.b, x.c, x.d, x.e, x.f, x.g, x.l, rest, 0⟩ := by
  have hh := rightM_in h
  unfold bytesM
  rw [decM_back mkE x.a x.b x.c x.d x.e x.f x.g x.l rest (by unfold I64; omega) (by unfold I64; omega) (by unfold I64; omega) (by unfold I64; omega) (fitL_of hh.2.2.2.2.2.2.2), mkE_id]
theorem bytesM_in {x : M74} (h : rightM x.a x.b x.c x.d x.e x.f x.g x.l = true) : ∀ y ∈ bytesM x, 0 ≤ y ∧ y ≤ 255 := by
  have hh := rightM_in h
  exact allB_in (by3 (by omega) (by omega) (by omega)) (fitL_of hh.2.2.2.2.2.2.2).1
theorem bytesM_inj {x y : M74} (hx : rightM x.a x.b x.c x.d x.e x.f x.g x.l = true) (hy : rightM y.a y.b y.c y.d y.e y.f y.g y.l = true) (h : bytesM x = bytesM y) : x = y := by
  have h1 := decM_bytes hx []
  have h2 := decM_bytes hy []
  rw [h, h2] at h1
  obtain ⟨q1, q2, q3, q4, q5, q6, q7, q8⟩ : y.a = x.a ∧ y.b = x.b ∧ y.c = x.c ∧ y.d = x.d ∧ y.e = x.e ∧ y.f = x.f ∧ y.g = x.g ∧ y.l = x.l := by simpa using h1
  cases x; cases y
  simp_all
theorem str_same {l m : List Int} (hl : ∀ x ∈ l, 0 ≤ x ∧ x ≤ 255) (hm : ∀ x ∈ m, 0 ≤ x ∧ x ≤ 255) : ((strOfNums l).toList == (strOfNums m).toList) = decide (l = m) := by
  rw [str_beq]
  by_cases h : l = m
  · simp [h]
  · have : ¬ strOfNums l = strOfNums m := fun he => h (by rw [← nums_str l hl, ← nums_str m hm, he])
    simp [h, this]
end Go.Proofs.Ytlmlkcobkmhmbaa.ThMsl
end

section
/- the document's reading and writing of entries says what the program's says (plain laws) -/
set_option linter.unusedVariables false
set_option linter.unusedSimpArgs false
namespace Go.Proofs.Ytlmlkcobkmhmbaa.ThMsu
open Go.RowKit Go.Proofs.YtlmlkcobkmhmbaaW.PrintWords Go.Proofs.YtlmlkcobkmhmbaaW.Hb Go.Proofs.Ytlmlkcobkmhmbaa.Q Go.Proofs.Ytlmlkcobkmhmbaa.ThMsg Go.Proofs.Ytlmlkcobkmhmbaa.ThMsl
theorem readL_two : ∀ (n : Nat) (xs : List Int) (e : Int) (acc : List S113), readL mkE n xs e (acc.map toE) = ((readL mkR n xs e acc).1.map toE, (readL mkR n xs e acc).2)
  | 0, xs, e, acc => rfl
  | n + 1, xs, e, acc => by
    by_cases he : e ≠ 0
    · rw [readL_err mkE _ _ he, readL_err mkR _ _ he]
    · rw [readL, readL, if_neg he, if_neg he, ← readL_two n]
      simp [mkE, mkR, toE]
theorem rdLog_two (xs : List Int) (e : Int) : rdLog mkE xs e = ((rdLog mkR xs e).1.map toE, (rdLog mkR xs e).2) := by
  unfold rdLog
  exact readL_two _ _ _ []
theorem entB_two (l : List S113) : entB (l.map toE) = refEnt l := by
  have : (l.map toE).any outE = !(l.all okR) := by
    induction l with
    | nil => rfl
    | cons x l ih =>
      rw [List.map_cons, List.any_cons, List.all_cons, ih]
      have : outE (toE x) = !(okR x) := by
        show (outR x.f0 || decide (16384 < (x.f1.size : Int))) = !(!(outR x.f0 || decide (16384 < (x.f1.size : Int))))
        rw [Bool.not_not]
      rw [this]
      cases okR x <;> simp
  unfold entB refEnt
  rw [this, List.length_map, Bool.not_not]
theorem readL_len {α : Type} (mk : Int → ByteArray → α) : ∀ (n : Nat) (xs : List Int) (e : Int) (acc : List α), (readL mk n xs e acc).1.length ≤ acc.length + n
  | 0, xs, e, acc => by simp [readL]
  | n + 1, xs, e, acc => by
    by_cases he : e ≠ 0
    · rw [readL_err mk _ _ he]; simp only; omega
    · rw [readL, if_neg he]
      have := readL_len mk n (rText (rInt xs e).2.1 (rInt xs e).2.2).2.1 (rText (rInt xs e).2.1 (rInt xs e).2.2).2.2 (acc ++ [mk (rInt xs e).1 (rText (rInt xs e).2.1 (rInt xs e).2.2).1])
      rw [List.length_append, List.length_singleton] at this
      omega
theorem refEnt_len {l : List S113} (h : refEnt l = true) : l.length ≤ 2048 := by
  simp only [refEnt, Bool.and_eq_true, decide_eq_true_eq] at h
  exact h.1
/-! ### the document's bytes -/
theorem sh64 (n : Int) (k : Nat) (hk : k ≤ 64) : shr .u64 n (k : Int) = n / 2 ^ k := by
  unfold shr
  rw [Int.toNat_natCast, show IntKind.u64.bits = 64 from rfl, Nat.min_eq_left hk]
theorem number_is (x : Int) : weighhouseref01_Number.f 9 x = some (bigL (IntKind.u64.wrap x) 8) := by
  unfold weighhouseref01_Number.f
  have st : ∀ (k i : Nat) (l : List Int), i ≤ 56 → l.length ≤ 8 → weighhouseref01_Number.l0 (k + 1) x l (i : Int) = weighhouseref01_Number.l0 k x (l ++ [(IntKind.u64.wrap x / 2 ^ i) % 256]) ((i : Int) - 8) := by
    intro k i l hi hl
    have h1 : IntKind.u64.wrap (i : Int) = (i : Int) := by simp [IntKind.wrap, IntKind.bits, IntKind.signed]; omega
    have h2 : wrap64 ((i : Int) - 8) = (i : Int) - 8 := by unfold wrap64; omega
    rw [weighhouseref01_Number.l0, h1, h2, if_pos (by omega), if_pos (by omega), if_pos (by omega), sh64 _ _ (by omega)]
  rw [show (56 : Int) = ((56 : Nat) : Int) from rfl, st 8 56 [] (by omega) (by simp), show ((56 : Nat) : Int) - 8 = ((48 : Nat) : Int) from rfl, st 7 48 _ (by omega) (by simp), show ((48 : Nat) : Int) - 8 = ((40 : Nat) : Int) from rfl, st 6 40 _ (by omega) (by simp), show ((40 : Nat) : Int) - 8 = ((32 : Nat) : Int) from rfl, st 5 32 _ (by omega) (by simp), show ((32 : Nat) : Int) - 8 = ((24 : Nat) : Int) from rfl, st 4 24 _ (by omega) (by simp), show ((24 : Nat) : Int) - 8 = ((16 : Nat) : Int) from rfl, st 3 16 _ (by omega) (by simp), show ((16 : Nat) : Int) - 8 = ((8 : Nat) : Int) from rfl, st 2 8 _ (by omega) (by simp), show ((8 : Nat) : Int) - 8 = ((0 : Nat) : Int) from rfl, st 1 0 _ (by omega) (by simp)]
  rw [weighhouseref01_Number.l0, if_neg (by decide)]
  simp [bigL, bigB, List.range_succ]
theorem number_ev (x : Int) : Ev (fun k => weighhouseref01_Number.f k x) (bigL (IntKind.u64.wrap x) 8) := Ev.of (fun k => weighhouseref01_Number.mono x k) (number_is x)
theorem text_is (s : ByteArray) (h : s.size ≤ 65535) : weighhouseref01_Text.f s = some (textB s) := by
  unfold weighhouseref01_Text.f textB
  have h1 : wrap64 ((s.size : Int) / 256) = (s.size : Int) / 256 := by unfold wrap64; omega
  have h2 : bigL (s.size : Int) 2 = [(s.size : Int) / 256 % 256, (s.size : Int) % 256] := by simp [bigL, bigB, List.range_succ]
  rw [h1, h2, Option.bind_some, if_pos (by simp; omega)]
theorem numbers_loop (l : List Int) (hl : l.length ≤ 16) (d : Nat) : ∀ i, l.length - i = d → i ≤ l.length → Ev (fun k => weighhouseref17_numbers.l0 k l (ints8 (l.take i)) i) (ints8 l) := by
  induction d with
  | zero =>
    intro i hd hi
    refine Ev.step (f := fun _ => some (ints8 l)) (fun k => ?_) (Ev.now _)
    simp only [weighhouseref17_numbers.l0]
    rw [if_neg (by omega), List.take_of_length_le (by omega)]
  | succ d ih =>
    intro i hd hi
    have hil : i < l.length := by omega
    have e1 : rd l (i : Int) = l[i] := rdN l i hil
    refine Ev.step (f := fun k => (weighhouseref01_Number.f k l[i]).bind fun t => if (ints8 (l.take i)).length + t.length < 140737488355328 then weighhouseref17_numbers.l0 k l (ints8 (l.take i) ++ t) ((i + 1 : Nat) : Int) else none) (fun k => ?_) ?_
    · simp only [weighhouseref17_numbers.l0]
      rw [if_pos (by omega), if_pos (by omega), e1, wrap_in (by omega) (by omega)]
      rfl
    · refine Ev.bind (number_ev _) ?_
      have hc : (ints8 (l.take i)).length + (bigL (IntKind.u64.wrap l[i]) 8).length < 140737488355328 := by rw [ints8_len, List.length_take, bigL_len']; omega
      simp only [if_pos hc]
      rw [← ints8_take l i hil]
      exact ih (i + 1) (by omega) (by omega)
theorem numbers_ev (l : List Int) (hl : l.length ≤ 16) : Ev (fun k => weighhouseref17_numbers.f k l) (ints8 l) := by
  have := numbers_loop l hl l.length 0 (by omega) (by omega)
  simpa [weighhouseref17_numbers.f, ints8] using this
theorem entB_len (v : Int) (s : ByteArray) (h : s.size ≤ 16384) : (entBytes v s).length ≤ 16400 := by
  unfold entBytes textB
  rw [List.length_append, List.length_append, bigL_len', bigL_len', bytesOf_length]
  omega
theorem logB_len (l : List S74) (h : ∀ x ∈ l, x.f1.size ≤ 16384) : (logB l).length ≤ 16400 * l.length := by
  induction l with
  | nil => simp [logB]
  | cons x l ih =>
    have h1 := entB_len x.f0 x.f1 (h x (List.mem_cons_self ..))
    have h2 := ih (fun y hy => h y (List.mem_cons_of_mem _ hy))
    have e : logB (x :: l) = entBytes x.f0 x.f1 ++ logB l := by simp [logB]
    rw [e, List.length_append, List.length_cons]
    omega
theorem logB_take (l : List S113) (i : Nat) (hi : i < l.length) : logB ((l.take (i + 1)).map toE) = logB ((l.take i).map toE) ++ (bigL (IntKind.u64.wrap l[i].f0) 8 ++ textB l[i].f1) := by
  rw [List.take_succ_eq_append_getElem hi, List.map_append]
  simp [logB, entBytes, toE]
theorem entries_loop (l : List S113) (hl : l.length ≤ 2048) (hs : ∀ x ∈ l, x.f1.size ≤ 16384) (d : Nat) : ∀ i, l.length - i = d → i ≤ l.length → Ev (fun k => weighhouseref17_entries.l0 k l (headB l.length ++ logB ((l.take i).map toE)) i) (headB l.length ++ logB (l.map toE)) := by
  induction d with
  | zero =>
    intro i hd hi
    refine Ev.step (f := fun _ => some (headB l.length ++ logB (l.map toE))) (fun k => ?_) (Ev.now _)
    simp only [weighhouseref17_entries.l0]
    rw [if_neg (by omega), List.take_of_length_le (by omega)]
  | succ d ih =>
    intro i hd hi
    have hil : i < l.length := by omega
    have e1 : rd_T113 l (i : Int) = l[i] := by simp [rd_T113, List.getD_eq_getElem?_getD, hil]
    have hz := hs _ (List.getElem_mem hil)
    have hlen : (headB l.length ++ logB ((l.take i).map toE)).length ≤ 33600000 := by
      have := logB_len ((l.take i).map toE) (fun x hx => by
        obtain ⟨y, hy, rfl⟩ := List.mem_map.1 hx
        exact hs y (List.mem_of_mem_take hy))
      rw [List.length_map, List.length_take] at this
      rw [List.length_append]
      simp only [headB, List.length_cons, List.length_nil]
      omega
    refine Ev.step (f := fun k => (weighhouseref01_Number.f k l[i].f0).bind fun t => if (headB l.length ++ logB ((l.take i).map toE)).length + t.length < 140737488355328 then ((some (headB l.length ++ logB ((l.take i).map toE) ++ t : List Int)).bind fun y => ((weighhouseref01_Text.f l[i].f1).bind fun u => (if y.length + u.length < 140737488355328 then weighhouseref17_entries.l0 k l (y ++ u) ((i + 1 : Nat) : Int) else none))) else none) (fun k => ?_) ?_
    · simp only [weighhouseref17_entries.l0]
      rw [if_pos (by omega), if_pos (by omega), e1, wrap_in (by omega) (by omega)]
      rfl
    · refine Ev.bind (number_ev _) ?_
      have ht : (textB l[i].f1).length ≤ 16386 := by unfold textB; rw [List.length_append, bigL_len', bytesOf_length]; omega
      have hc : (headB l.length ++ logB ((l.take i).map toE)).length + (bigL (IntKind.u64.wrap l[i].f0) 8).length < 140737488355328 := by rw [bigL_len']; omega
      have hc2 : (headB l.length ++ logB ((l.take i).map toE) ++ bigL (IntKind.u64.wrap l[i].f0) 8).length + (textB l[i].f1).length < 140737488355328 := by rw [List.length_append, bigL_len']; omega
      simp only [if_pos hc, Option.bind_some, text_is _ (show l[i].f1.size ≤ 65535 by omega), if_pos hc2]
      have h1 := ih (i + 1) (by omega) (by omega)
      rw [logB_take l i hil] at h1
      simpa [List.append_assoc] using h1
theorem entries_ev (l : List S113) (hl : l.length ≤ 2048) (hs : ∀ x ∈ l, x.f1.size ≤ 16384) : Ev (fun k => weighhouseref17_entries.f k l) (headB l.length ++ logB (l.map toE)) := by
  have := entries_loop l hl hs l.length 0 (by omega) (by omega)
  have e : ([(wrap64 ((l.length : Int) / 256)) % 256, (l.length : Int) % 256] : List Int) = headB l.length := by
    unfold headB
    rw [wrap_in (by omega) (by omega)]
    congr 1
    omega
  unfold weighhouseref17_entries.f
  rw [e]
  simpa [logB] using this
theorem okR_size {l : List S113} (h : refEnt l = true) : l.length ≤ 2048 ∧ ∀ x ∈ l, x.f1.size ≤ 16384 := by
  simp only [refEnt, Bool.and_eq_true, decide_eq_true_eq, List.all_eq_true] at h
  refine ⟨h.1, fun x hx => ?_⟩
  have := h.2 x hx
  simp [okR] at this
  omega
theorem all_in {l : List Int} (h : ∀ x ∈ l, 0 ≤ x ∧ x ≤ 255) : l.all isBb = true := List.all_eq_true.2 (fun x hx => by
  have := h x hx
  simp [isBb, this])
end Go.Proofs.Ytlmlkcobkmhmbaa.ThMsu
end

section
/- the law functions' own helpers, told plainly: records -/
set_option linter.unusedVariables false
set_option linter.unusedSimpArgs false
namespace Go.Proofs.Ytlmlkcobkmhmbaa.ThMsr
open Go.RowKit Go.Proofs.YtlmlkcobkmhmbaaW.PrintWords Go.Proofs.YtlmlkcobkmhmbaaW.Hb Go.Proofs.Ytlmlkcobkmhmbaa.Q Go.Proofs.Ytlmlkcobkmhmbaa.ThMsg Go.Proofs.Ytlmlkcobkmhmbaa.ThMsl
theorem record_ev (a b c d : Int) (l : List S113) (hl : l.length * 24 ≤ 140737488351232) : Ev (fun k => weighhouselaw17_Record.f k a b c d l) (a, b, c, d, l.map toE) := by
  unfold weighhouselaw17_Record.f
  exact Ev.bind (log_ev _ hl) (Ev.now _)
structure R74 where
  a : Int
  b : Int
  c : Int
  d : Int
  l : List S74
instance : DecidableEq R74 := fun x y => decidable_of_iff ((x.a, x.b, x.c, x.d, x.l) = (y.a, y.b, y.c, y.d, y.l)) (by cases x; cases y; simp)
def putR (x : R74) : List Int × Int := if rightR ⟨x.a, x.b, x.c, x.d, x.l⟩ = true then wall [x.a] [x.b, x.c, x.d] x.l else ([], 1)
def bytesR (x : R74) : List Int := allB [x.a] [x.b, x.c, x.d] x.l
theorem putR_right {x : R74} (h : rightR ⟨x.a, x.b, x.c, x.d, x.l⟩ = true) : putR x = if (bytesR x).length ≤ 1048576 then (bytesR x, 0) else ([], 6) := by
  have hh := rightR_in h
  have hf := fitL_of hh.2.2.2.2
  unfold putR bytesR
  rw [if_pos h, wall_eq _ _ _ (by intro y hy; obtain rfl := List.mem_singleton.1 hy; omega) hf.1 (fun y hy => (hf.2 y hy).1)]
theorem putR_0 {x : R74} (h : (putR x).2 = 0) : rightR ⟨x.a, x.b, x.c, x.d, x.l⟩ = true ∧ (bytesR x).length ≤ 1048576 ∧ putR x = (bytesR x, 0) := by
  by_cases hr : rightR ⟨x.a, x.b, x.c, x.d, x.l⟩ = true
  · rw [putR_right hr] at h ⊢
    by_cases hl : (bytesR x).length ≤ 1048576
    · rw [if_pos hl]; exact ⟨hr, hl, rfl⟩
    · rw [if_neg hl] at h; cases h
  · unfold putR at h
    rw [if_neg hr] at h
    cases h
theorem decR_bytes {x : R74} (h : rightR ⟨x.a, x.b, x.c, x.d, x.l⟩ = true) (rest : List Int) : decR mkE (bytesR x ++ rest) = ⟨x.a, x.b, x.c, x.d, x.l, rest, 0⟩ := by
  have hh := rightR_in h
  unfold bytesR
  rw [decR_back mkE x.a x.b x.c x.d x.l rest (by unfold I64; omega) (by unfold I64; omega) (by unfold I64; omega) (fitL_of hh.2.2.2.2), mkE_id]
theorem bytesR_in {x : R74} (h : rightR ⟨x.a, x.b, x.c, x.d, x.l⟩ = true) : ∀ y ∈ bytesR x, 0 ≤ y ∧ y ≤ 255 := by
  have hh := rightR_in h
  exact allB_in (by intro y hy; obtain rfl := List.mem_singleton.1 hy; omega) (fitL_of hh.2.2.2.2).1
end Go.Proofs.Ytlmlkcobkmhmbaa.ThMsr
end

section
/- the document's PutRecord and GetRecord say what the program's say (plain laws) -/
set_option linter.unusedVariables false
set_option linter.unusedSimpArgs false
namespace Go.Proofs.Ytlmlkcobkmhmbaa.ThMsv
open Go.RowKit Go.Proofs.YtlmlkcobkmhmbaaW.PrintWords Go.Proofs.YtlmlkcobkmhmbaaW.Hb Go.Proofs.Ytlmlkcobkmhmbaa.Q Go.Proofs.Ytlmlkcobkmhmbaa.ThMsg Go.Proofs.Ytlmlkcobkmhmbaa.ThMsl Go.Proofs.Ytlmlkcobkmhmbaa.ThMsr Go.Proofs.Ytlmlkcobkmhmbaa.ThMsu
theorem rightR_two (a b c d : Int) (l : List S113) : rightR ⟨a, b, c, d, l.map toE⟩ = refRR a b c d l := by
  unfold rightR refRR
  simp only
  rw [entB_two, List.length_map]
theorem decR_two (l : List Int) : decR mkE l = ⟨(decR mkR l).a, (decR mkR l).b, (decR mkR l).c, (decR mkR l).d, (decR mkR l).l.map toE, (decR mkR l).r, (decR mkR l).er⟩ := by
  obtain ⟨v1, x1, e1, h1⟩ : ∃ v x e', rByte l 0 = (v, x, e') := ⟨_, _, _, rfl⟩
  obtain ⟨v2, x2, e2, h2⟩ : ∃ v x e', rInt x1 e1 = (v, x, e') := ⟨_, _, _, rfl⟩
  obtain ⟨v3, x3, e3, h3⟩ : ∃ v x e', rInt x2 e2 = (v, x, e') := ⟨_, _, _, rfl⟩
  obtain ⟨v4, x4, e4, h4⟩ : ∃ v x e', rInt x3 e3 = (v, x, e') := ⟨_, _, _, rfl⟩
  obtain ⟨ls, x8, e8, h8⟩ : ∃ v x e', rdLog mkR x4 e4 = (v, x, e') := ⟨_, _, _, rfl⟩
  have h9 : rdLog mkE x4 e4 = (ls.map toE, x8, e8) := by rw [rdLog_two, h8]
  rw [decR_is mkR h1 h2 h3 h4 h8, decR_is mkE h1 h2 h3 h4 h9]
theorem getR_decs {α : Type} (mk : Int → ByteArray → α) (right : Int → Int → Int → Int → List α → Bool) (l : List Int) :
    getR mk right l = if rDone (decR mk l).r (decR mk l).er = 0 ∧ right (decR mk l).a (decR mk l).b (decR mk l).c (decR mk l).d (decR mk l).l = true ∧ l.length ≤ 1048576 then ((decR mk l).a, (decR mk l).b, (decR mk l).c, (decR mk l).d, (decR mk l).l, 0) else (0, 0, 0, 0, [], 21) := rfl
abbrev rr (a b c d : Int) (l : List S74) : Bool := rightR ⟨a, b, c, d, l⟩
theorem getR_two (l : List Int) : getR mkE (fun a b c d l => rightR ⟨a, b, c, d, l⟩) l = ((getR mkR refRR l).1, (getR mkR refRR l).2.1, (getR mkR refRR l).2.2.1, (getR mkR refRR l).2.2.2.1, (getR mkR refRR l).2.2.2.2.1.map toE, (getR mkR refRR l).2.2.2.2.2) := by
  rw [getR_decs mkE, getR_decs mkR, decR_two]
  simp only [rightR_two]
  by_cases h : rDone (decR mkR l).r (decR mkR l).er = 0 ∧ refRR (decR mkR l).a (decR mkR l).b (decR mkR l).c (decR mkR l).d (decR mkR l).l = true ∧ l.length ≤ 1048576
  · rw [if_pos h, if_pos h]
  · rw [if_neg h, if_neg h]
    rfl
theorem getR_len (l : List Int) : (getR mkR refRR l).2.2.2.2.1.length ≤ 2048 := by
  rw [getR_decs]
  split
  · rename_i h
    have := h.2.1
    simp only [refRR, Bool.and_eq_true] at this
    exact refEnt_len this.2
  · simp
theorem rightR_ev (a b c d : Int) (l : List S113) : Ev (fun k => weighhouseref17_RightRecord.f k a b c d l) (refRR a b c d l) := Ev.of (fun k => weighhouseref17_RightRecord.mono a b c d l k) (refRR_is 0 a b c d l)
theorem putR_ev (a b c d : Int) (l : List S113) : Ev (fun k => weighhouseref17_PutRecord.f k a b c d l) (putR ⟨a, b, c, d, l.map toE⟩) := by
  unfold weighhouseref17_PutRecord.f
  refine Ev.bind (rightR_ev a b c d l) ?_
  have ht := rightR_two a b c d l
  by_cases hr : refRR a b c d l = true
  · have hm : rightR ⟨a, b, c, d, l.map toE⟩ = true := ht.trans hr
    have hin := rightR_in hm
    have hent : refEnt l = true := by rw [← entB_two]; exact hin.2.2.2.2
    obtain ⟨hn, hs⟩ := okR_size hent
    have hlb := logB_len (l.map toE) (fun x hx => by
      obtain ⟨y, hy, rfl⟩ := List.mem_map.1 hx
      exact hs y hy)
    rw [List.length_map] at hlb
    simp only [if_pos hr, Option.bind_some]
    refine Ev.bind (numbers_ev [b, c, d] (by simp)) ?_
    have hc : ([a % 256] : List Int).length + (ints8 [b, c, d]).length < 140737488355328 := by rw [ints8_len]; simp only [List.length_cons, List.length_nil]; omega
    have hc2 : (([a % 256] : List Int) ++ ints8 [b, c, d]).length + (headB l.length ++ logB (l.map toE)).length < 140737488355328 := by
      simp only [List.length_append, ints8_len, headB, List.length_cons, List.length_nil]
      omega
    simp only [if_pos hc]
    refine Ev.bind (entries_ev l hn hs) ?_
    simp only [if_pos hc2]
    have hp := putR_right (x := ⟨a, b, c, d, l.map toE⟩) hm
    rw [hp]
    have eb : ([a % 256] : List Int) ++ ints8 [b, c, d] ++ (headB l.length ++ logB (l.map toE)) = bytesR ⟨a, b, c, d, l.map toE⟩ := by
      unfold bytesR allB
      rw [show a % 256 = a by omega, List.length_map, List.append_assoc]
    rw [eb]
    by_cases hlen : (bytesR ⟨a, b, c, d, l.map toE⟩).length ≤ 1048576
    · rw [if_pos hlen]
      refine Ev.congr (f := fun _ => some (bytesR ⟨a, b, c, d, l.map toE⟩, 0)) (fun k => ?_) (Ev.now _)
      rw [if_neg (by omega)]
    · rw [if_neg hlen]
      refine Ev.congr (f := fun _ => some ([], 6)) (fun k => ?_) (Ev.now _)
      rw [if_pos (by omega)]
  · have hm : ¬ rightR ⟨a, b, c, d, l.map toE⟩ = true := fun h => hr (ht.symm.trans h)
    simp only [if_neg hr]
    have : putR ⟨a, b, c, d, l.map toE⟩ = ([], 1) := by unfold putR; rw [if_neg hm]
    rw [this]
    exact Ev.now _
theorem getrf {l : List Int} (h : ∀ x ∈ l, 0 ≤ x ∧ x ≤ 255) (hl : l.length ≤ 140737488351232) : message_GetRecord.f l = some (getR mkE (fun a b c d l => rightR ⟨a, b, c, d, l⟩) l) := by
  unfold message_GetRecord.f
  rw [if_pos (by rw [all_in h]; simp [hl])]
theorem rgetrf {l : List Int} (h : ∀ x ∈ l, 0 ≤ x ∧ x ≤ 255) (hl : l.length ≤ 140737488351232) : weighhouseref17_GetRecord.f l = some (getR mkR refRR l) := by
  unfold weighhouseref17_GetRecord.f
  rw [if_pos (by rw [all_in h]; simp [hl])]
end Go.Proofs.Ytlmlkcobkmhmbaa.ThMsv
end

section
/- MessageRecords: the pure statement, proved: any record as bytes, any bytes as a record -/
set_option linter.unusedVariables false
set_option linter.unusedSimpArgs false
namespace Go.Proofs.Ytlmlkcobkmhmbaa.PuMessageRecords
open Go.RowKit Go.Proofs.YtlmlkcobkmhmbaaW.PrintWords Go.Proofs.YtlmlkcobkmhmbaaW.Hb Go.Proofs.YtlmlkcobkmhmbaaW.Ho Go.Proofs.Ytlmlkcobkmhmbaa.Q Go.Proofs.Ytlmlkcobkmhmbaa.OpMessageRecords Go.Proofs.Ytlmlkcobkmhmbaa.ThMsg Go.Proofs.Ytlmlkcobkmhmbaa.ThMsl Go.Proofs.Ytlmlkcobkmhmbaa.ThMsr Go.Proofs.Ytlmlkcobkmhmbaa.ThMsu Go.Proofs.Ytlmlkcobkmhmbaa.ThMsv

theorem pure : Pure := by
  intro x b hx hb
  have hlx : x.f4.length * 24 ≤ 140737488351232 := hx.2.2.2.2.1
  have hlb : b.length ≤ 140737488351232 := by
    have h1 : b.length * 1 ≤ 140737488351232 := hb.1
    omega
  have hin : ∀ y ∈ b, 0 ≤ y ∧ y ≤ 255 := fun y hy => by
    have := hb.2.2 y hy
    simp [Lit.wf, IntKind.min, IntKind.max, IntKind.bits, IntKind.signed] at this
    omega
  have hg2 := getR_two b
  have hgl := getR_len b
  obtain ⟨⟨z0, z1, z2, z3, zl, ze⟩, hz⟩ : ∃ z, getR mkR refRR b = z := ⟨_, rfl⟩
  rw [hz] at hg2 hgl
  simp only at hg2 hgl
  refine Ev.rounds (r := true) ?_
  unfold weighhouselaw17_MessageRecords.f
  refine Ev.bind (record_ev x.f0 x.f1 x.f2 x.f3 x.f4 hlx) ?_
  refine Ev.bind (putR_ev x.f0 x.f1 x.f2 x.f3 x.f4) ?_
  refine Ev.bind (rightR_ev x.f0 x.f1 x.f2 x.f3 x.f4) ?_
  simp only [getrf hin hlb, rgetrf hin hlb, hg2, hz, Option.bind_some]
  refine Ev.bind (record_ev z0 z1 z2 z3 zl (by omega)) ?_
  have h1 := sameLog_ev (zl.map toE) (zl.map toE) (by rw [List.length_map]; omega)
  have h2 := sameLog_ev (x.f4.map toE) (x.f4.map toE) (by rw [List.length_map]; omega)
  refine Ev.bind h1 ?_
  refine Ev.bind h2 ?_
  refine Ev.congr (f := fun _ => some true) (fun k => ?_) (Ev.now _)
  rw [if_pos ⟨rfl, by
    have := rightR_f ⟨x.f0, x.f1, x.f2, x.f3, x.f4.map toE⟩
    rw [rightR_two] at this
    exact this, by simp, by simp, by first | trivial | rfl, hlb, rfl, rfl, rfl, rfl, rfl⟩]
end Go.Proofs.Ytlmlkcobkmhmbaa.PuMessageRecords
end
