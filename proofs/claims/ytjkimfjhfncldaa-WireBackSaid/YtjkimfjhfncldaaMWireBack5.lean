/- texts of one claim, merged: each in a section of its own -/
import Derived.Test.YtjkimfjhfncldaaMWireBack3
import Derived.Test.YtjkimfjhfncldaaMWireBack4
section
-- written by hprint.py (a program of these sessions) out of the translation; Lean checks it
namespace Go.Proofs.Ytjkimfjhfncldaa.Q
open Go.RowKit Go.Proofs.YtjkimfjhfncldaaW.Hb Go.Proofs.YtjkimfjhfncldaaW.PrintWords Go.Proofs.YtjkimfjhfncldaaW.PrintLast Go.Proofs.YtjkimfjhfncldaaW.PrintMore
attribute [local go_sem] max2_int min2_int max_two min_two max_three min_three max_four min_four   -- for this text's walks alone
set_option linter.unusedVariables false
set_option linter.unusedSimpArgs false

/-! ### weighhouselaw01_WireBack: function 11, by hand -/
theorem str_bytes (s : ByteArray) : strOfNums (bytesOf s) = s := by
  cases s with
  | mk d =>
    unfold strOfNums bytesOf
    congr 1
    rw [List.map_map]
    have : d.toList.map ((fun n : Int => UInt8.ofNat n.toNat) ∘ fun b : UInt8 => (b.toNat : Int)) = d.toList := by
      conv => rhs; rw [← List.map_id d.toList]
      refine List.map_congr_left (fun b _ => ?_)
      simp
    rw [this]
theorem big8 (n : Int) : bigL n 8 = [n / 2 ^ 56 % 256, n / 2 ^ 48 % 256, n / 2 ^ 40 % 256, n / 2 ^ 32 % 256, n / 2 ^ 24 % 256, n / 2 ^ 16 % 256, n / 2 ^ 8 % 256, n % 256] := by
  simp [bigL, bigB, List.range_succ]
theorem bigL_B (n : Int) (m : Nat) : ∀ x ∈ bigL n m, 0 ≤ x ∧ x ≤ 255 := by
  intro x hx
  obtain ⟨i, _, rfl⟩ := List.mem_map.1 hx
  unfold bigB
  omega
theorem bytesOf_B (s : ByteArray) : ∀ x ∈ bytesOf s, 0 ≤ x ∧ x ≤ 255 := by
  intro x hx
  obtain ⟨b, _, rfl⟩ := List.mem_map.1 hx
  have := b.toNat_lt
  omega
theorem ints8_B (l : List Int) : ∀ x ∈ ints8 l, 0 ≤ x ∧ x ≤ 255 := by
  intro x hx
  obtain ⟨y, _, hy⟩ := List.mem_flatMap.1 hx
  exact bigL_B _ _ x hy
theorem textsB_B (l : List ByteArray) : ∀ x ∈ textsB l, 0 ≤ x ∧ x ≤ 255 := by
  intro x hx
  obtain ⟨y, _, hy⟩ := List.mem_flatMap.1 hx
  rcases List.mem_append.1 hy with h | h
  · exact bigL_B _ _ x h
  · exact bytesOf_B _ x h
theorem numB_eight (x : Int) (h0 : 0 ≤ x) (h1 : x < 18446744073709551616) : (numB 0 (bigL x 8) : Int) = x := by
  obtain ⟨n, rfl⟩ := Int.eq_ofNat_of_zero_le h0
  rw [big8]
  have e : ∀ k : Nat, ((n : Int) / 2 ^ k % 256).toNat = n / 2 ^ k % 256 := fun k => by
    have : ((n : Int) / 2 ^ k % 256) = ((n / 2 ^ k % 256 : Nat) : Int) := by
      rw [Int.natCast_emod, Int.natCast_ediv, Int.natCast_pow]
      rfl
    rw [this, Int.toNat_natCast]
  have e0 : ((n : Int) % 256).toNat = n % 256 := by omega
  simp only [numB, List.foldl_cons, List.foldl_nil, e, e0]
  omega
theorem rInt_back (x : Int) (rest : List Int) (h0 : -9223372036854775808 ≤ x) (h1 : x ≤ 9223372036854775807) : rInt (bigL (IntKind.u64.wrap x) 8 ++ rest) 0 = (x, rest, 0) := by
  have hl := bigL_len' (IntKind.u64.wrap x) 8
  rw [rInt_ok (by rw [List.length_append]; omega), List.take_append_of_le_length (by omega), List.take_of_length_le (by omega), List.drop_append_of_le_length (by omega), List.drop_eq_nil_of_le (by omega), List.nil_append]
  have hn := numB_eight (IntKind.u64.wrap x) (u64_wrap_lo x) (by rw [wrapU64]; omega)
  rw [hn, wrapU64]
  congr 1
  unfold wrap64
  omega
theorem tlen_back (s : ByteArray) (rest : List Int) (h : s.size ≤ 65535) : tlen (textB s ++ rest) = s.size := by
  have h2 : bigL (s.size : Int) 2 = [(s.size : Int) / 256 % 256, (s.size : Int) % 256] := by simp [bigL, bigB, List.range_succ]
  unfold tlen textB
  rw [h2]
  simp only [List.cons_append, List.nil_append, rd, Int.toNat_natCast, List.getD_cons_zero, List.getD_cons_succ]
  omega
theorem rText_back (s : ByteArray) (rest : List Int) (h : s.size ≤ 65535) : rText (textB s ++ rest) 0 = (s, rest, 0) := by
  have hb := bigL_len' (s.size : Int) 2
  have hs := bytesOf_length s
  have ht := tlen_back s rest h
  have hl : (textB s ++ rest).length = 2 + s.size + rest.length := by unfold textB; rw [List.length_append, List.length_append, hb, hs]
  have hd : (textB s ++ rest).drop 2 = bytesOf s ++ rest := by
    unfold textB
    rw [List.append_assoc, List.drop_append_of_le_length (by omega), List.drop_eq_nil_of_le (by omega), List.nil_append]
  rw [rText_ok (by omega) (by rw [ht]; omega), ht, ← List.drop_drop, hd, List.take_append_of_le_length (by omega), List.take_of_length_le (by omega), List.drop_append_of_le_length (by omega), List.drop_eq_nil_of_le (by omega), List.nil_append, str_bytes]
theorem rByte_back (b : Int) (rest : List Int) : rByte (b :: rest) 0 = (b, rest, 0) := by
  rw [rByte_ok (by simp)]
  rfl
theorem ints8_cons (x : Int) (l : List Int) : ints8 (x :: l) = bigL (IntKind.u64.wrap x) 8 ++ ints8 l := rfl
theorem textsB_cons (x : ByteArray) (l : List ByteArray) : textsB (x :: l) = textB x ++ textsB l := rfl
theorem drop_cons_ {α : Type} (l : List α) (j : Nat) (h : j < l.length) : l.drop j = l[j] :: l.drop (j + 1) := List.drop_eq_getElem_cons h
/-- One writer. -/
def OneW (w0 w : World) (g : Nat) (l : List Int) : Prop := ∃ S, Wr w S g l ∧ (∀ k, S k → w0.heap.size ≤ k) ∧ l.length ≤ 1048576 ∧ Below w0.heap.size w0 w
def OneR (w0 w : World) (g : Nat) (xs : List Int) (e : Int) : Prop := ∃ S, Rd w S g xs e ∧ (∀ k, S k → w0.heap.size ≤ k) ∧ Below w0.heap.size w0 w
section
variable {w0 w w' : World} {g : Nat} {l xs : List Int} {e : Int}
theorem OneW.bel (h : OneW w0 w g l) : Below w0.heap.size w0 w := by
  obtain ⟨_, _, _, _, h⟩ := h
  exact h
theorem OneW.below (h : OneW w0 w g l) (hb : Below w.heap.size w w') : OneW w0 w' g l := by
  obtain ⟨S, h1, h2, h3, h4⟩ := h
  exact ⟨S, h1.below hb, h2, h3, h4.trans (hb.mono h4.size)⟩
theorem OneW.step {S : Nat → Prop} {l' : List Int} (h2 : ∀ k, S k → w0.heap.size ≤ k) (h4 : Below w0.heap.size w0 w) (h1 : Wr w' (SS S w w') g l') (hf : Fr w w' S) (hl : l'.length ≤ 1048576) : OneW w0 w' g l' := by
  have hs := h4.size
  refine ⟨SS S w w', h1, fun k hk => ?_, hl, h4.trans (hf.below hs h2)⟩
  rcases hk with hk | hk
  · exact h2 k hk
  · omega
theorem OneR.bel (h : OneR w0 w g xs e) : Below w0.heap.size w0 w := by
  obtain ⟨_, _, _, h⟩ := h
  exact h
theorem OneR.below (h : OneR w0 w g xs e) (hb : Below w.heap.size w w') : OneR w0 w' g xs e := by
  obtain ⟨S, h1, h2, h4⟩ := h
  exact ⟨S, h1.below hb, h2, h4.trans (hb.mono h4.size)⟩
theorem OneR.step {S : Nat → Prop} {xs' : List Int} {e' : Int} (hg : S g) (h2 : ∀ k, S k → w0.heap.size ≤ k) (h4 : Below w0.heap.size w0 w) (h1 : Rd w' S g xs' e') (hf : Fr w w' (fun k => k = g)) : OneR w0 w' g xs' e' := ⟨S, h1, h2, h4.trans (hf.below h4.size (fun k hk => by subst hk; exact h2 _ hg))⟩
theorem Rd.own {S : Nat → Prop} (h : Rd w S g xs e) : S g := by
  obtain ⟨_, _, _, _, h, _⟩ := h
  exact h
theorem intO {l' : List Int} {ec : Int} {p : List Int} (n c : Nat) (A : Option Addr) (hw : wmore l (ints8 p) = (l', ec)) (h : OneW w0 w g l) (hn : p.length = n) (hr : (Kd.int .i64).C w A p.length p) (hc : n ≤ c) (hs : p.length * 8 ≤ 140737488355328) : Calls Try.prog 25 #[.pointer (some ⟨g, 0, none⟩), .slice A n c] w fun en w' => en = .returned (.int .i64 ec) ∧ OneW w0 w' g l' := by
  obtain ⟨S, h1, h2, h3, h4⟩ := h
  have hl := wmore_len h3 (ints8 p)
  have := wire_Writer_Int.calls S g l A n c p w hn hr hc hs h1 h3
  rw [hw] at this hl
  exact this.mono fun en w' ⟨he, h, hf⟩ => ⟨he, OneW.step h2 h4 h hf hl⟩
theorem textO {l' : List Int} {ec : Int} {p : List ByteArray} (n c : Nat) (A : Option Addr) (hw : wtexts l p = (l', ec)) (h : OneW w0 w g l) (hn : p.length = n) (hr : Kd.string.C w A p.length p) (hc : n ≤ c) (hs : (textsB p).length * 1 ≤ 140737488355328) (hs2 : p.length * 48 ≤ 140737488355328) : Calls Try.prog 27 #[.pointer (some ⟨g, 0, none⟩), .slice A n c] w fun en w' => en = .returned (.int .i64 ec) ∧ OneW w0 w' g l' := by
  obtain ⟨S, h1, h2, h3, h4⟩ := h
  have hl := wtexts_len h3 p
  have := wire_Writer_Text.calls S g l A n c p w hn hr hc hs hs2 h1 h3
  rw [hw] at this hl
  exact this.mono fun en w' ⟨he, h, hf⟩ => ⟨he, OneW.step h2 h4 h hf hl⟩
theorem byteO {l' : List Int} {ec : Int} {p : List Int} (n c : Nat) (A : Option Addr) (hw : wbytes l p = (l', ec)) (h : OneW w0 w g l) (hn : p.length = n) (hr : (Kd.int .i64).C w A p.length p) (hc : n ≤ c) (hs : p.length * 8 ≤ 140737488355328) : Calls Try.prog 23 #[.pointer (some ⟨g, 0, none⟩), .slice A n c] w fun en w' => en = .returned (.int .i64 ec) ∧ OneW w0 w' g l' := by
  obtain ⟨S, h1, h2, h3, h4⟩ := h
  have hl := wbytes_len h3 p
  have := wire_Writer_Byte.calls S g l A n c p w hn hr hc hs h1 h3
  rw [hw] at this hl
  exact this.mono fun en w' ⟨he, h, hf⟩ => ⟨he, OneW.step h2 h4 h hf hl⟩
theorem bytesO (h : OneW w0 w g l) : Calls Try.prog 29 #[.pointer (some ⟨g, 0, none⟩)] w (OwnRes (Kd.int .u8) 5 w l) := by
  obtain ⟨S, h1, h2, h3, h4⟩ := h
  exact wire_Writer_Bytes.calls S g l w h1 h3
theorem intR1 {v : Int} {xs' : List Int} (hx : rInt xs 0 = (v, xs', 0)) (h : OneR w0 w g xs 0) : Calls Try.prog 36 #[.pointer (some ⟨g, 0, none⟩)] w fun en w' => en = .returned (.int .i64 v) ∧ OneR w0 w' g xs' 0 := by
  obtain ⟨S, h1, h2, h4⟩ := h
  have := wire_Reader_Int.calls S g xs 0 w h1
  rw [hx] at this
  exact this.mono fun en w' ⟨he, hr, hf⟩ => ⟨he, OneR.step h1.own h2 h4 hr hf⟩
theorem textR1 {v : ByteArray} {xs' : List Int} (hx : rText xs 0 = (v, xs', 0)) (h : OneR w0 w g xs 0) : Calls Try.prog 31 #[.pointer (some ⟨g, 0, none⟩)] w fun en w' => en = .returned (.string v) ∧ OneR w0 w' g xs' 0 := by
  obtain ⟨S, h1, h2, h4⟩ := h
  have := wire_Reader_Text.calls S g xs 0 w h1
  rw [hx] at this
  exact this.mono fun en w' ⟨he, hr, hf⟩ => ⟨he, OneR.step h1.own h2 h4 hr hf⟩
theorem byteR1 {v : Int} {xs' : List Int} (hx : rByte xs 0 = (v, xs', 0)) (h : OneR w0 w g xs 0) : Calls Try.prog 34 #[.pointer (some ⟨g, 0, none⟩)] w fun en w' => en = .returned (.int .i64 v) ∧ OneR w0 w' g xs' 0 := by
  obtain ⟨S, h1, h2, h4⟩ := h
  have := wire_Reader_Byte.calls S g xs 0 w h1
  rw [hx] at this
  exact this.mono fun en w' ⟨he, hr, hf⟩ => ⟨he, OneR.step h1.own h2 h4 hr hf⟩
theorem doneR1 (h : OneR w0 w g xs e) : Calls Try.prog 32 #[.pointer (some ⟨g, 0, none⟩)] w fun en w' => en = .returned (.int .i64 (rDone xs e)) ∧ OneR w0 w' g xs e := by
  obtain ⟨S, h1, h2, h4⟩ := h
  exact (wire_Reader_Done.calls S g xs e w h1).mono fun en w' ⟨he, hb⟩ => ⟨he, hb ▸ ⟨S, h1, h2, h4⟩⟩
end
theorem wmore_yes {l p : List Int} (h : ¬ 1048576 - (l.length : Int) < (p.length : Int)) : wmore l p = (l ++ p, 0) := if_neg h
theorem wmore_no {l p : List Int} (h : 1048576 - (l.length : Int) < (p.length : Int)) : wmore l p = (l, 6) := if_pos h
def isI6 (x : Int) : Bool := decide (-9223372036854775808 ≤ x) && decide (x ≤ 9223372036854775807)
theorem isI6_all {l : List Int} (h : l.all isI6 = true) : ∀ x ∈ l, -9223372036854775808 ≤ x ∧ x ≤ 9223372036854775807 := fun x hx => by
  have := List.all_eq_true.1 h x hx
  simpa [isI6] using this
def okStr (s : ByteArray) : Bool := decide (s.size ≤ 140737488351232)
theorem okStr_all {l : List ByteArray} (h : l.all okStr = true) : ∀ s ∈ l, s.size ≤ 140737488351232 := fun s hs => by
  have := List.all_eq_true.1 h s hs
  simpa [okStr] using this
def weighhouselaw01_WireBack.f (l0 : List Int) (l1 : List ByteArray) (l2 : List Int) : Option Bool := if (l0.all isI6 && l1.all okStr && l2.all isBb) = true then some true else none
set_option maxRecDepth 100000 in
set_option maxHeartbeats 4000000 in
theorem weighhouselaw01_WireBack.calls (A0 : Option Addr) (c0 : Nat) (l0 : List Int) (A1 : Option Addr) (c1 : Nat) (l1 : List ByteArray) (A2 : Option Addr) (c2 : Nat) (l2 : List Int) (r : Bool) (w : World) (hr0 : Kd.C (Kd.int .i64) w A0 l0.length l0) (hc0 : l0.length ≤ c0) (hr1 : Kd.C Kd.string w A1 l1.length l1) (hc1 : l1.length ≤ c1) (hr2 : Kd.C (Kd.int .u8) w A2 l2.length l2) (hc2 : l2.length ≤ c2) (h : weighhouselaw01_WireBack.f l0 l1 l2 = some r) :
    Calls Try.prog 11 #[.slice A0 l0.length c0, .slice A1 l1.length c1, .slice A2 l2.length c2] w fun e w' => e = .returned (.bool r) ∧ Below w.heap.size w w' := by
  unfold weighhouselaw01_WireBack.f at h
  split at h
  rotate_left
  · cases h
  rename_i hall
  obtain rfl := Option.some.inj h
  simp only [Bool.and_eq_true] at hall
  obtain ⟨⟨hi, hst⟩, hby⟩ := hall
  have HI := Aside0.mk (isI6_all hi)
  have HST := Aside0.mk (okStr_all hst)
  have HBY := Aside0.mk (isBb_all hby)
  have HR0 := Aside0.mk hr0
  have HR1 := Aside0.mk hr1
  have HR2 := Aside0.mk hr2
  have hm0 : l0.length ≤ 9223372036854775807 := hr0.2.1
  have hm1 : l1.length ≤ 9223372036854775807 := hr1.2.1
  have hm2 : l2.length ≤ 9223372036854775807 := hr2.2.1
  clear hi hst hby h hr0 hr1 hr2
  go_enter Try.func11, Try.ntmps11
  go_wp2_with (go_at_call 22; (with_reducible refine (wire_NewWriter.calls w).mono ?_); rintro e w1 ⟨g, rfl, hW1, hg1, hB1⟩; have HW1 := Aside0.mk (show OneW w w1 g [] from ⟨_, hW1, fun k hk => by subst hk; exact hg1, by simp, hB1⟩); clear hW1 hB1 hg1)
  go_loopw [8] (fun i wr => ∃ j : Nat, j ≤ l0.length ∧ i = .int .i64 j ∧ Aside0 (OneW w wr g (ints8 (l0.take j)))) (fun i _ => l0.length - (intOf i).toNat)
  case atStart => exact ⟨0, Nat.zero_le _, rfl, HW1⟩
  case round =>
    clear HW1
    obtain ⟨j, hj, rfl, HW⟩ := hrel
    by_cases hlt : j < l0.length
    · obtain ⟨ad, e, hcell⟩ := at_intN HR0.out j hlt
      cases e
      replace hcell := (HW.out.bel.cell (World.block_lt_of_cell? w _ hcell)).trans hcell
      have HT := Aside0.mk (show ints8 (l0.take (j + 1)) = ints8 (l0.take j) ++ ints8 [l0[j]] by rw [ints8_take l0 j hlt]; simp [ints8])
      obtain ⟨x, hx⟩ : ∃ x, x = l0[j] := ⟨_, rfl⟩
      rw [← hx] at hcell HT
      obtain ⟨L, hL⟩ : ∃ L, L = ints8 (l0.take j) := ⟨_, rfl⟩
      rw [← hL] at HW HT
      clear hx hL
      have HC := Aside0.mk (C_lit_int wr wr.heap.size rfl .i64 [x] #[.int .i64 x] rfl 3 (by simp))
      have HW2 := Aside0.mk (HW.out.below ((Below.refl _ _).alloc (Nat.le_refl _) (.cells #[.int .i64 x] 3)))
      by_cases ht : 1048576 - (L.length : Int) < ((ints8 [x]).length : Int)
      · have HM := Aside0.mk (wmore_no ht)
        clear ht
        go_wp2_with (first | (go_at_call 25; (with_reducible refine (intO 1 1 _ HM.out HW2.out rfl HC.out (Nat.le_refl 1) (by simp)).mono ?_); rintro e w2 ⟨rfl, hW3⟩; have HW3 := Aside0.mk hW3; clear hW3) | (go_at_call 17; (with_reducible refine (weighhouselaw01_num.calls 6 6 _ rfl).mono ?_); rintro e w3 ⟨rfl, hd⟩; have HW4 := Aside0.mk (HW3.out.below hd.below); clear hd) | (go_at_call 19; (with_reducible refine (weighhouselaw01_knows.calls true _ rfl).mono ?_); rintro e w4 ⟨rfl, hB4⟩; have HW5 := Aside0.mk (HW4.out.below hB4); clear hB4))
        go_ret
        exact ⟨rfl, HW5.out.bel⟩
      · have HM := Aside0.mk (wmore_yes ht)
        clear ht
        rw [← HT.out] at HM
        go_wp2_with (first | (go_at_call 25; (with_reducible refine (intO 1 1 _ HM.out HW2.out rfl HC.out (Nat.le_refl 1) (by simp)).mono ?_); rintro e w2 ⟨rfl, hW3⟩; have HW3 := Aside0.mk hW3; clear hW3) | (go_at_call 17; (with_reducible refine (weighhouselaw01_num.calls 0 0 _ rfl).mono ?_); rintro e w3 ⟨rfl, hd⟩; have HW4 := Aside0.mk (HW3.out.below hd.below); clear hd))
        go_roundw
        case rel => exact ⟨j + 1, by omega, by go_num, HW4⟩
        case measure => simp [intOf]; omega
    · have hall0 : ints8 (l0.take j) = ints8 l0 := by rw [List.take_of_length_le (by omega)]
      obtain ⟨LI, hLI⟩ : ∃ LI, ints8 l0 = LI := ⟨_, rfl⟩
      have HLI := Aside0.mk hLI
      rw [hall0, hLI] at HW
      clear hall0 hLI
      go_wp2
      go_loopw [9] (fun i wr => ∃ j : Nat, j ≤ l1.length ∧ i = .int .i64 j ∧ Aside0 (OneW w wr g (LI ++ textsB (l1.take j))) ∧ Aside0 (∀ s ∈ l1.take j, tlong s = false)) (fun i _ => l1.length - (intOf i).toNat)
      case atStart => exact ⟨0, Nat.zero_le _, rfl, ⟨by simpa [textsB] using HW.out⟩, ⟨by simp⟩⟩
      case round =>
        clear HW
        obtain ⟨j1, hj1, rfl, HW, HS⟩ := hrel
        by_cases hlt1 : j1 < l1.length
        · obtain ⟨ad, e, hcell⟩ := at_stringN HR1.out j1 hlt1
          cases e
          replace hcell := (HW.out.bel.cell (World.block_lt_of_cell? w _ hcell)).trans hcell
          have HT := Aside0.mk (show LI ++ textsB (l1.take (j1 + 1)) = (LI ++ textsB (l1.take j1)) ++ textsB [l1[j1]] by rw [textsB_take l1 j1 hlt1, List.append_assoc]; simp [textsB])
          have HSN := Aside0.mk (take_long hlt1 HS.out)
          have HSZ := Aside0.mk (HST.out _ (List.getElem_mem hlt1))
          obtain ⟨s, hs⟩ : ∃ s, s = l1[j1] := ⟨_, rfl⟩
          rw [← hs] at hcell HT HSN HSZ
          obtain ⟨L, hL⟩ : ∃ L, L = LI ++ textsB (l1.take j1) := ⟨_, rfl⟩
          rw [← hL] at HW HT
          clear hs hL
          have HC := Aside0.mk (show Kd.string.C (wr.alloc (.cells #[.string s] 9)) (some ⟨wr.heap.size, 0, none⟩) [s].length [s] from C_of_reps (d := Kd.string) (Blk.new wr _ _) [s] (Reps_one (c := [.string s]) rfl rfl) (by simp))
          have HW2 := Aside0.mk (HW.out.below ((Below.refl _ _).alloc (Nat.le_refl _) (.cells #[.string s] 9)))
          have hts : textsB [s] = textB s := by simp [textsB]
          have HTL := Aside0.mk (show (textsB [s]).length * 1 ≤ 140737488355328 by
            have := HSZ.out
            rw [hts]
            unfold textB
            rw [List.length_append, bigL_len', bytesOf_length]
            omega)
          clear hts
          by_cases hlong : s.size ≤ 65535
          rotate_left
          · have HM := Aside0.mk (wtexts_bad (l := L) (List.mem_singleton_self s) (by omega))
            clear hlong
            go_wp2_with (first | (go_at_call 27; (with_reducible refine (textO 1 1 _ HM.out HW2.out rfl HC.out (Nat.le_refl 1) HTL.out (by simp)).mono ?_); rintro e w2 ⟨rfl, hW3⟩; have HW3 := Aside0.mk hW3; clear hW3) | (go_at_call 17; (with_reducible refine (weighhouselaw01_num.calls 6 6 _ rfl).mono ?_); rintro e w3 ⟨rfl, hd⟩; have HW4 := Aside0.mk (HW3.out.below hd.below); clear hd) | (go_at_call 19; (with_reducible refine (weighhouselaw01_knows.calls true _ rfl).mono ?_); rintro e w4 ⟨rfl, hB4⟩; have HW5 := Aside0.mk (HW4.out.below hB4); clear hB4))
            go_ret
            exact ⟨rfl, HW5.out.bel⟩
          have HWT := Aside0.mk (wtexts_ok (l := L) (ss := [s]) (fun x hx => by rw [List.mem_singleton.1 hx]; exact decide_eq_false (by omega)))
          by_cases ht : 1048576 - (L.length : Int) < ((textsB [s]).length : Int)
          · have HM := Aside0.mk (HWT.out.trans (wmore_no ht))
            clear ht HWT
            go_wp2_with (first | (go_at_call 27; (with_reducible refine (textO 1 1 _ HM.out HW2.out rfl HC.out (Nat.le_refl 1) HTL.out (by simp)).mono ?_); rintro e w2 ⟨rfl, hW3⟩; have HW3 := Aside0.mk hW3; clear hW3) | (go_at_call 17; (with_reducible refine (weighhouselaw01_num.calls 6 6 _ rfl).mono ?_); rintro e w3 ⟨rfl, hd⟩; have HW4 := Aside0.mk (HW3.out.below hd.below); clear hd) | (go_at_call 19; (with_reducible refine (weighhouselaw01_knows.calls true _ rfl).mono ?_); rintro e w4 ⟨rfl, hB4⟩; have HW5 := Aside0.mk (HW4.out.below hB4); clear hB4))
            go_ret
            exact ⟨rfl, HW5.out.bel⟩
          · have HM := Aside0.mk (HWT.out.trans (wmore_yes ht))
            have HSN2 := Aside0.mk (HSN.out hlong)
            clear ht HWT
            rw [← HT.out] at HM
            go_wp2_with (first | (go_at_call 27; (with_reducible refine (textO 1 1 _ HM.out HW2.out rfl HC.out (Nat.le_refl 1) HTL.out (by simp)).mono ?_); rintro e w2 ⟨rfl, hW3⟩; have HW3 := Aside0.mk hW3; clear hW3) | (go_at_call 17; (with_reducible refine (weighhouselaw01_num.calls 0 0 _ rfl).mono ?_); rintro e w3 ⟨rfl, hd⟩; have HW4 := Aside0.mk (HW3.out.below hd.below); clear hd))
            go_roundw
            case rel => exact ⟨j1 + 1, by omega, by go_num, HW4, HSN2⟩
            case measure => simp [intOf]; omega
        · have hall1 : l1.take j1 = l1 := List.take_of_length_le (by omega)
          rw [hall1] at HW HS
          obtain ⟨LT, hLT⟩ : ∃ LT, LI ++ textsB l1 = LT := ⟨_, rfl⟩
          have HLT := Aside0.mk hLT
          rw [hLT] at HW
          clear hall1 hLT
          go_wp2
          go_loopw [10] (fun i wr => ∃ j : Nat, j ≤ l2.length ∧ i = .int .i64 j ∧ Aside0 (OneW w wr g (LT ++ l2.take j))) (fun i _ => l2.length - (intOf i).toNat)
          case atStart => exact ⟨0, Nat.zero_le _, rfl, ⟨by simpa using HW.out⟩⟩
          case round =>
            clear HW
            obtain ⟨j2, hj2, rfl, HW⟩ := hrel
            by_cases hlt2 : j2 < l2.length
            · obtain ⟨ad, e, hcell⟩ := at_intN HR2.out j2 hlt2
              cases e
              replace hcell := (HW.out.bel.cell (World.block_lt_of_cell? w _ hcell)).trans hcell
              have HT := Aside0.mk (show LT ++ l2.take (j2 + 1) = (LT ++ l2.take j2) ++ [l2[j2]] by rw [List.take_succ_eq_append_getElem hlt2, List.append_assoc])
              have hxb := HBY.out _ (List.getElem_mem hlt2)
              obtain ⟨x, hx⟩ : ∃ x, x = l2[j2] := ⟨_, rfl⟩
              rw [← hx] at hcell HT hxb
              obtain ⟨hxb0, hxb1⟩ := hxb
              obtain ⟨L, hL⟩ : ∃ L, L = LT ++ l2.take j2 := ⟨_, rfl⟩
              rw [← hL] at HW HT
              clear hx hL
              have HC := Aside0.mk (C_lit_int wr wr.heap.size rfl .i64 [x] #[.int .i64 x] rfl 3 (by simp))
              have HW2 := Aside0.mk (HW.out.below ((Below.refl _ _).alloc (Nat.le_refl _) (.cells #[.int .i64 x] 3)))
              have HWB := Aside0.mk (wbytes_ok (l := L) (xs := [x]) (fun y hy => by rw [List.mem_singleton.1 hy]; exact badB_ok hxb0 hxb1))
              by_cases ht : 1048576 - (L.length : Int) < (([x] : List Int).length : Int)
              · have HM := Aside0.mk (HWB.out.trans (wmore_no ht))
                clear ht HWB
                go_wp2_with (first | (go_at_call 23; (with_reducible refine (byteO 1 1 _ HM.out HW2.out rfl HC.out (Nat.le_refl 1) (by simp)).mono ?_); rintro e w2 ⟨rfl, hW3⟩; have HW3 := Aside0.mk hW3; clear hW3) | (go_at_call 17; (with_reducible refine (weighhouselaw01_num.calls 6 6 _ rfl).mono ?_); rintro e w3 ⟨rfl, hd⟩; have HW4 := Aside0.mk (HW3.out.below hd.below); clear hd) | (go_at_call 19; (with_reducible refine (weighhouselaw01_knows.calls true _ rfl).mono ?_); rintro e w4 ⟨rfl, hB4⟩; have HW5 := Aside0.mk (HW4.out.below hB4); clear hB4))
                go_ret
                exact ⟨rfl, HW5.out.bel⟩
              · have HM := Aside0.mk (HWB.out.trans (wmore_yes ht))
                clear ht HWB
                rw [← HT.out] at HM
                go_wp2_with (first | (go_at_call 23; (with_reducible refine (byteO 1 1 _ HM.out HW2.out rfl HC.out (Nat.le_refl 1) (by simp)).mono ?_); rintro e w2 ⟨rfl, hW3⟩; have HW3 := Aside0.mk hW3; clear hW3) | (go_at_call 17; (with_reducible refine (weighhouselaw01_num.calls 0 0 _ rfl).mono ?_); rintro e w3 ⟨rfl, hd⟩; have HW4 := Aside0.mk (HW3.out.below hd.below); clear hd))
                go_roundw
                case rel => exact ⟨j2 + 1, by omega, by go_num, HW4⟩
                case measure => simp [intOf]; omega
            · have hall2 : l2.take j2 = l2 := List.take_of_length_le (by omega)
              rw [hall2] at HW
              clear hall2
              have HLEN := Aside0.mk (show (LT ++ l2).length ≤ 1048576 from by
                obtain ⟨_, _, _, hh, _⟩ := HW.out
                exact hh)
              have HXB := Aside0.mk (show ∀ x ∈ LT ++ l2, 0 ≤ x ∧ x ≤ 255 from fun x hx => by
                rcases List.mem_append.1 hx with h | h
                · rw [← HLT.out] at h
                  rcases List.mem_append.1 h with h | h
                  · rw [← HLI.out] at h
                    exact ints8_B _ x h
                  · exact textsB_B _ x h
                · exact HBY.out x h)
              have HALL := Aside0.mk (show LT ++ l2 = ints8 (l0.drop 0) ++ (textsB l1 ++ l2) by rw [List.drop_zero, HLI.out, ← HLT.out, List.append_assoc])
              obtain ⟨ALL, hALL⟩ : ∃ ALL, LT ++ l2 = ALL := ⟨_, rfl⟩
              rw [hALL] at HW HLEN HXB HALL
              clear hALL HLT HLI
              go_wp2_with (first | (go_at_call 29; (with_reducible refine (bytesO HW.out).mono ?_); rintro e w2 ⟨v2, rfl, hR2, hB2⟩; obtain ⟨A7, c7, rfl, hc7, hC7⟩ := Kd.R_reads hR2; have HC7 := Aside0.mk hC7; have HB7 := Aside0.mk (HW.out.bel.trans (hB2.mono HW.out.bel.size)); clear hR2 hB2 hC7) | (go_at_call 30; (with_reducible refine (wire_NewReader.calls A7 c7 ALL _ HC7.out hc7 (by have := HLEN.out; omega) HXB.out).mono ?_); rintro e w3 ⟨g3, rfl, hd3, hg3, hB3⟩; have HR3 := Aside0.mk (show OneR w w3 g3 ALL 0 from ⟨_, hd3, fun k hk => Nat.le_trans HB7.out.size hk.1, HB7.out.trans (hB3.mono HB7.out.size)⟩); clear hd3 hg3 hB3))
              rw [HALL.out] at HR3
              clear HW HC7 HB7 HLEN HXB HALL
              go_loopw [12] (fun i wr => ∃ j : Nat, j ≤ l0.length ∧ i = .int .i64 j ∧ Aside0 (OneR w wr g3 (ints8 (l0.drop j) ++ (textsB l1 ++ l2)) 0)) (fun i _ => l0.length - (intOf i).toNat)
              case atStart => exact ⟨0, Nat.zero_le _, rfl, HR3⟩
              case round =>
                clear HR3
                obtain ⟨j, hj, rfl, HR⟩ := hrel
                by_cases hlt : j < l0.length
                · obtain ⟨ad, e, hcell⟩ := at_intN HR0.out j hlt
                  cases e
                  have hx64 := HI.out _ (List.getElem_mem hlt)
                  have hdr := drop_cons_ l0 j hlt
                  obtain ⟨x, hx⟩ : ∃ x, l0[j] = x := ⟨_, rfl⟩
                  rw [hx] at hcell hx64 hdr
                  have HCL := Aside0.mk hcell
                  have HRd := Aside0.mk (HR.out.below ((Below.refl _ _).drew))
                  have HXX := Aside0.mk (rInt_back x (ints8 (l0.drop (j + 1)) ++ (textsB l1 ++ l2)) hx64.1 hx64.2)
                  rw [hdr, ints8_cons, List.append_assoc] at HRd
                  clear hx hx64 hdr hcell HR
                  go_wp2
                  refine start_ (n := 7) (S := fun w' => w'.cell? (ad.add j) = some (.int .i64 x)) (ds := []) #[false, false, false, false, false, false, false] (by kernel_rfl) rfl rfl (((HRd.out.bel.cell (World.block_lt_of_cell? w _ HCL.out)).trans HCL.out)) (fun hHeld => ?_)
                  generalize wr.drew = wd at HRd hHeld ⊢
                  refine pure_ (i := 0) (N := some 74) (v := ?_) (a' := ?_) #[true, false, false, false, false, false, false] rfl rfl (by kernel_rfl) (fun _ _ _ h => h) (Or.inl ⟨by rfl, ?_⟩) ?_ ?_
                  rotate_left
                  · intro w'
                    go_simp
                    with_reducible rfl
                  rotate_left
                  · simp only [Act.put, List.setIfInBounds_toArray, List.set_cons_zero, List.set_cons_succ, i64_w, i32_w]
                    rfl
                  refine pure_ (i := 2) (N := some 76) (v := ?_) (a' := ?_) #[true, false, true, false, false, false, false] rfl rfl (by kernel_rfl) (fun _ _ _ h => h) (Or.inl ⟨by rfl, ?_⟩) ?_ ?_
                  rotate_left
                  · intro w'
                    go_simp
                    with_reducible rfl
                  rotate_left
                  · simp only [Act.put, List.setIfInBounds_toArray, List.set_cons_zero, List.set_cons_succ, i64_w, i32_w]
                    rfl
                  refine pure_ (i := 3) (N := some 77) (v := ?_) (a' := ?_) #[true, false, true, true, false, false, false] rfl rfl (by kernel_rfl) (fun _ _ _ h => h) (Or.inl ⟨by rfl, ?_⟩) ?_ ?_
                  rotate_left
                  · intro w'
                    go_simp
                    with_reducible rfl
                  rotate_left
                  · simp only [Act.put, List.setIfInBounds_toArray, List.set_cons_zero, List.set_cons_succ, i64_w, i32_w]
                    rfl
                  refine pure_ (i := 4) (N := some 78) (v := ?_) (a' := ?_) #[true, false, true, true, true, false, false] rfl rfl (by kernel_rfl) (fun _ _ _ h => h) (Or.inl ⟨by rfl, ?_⟩) ?_ ?_
                  rotate_left
                  · intro w'
                    go_simp
                    with_reducible rfl
                  rotate_left
                  · simp only [Act.put, List.setIfInBounds_toArray, List.set_cons_zero, List.set_cons_succ, i64_w, i32_w]
                    rfl
                  refine take_ (i := 5) (N := some 79) (v := ?_) (a' := ?_) #[true, false, true, true, true, true, false] rfl rfl (by kernel_rfl) (fun _ _ _ h => h) (Or.inl ⟨by rfl, ?_⟩) hHeld ?_ ?_
                  rotate_left
                  · intro w' s0
                    go_simp
                    with_reducible rfl
                  rotate_left
                  · simp only [Act.put, List.setIfInBounds_toArray, List.set_cons_zero, List.set_cons_succ, i64_w, i32_w]
                    rfl
                  refine one_ (i := 1) (N := some 75) #[true, true, true, true, true, true, false] rfl rfl (by kernel_rfl) (by decide) (fun K hK => ?_)
                  refine goes_ Try.func36 (by kernel_rfl) rfl #[.pointer (some ⟨g3, 0, none⟩)] (by rfl) rfl rfl (by simp only [List.map_toArray, List.map_cons, List.map_nil]; rfl) ?_
                  with_reducible refine (intR1 HXX.out HRd.out).mono ?_
                  rintro e w5 ⟨rfl, hR5⟩
                  refine ⟨_, rfl, ?_⟩
                  have HR5 := Aside0.mk hR5
                  clear hR5
                  refine hK.out _ _ (((HR5.out.bel.cell (World.block_lt_of_cell? w _ HCL.out)).trans HCL.out)) (fun hHeld => ?_)
                  clear hK K
                  refine norm_ (a' := ?_) ?_ ?_
                  rotate_left
                  · show Act.put _ (some 75) _ = _
                    simp only [Act.put, List.setIfInBounds_toArray, List.set_cons_zero, List.set_cons_succ, i64_w, i32_w]
                    rfl
                  refine pure_ (i := 6) (N := some 80) (v := ?_) (a' := ?_) #[true, true, true, true, true, true, true] rfl rfl (by kernel_rfl) (fun _ _ _ h => h) (Or.inl ⟨by rfl, ?_⟩) ?_ ?_
                  rotate_left
                  · intro w'
                    go_simp
                    with_reducible rfl
                  rotate_left
                  · simp only [Act.put, List.setIfInBounds_toArray, List.set_cons_zero, List.set_cons_succ, i64_w, i32_w]
                    rfl
                  refine done_ (by kernel_rfl) ?_
                  clear hHeld
                  go_wp2
                  go_roundw
                  case rel => exact ⟨j + 1, by omega, by go_num, HR5⟩
                  case measure => simp [intOf]; omega
                · have hnil : ints8 (l0.drop j) = [] := by rw [List.drop_eq_nil_of_le (by omega)]; rfl
                  rw [hnil, List.nil_append] at HR
                  clear hnil
                  go_wp2
                  go_loopw [13] (fun i wr => ∃ j : Nat, j ≤ l1.length ∧ i = .int .i64 j ∧ Aside0 (OneR w wr g3 (textsB (l1.drop j) ++ l2) 0)) (fun i _ => l1.length - (intOf i).toNat)
                  case atStart => exact ⟨0, Nat.zero_le _, rfl, HR⟩
                  case round =>
                    clear HR
                    obtain ⟨j1, hj1, rfl, HR⟩ := hrel
                    by_cases hlt1 : j1 < l1.length
                    · obtain ⟨ad, e, hcell⟩ := at_stringN HR1.out j1 hlt1
                      cases e
                      have hss := HS.out _ (List.getElem_mem hlt1)
                      have hdr := drop_cons_ l1 j1 hlt1
                      obtain ⟨s, hs⟩ : ∃ s, l1[j1] = s := ⟨_, rfl⟩
                      rw [hs] at hcell hss hdr
                      have HCL := Aside0.mk hcell
                      have HRd := Aside0.mk (HR.out.below ((Below.refl _ _).drew))
                      have HXX := Aside0.mk (rText_back s (textsB (l1.drop (j1 + 1)) ++ l2) (by
                        have := of_decide_eq_false hss
                        omega))
                      rw [hdr, textsB_cons, List.append_assoc] at HRd
                      clear hs hss hdr hcell HR
                      go_wp2
                      refine start_ (n := 7) (S := fun w' => w'.cell? (ad.add j1) = some (.string s)) (ds := []) #[false, false, false, false, false, false, false] (by kernel_rfl) rfl rfl (((HRd.out.bel.cell (World.block_lt_of_cell? w _ HCL.out)).trans HCL.out)) (fun hHeld => ?_)
                      generalize wr.drew = wd at HRd hHeld ⊢
                      refine pure_ (i := 0) (N := some 87) (v := ?_) (a' := ?_) #[true, false, false, false, false, false, false] rfl rfl (by kernel_rfl) (fun _ _ _ h => h) (Or.inl ⟨by rfl, ?_⟩) ?_ ?_
                      rotate_left
                      · intro w'
                        go_simp
                        with_reducible rfl
                      rotate_left
                      · simp only [Act.put, List.setIfInBounds_toArray, List.set_cons_zero, List.set_cons_succ, i64_w, i32_w]
                        rfl
                      refine pure_ (i := 2) (N := some 89) (v := ?_) (a' := ?_) #[true, false, true, false, false, false, false] rfl rfl (by kernel_rfl) (fun _ _ _ h => h) (Or.inl ⟨by rfl, ?_⟩) ?_ ?_
                      rotate_left
                      · intro w'
                        go_simp
                        with_reducible rfl
                      rotate_left
                      · simp only [Act.put, List.setIfInBounds_toArray, List.set_cons_zero, List.set_cons_succ, i64_w, i32_w]
                        rfl
                      refine pure_ (i := 3) (N := some 90) (v := ?_) (a' := ?_) #[true, false, true, true, false, false, false] rfl rfl (by kernel_rfl) (fun _ _ _ h => h) (Or.inl ⟨by rfl, ?_⟩) ?_ ?_
                      rotate_left
                      · intro w'
                        go_simp
                        with_reducible rfl
                      rotate_left
                      · simp only [Act.put, List.setIfInBounds_toArray, List.set_cons_zero, List.set_cons_succ, i64_w, i32_w]
                        rfl
                      refine pure_ (i := 4) (N := some 91) (v := ?_) (a' := ?_) #[true, false, true, true, true, false, false] rfl rfl (by kernel_rfl) (fun _ _ _ h => h) (Or.inl ⟨by rfl, ?_⟩) ?_ ?_
                      rotate_left
                      · intro w'
                        go_simp
                        with_reducible rfl
                      rotate_left
                      · simp only [Act.put, List.setIfInBounds_toArray, List.set_cons_zero, List.set_cons_succ, i64_w, i32_w]
                        rfl
                      refine take_ (i := 5) (N := some 92) (v := ?_) (a' := ?_) #[true, false, true, true, true, true, false] rfl rfl (by kernel_rfl) (fun _ _ _ h => h) (Or.inl ⟨by rfl, ?_⟩) hHeld ?_ ?_
                      rotate_left
                      · intro w' s0
                        go_simp
                        with_reducible rfl
                      rotate_left
                      · simp only [Act.put, List.setIfInBounds_toArray, List.set_cons_zero, List.set_cons_succ, i64_w, i32_w]
                        rfl
                      refine one_ (i := 1) (N := some 88) #[true, true, true, true, true, true, false] rfl rfl (by kernel_rfl) (by decide) (fun K hK => ?_)
                      refine goes_ Try.func31 (by kernel_rfl) rfl #[.pointer (some ⟨g3, 0, none⟩)] (by rfl) rfl rfl (by simp only [List.map_toArray, List.map_cons, List.map_nil]; rfl) ?_
                      with_reducible refine (textR1 HXX.out HRd.out).mono ?_
                      rintro e w5 ⟨rfl, hR5⟩
                      refine ⟨_, rfl, ?_⟩
                      have HR5 := Aside0.mk hR5
                      clear hR5
                      refine hK.out _ _ (((HR5.out.bel.cell (World.block_lt_of_cell? w _ HCL.out)).trans HCL.out)) (fun hHeld => ?_)
                      clear hK K
                      refine norm_ (a' := ?_) ?_ ?_
                      rotate_left
                      · show Act.put _ (some 88) _ = _
                        simp only [Act.put, List.setIfInBounds_toArray, List.set_cons_zero, List.set_cons_succ, i64_w, i32_w]
                        rfl
                      refine pure_ (i := 6) (N := some 93) (v := ?_) (a' := ?_) #[true, true, true, true, true, true, true] rfl rfl (by kernel_rfl) (fun _ _ _ h => h) (Or.inl ⟨by rfl, ?_⟩) ?_ ?_
                      rotate_left
                      · intro w'
                        go_simp
                        with_reducible rfl
                      rotate_left
                      · simp only [Act.put, List.setIfInBounds_toArray, List.set_cons_zero, List.set_cons_succ, i64_w, i32_w]
                        rfl
                      refine done_ (by kernel_rfl) ?_
                      clear hHeld
                      go_wp2
                      go_roundw
                      case rel => exact ⟨j1 + 1, by omega, by go_num, HR5⟩
                      case measure => simp [intOf]; omega
                    · have hnil : textsB (l1.drop j1) = [] := by rw [List.drop_eq_nil_of_le (by omega)]; rfl
                      rw [hnil, List.nil_append] at HR
                      clear hnil
                      go_wp2
                      go_loopw [14] (fun i wr => ∃ j : Nat, j ≤ l2.length ∧ i = .int .i64 j ∧ Aside0 (OneR w wr g3 (l2.drop j) 0)) (fun i _ => l2.length - (intOf i).toNat)
                      case atStart => exact ⟨0, Nat.zero_le _, rfl, HR⟩
                      case round =>
                        clear HR
                        obtain ⟨j2, hj2, rfl, HR⟩ := hrel
                        by_cases hlt2 : j2 < l2.length
                        · obtain ⟨ad, e, hcell⟩ := at_intN HR2.out j2 hlt2
                          cases e
                          have hbb := HBY.out _ (List.getElem_mem hlt2)
                          have hdr := drop_cons_ l2 j2 hlt2
                          obtain ⟨x, hx⟩ : ∃ x, l2[j2] = x := ⟨_, rfl⟩
                          rw [hx] at hcell hbb hdr
                          obtain ⟨hbb0, hbb1⟩ := hbb
                          have hw1 : wrap64 x = x := wrapI (by omega) (by omega)
                          have HCL := Aside0.mk hcell
                          have HRd := Aside0.mk (HR.out.below ((Below.refl _ _).drew))
                          have HXX := Aside0.mk (rByte_back x (l2.drop (j2 + 1)))
                          rw [hdr] at HRd
                          clear hx hdr hcell HR
                          go_wp2
                          refine start_ (n := 8) (S := fun w' => w'.cell? (ad.add j2) = some (.int .u8 x)) (ds := []) #[false, false, false, false, false, false, false, false] (by kernel_rfl) rfl rfl (((HRd.out.bel.cell (World.block_lt_of_cell? w _ HCL.out)).trans HCL.out)) (fun hHeld => ?_)
                          generalize wr.drew = wd at HRd hHeld ⊢
                          refine pure_ (i := 0) (N := some 100) (v := ?_) (a' := ?_) #[true, false, false, false, false, false, false, false] rfl rfl (by kernel_rfl) (fun _ _ _ h => h) (Or.inl ⟨by rfl, ?_⟩) ?_ ?_
                          rotate_left
                          · intro w'
                            go_simp
                            with_reducible rfl
                          rotate_left
                          · simp only [Act.put, List.setIfInBounds_toArray, List.set_cons_zero, List.set_cons_succ, i64_w, i32_w]
                            rfl
                          refine pure_ (i := 2) (N := some 102) (v := ?_) (a' := ?_) #[true, false, true, false, false, false, false, false] rfl rfl (by kernel_rfl) (fun _ _ _ h => h) (Or.inl ⟨by rfl, ?_⟩) ?_ ?_
                          rotate_left
                          · intro w'
                            go_simp
                            with_reducible rfl
                          rotate_left
                          · simp only [Act.put, List.setIfInBounds_toArray, List.set_cons_zero, List.set_cons_succ, i64_w, i32_w]
                            rfl
                          refine pure_ (i := 3) (N := some 103) (v := ?_) (a' := ?_) #[true, false, true, true, false, false, false, false] rfl rfl (by kernel_rfl) (fun _ _ _ h => h) (Or.inl ⟨by rfl, ?_⟩) ?_ ?_
                          rotate_left
                          · intro w'
                            go_simp
                            with_reducible rfl
                          rotate_left
                          · simp only [Act.put, List.setIfInBounds_toArray, List.set_cons_zero, List.set_cons_succ, i64_w, i32_w]
                            rfl
                          refine pure_ (i := 4) (N := some 104) (v := ?_) (a' := ?_) #[true, false, true, true, true, false, false, false] rfl rfl (by kernel_rfl) (fun _ _ _ h => h) (Or.inl ⟨by rfl, ?_⟩) ?_ ?_
                          rotate_left
                          · intro w'
                            go_simp
                            with_reducible rfl
                          rotate_left
                          · simp only [Act.put, List.setIfInBounds_toArray, List.set_cons_zero, List.set_cons_succ, i64_w, i32_w]
                            rfl
                          refine take_ (i := 5) (N := some 105) (v := ?_) (a' := ?_) #[true, false, true, true, true, true, false, false] rfl rfl (by kernel_rfl) (fun _ _ _ h => h) (Or.inl ⟨by rfl, ?_⟩) hHeld ?_ ?_
                          rotate_left
                          · intro w' s0
                            go_simp
                            with_reducible rfl
                          rotate_left
                          · simp only [Act.put, List.setIfInBounds_toArray, List.set_cons_zero, List.set_cons_succ, i64_w, i32_w]
                            rfl
                          refine pure_ (i := 6) (N := some 106) (v := ?_) (a' := ?_) #[true, false, true, true, true, true, true, false] rfl rfl (by kernel_rfl) (fun _ _ _ h => h) (Or.inl ⟨by rfl, ?_⟩) ?_ ?_
                          rotate_left
                          · intro w'
                            go_simp
                            with_reducible rfl
                          rotate_left
                          · simp only [Act.put, List.setIfInBounds_toArray, List.set_cons_zero, List.set_cons_succ, i64_w, i32_w]
                            rfl
                          refine one_ (i := 1) (N := some 101) #[true, true, true, true, true, true, true, false] rfl rfl (by kernel_rfl) (by decide) (fun K hK => ?_)
                          refine goes_ Try.func34 (by kernel_rfl) rfl #[.pointer (some ⟨g3, 0, none⟩)] (by rfl) rfl rfl (by simp only [List.map_toArray, List.map_cons, List.map_nil]; rfl) ?_
                          with_reducible refine (byteR1 HXX.out HRd.out).mono ?_
                          rintro e w5 ⟨rfl, hR5⟩
                          refine ⟨_, rfl, ?_⟩
                          have HR5 := Aside0.mk hR5
                          clear hR5
                          refine hK.out _ _ (((HR5.out.bel.cell (World.block_lt_of_cell? w _ HCL.out)).trans HCL.out)) (fun hHeld => ?_)
                          clear hK K
                          refine norm_ (a' := ?_) ?_ ?_
                          rotate_left
                          · show Act.put _ (some 101) _ = _
                            simp only [Act.put, List.setIfInBounds_toArray, List.set_cons_zero, List.set_cons_succ, i64_w, i32_w]
                            rfl
                          refine pure_ (i := 7) (N := some 107) (v := ?_) (a' := ?_) #[true, true, true, true, true, true, true, true] rfl rfl (by kernel_rfl) (fun _ _ _ h => h) (Or.inl ⟨by rfl, ?_⟩) ?_ ?_
                          rotate_left
                          · intro w'
                            go_simp
                            with_reducible rfl
                          rotate_left
                          · simp only [Act.put, List.setIfInBounds_toArray, List.set_cons_zero, List.set_cons_succ, i64_w, i32_w]
                            rfl
                          refine done_ (by kernel_rfl) ?_
                          clear hHeld hw1
                          go_wp2
                          go_roundw
                          case rel => exact ⟨j2 + 1, by omega, by go_num, HR5⟩
                          case measure => simp [intOf]; omega
                        · have hnil : l2.drop j2 = [] := List.drop_eq_nil_of_le (by omega)
                          rw [hnil] at HR
                          have HDN := Aside0.mk (show rDone [] 0 = 0 from rfl)
                          clear hnil
                          go_wp2_with (first | (go_at_call 32; (with_reducible refine (doneR1 HR.out).mono ?_); rintro e w5 ⟨rfl, hR5⟩; rw [HDN.out]; have HR5 := Aside0.mk hR5; clear hR5) | (go_at_call 17; (with_reducible refine (weighhouselaw01_num.calls 0 0 _ rfl).mono ?_); rintro e w6 ⟨rfl, hd⟩; have HR6 := Aside0.mk (HR5.out.below hd.below); clear hd) | (go_at_call 19; (with_reducible refine (weighhouselaw01_knows.calls true _ rfl).mono ?_); rintro e w7 ⟨rfl, hB7⟩; have HR7 := Aside0.mk (HR6.out.below hB7); clear hB7))
                          go_ret
                          exact ⟨rfl, HR7.out.bel⟩


end Go.Proofs.Ytjkimfjhfncldaa.Q
end

section
/- what the readings of the parameters of WireBack give -/
set_option linter.unusedVariables false
set_option linter.unusedSimpArgs false
namespace Go.Proofs.Ytjkimfjhfncldaa.OpWireBack
open Go.RowKit Go.Proofs.YtjkimfjhfncldaaW.PrintWords Go.Proofs.YtjkimfjhfncldaaW.Hb Go.Proofs.YtjkimfjhfncldaaW.Ho Go.Proofs.Ytjkimfjhfncldaa.Q

theorem opens_slice' {P : Program} {t : TypeId} {α : Type} {d : Kd α} {e B : Nat} {Q : α → Prop} (ht : P.underlying t = some (.slice e)) (hs : P.cellsOf e = d.sz) (hB : P.bytesOf e = B) (hp : Opens P d e Q) :
    Opens P (Kd.slice e d) t (fun xs => xs.length * B ≤ reachBytes ∧ xs.length ≤ maxLen ∧ ∀ x ∈ xs, Q x) := by
  subst hB
  exact opens_slice ht hs hp
end Go.Proofs.Ytjkimfjhfncldaa.OpWireBack
end

section
/- the pure statement of WireBack -/
namespace Go.Proofs.Ytjkimfjhfncldaa.PuWireBack
open Go.RowKit Go.Proofs.YtjkimfjhfncldaaW.PrintWords Go.Proofs.YtjkimfjhfncldaaW.Hb Go.Proofs.YtjkimfjhfncldaaW.Ho Go.Proofs.Ytjkimfjhfncldaa.Q Go.Proofs.Ytjkimfjhfncldaa.OpWireBack
def Pure : Prop := ∀ (x0 : List (Int)) (x1 : List (ByteArray)) (x2 : List (Int)), ((x0).length * 8 ≤ reachBytes ∧ (x0).length ≤ maxLen ∧ ∀ y ∈ (x0), (Lit.int .i64 (y)).wf = true) → ((x1).length * 16 ≤ reachBytes ∧ (x1).length ≤ maxLen ∧ ∀ y ∈ (x1), (y).size ≤ reachBytes) → ((x2).length * 1 ≤ reachBytes ∧ (x2).length ≤ maxLen ∧ ∀ y ∈ (x2), (Lit.int .u8 (y)).wf = true) → weighhouselaw01_WireBack.f x0 x1 x2 = some true
end Go.Proofs.Ytjkimfjhfncldaa.PuWireBack
end

section
/- WireBack: the pure statement, proved: what is written is read as it was, and all of it -/
namespace Go.Proofs.Ytjkimfjhfncldaa.PuWireBack
open Go.RowKit Go.Proofs.YtjkimfjhfncldaaW.PrintWords Go.Proofs.YtjkimfjhfncldaaW.Hb Go.Proofs.YtjkimfjhfncldaaW.Ho Go.Proofs.Ytjkimfjhfncldaa.Q Go.Proofs.Ytjkimfjhfncldaa.OpWireBack
theorem wfB {x : Int} (h : (Lit.int .u8 x).wf = true) : 0 ≤ x ∧ x ≤ 255 := by
  simp only [Lit.wf, IntKind.min, IntKind.max, IntKind.signed, IntKind.bits, Bool.and_eq_true] at h
  simp at h
  omega
theorem wfI {x : Int} (h : (Lit.int .i64 x).wf = true) : -9223372036854775808 ≤ x ∧ x ≤ 9223372036854775807 := by
  simp only [Lit.wf, IntKind.min, IntKind.max, IntKind.signed, IntKind.bits, Bool.and_eq_true] at h
  simp at h
  omega
theorem pure : Pure := by
  intro x0 x1 x2 h0 h1 h2
  unfold weighhouselaw01_WireBack.f
  rw [if_pos]
  rw [Bool.and_eq_true, Bool.and_eq_true, List.all_eq_true, List.all_eq_true, List.all_eq_true]
  refine ⟨⟨fun x hx => ?_, fun x hx => ?_⟩, fun x hx => ?_⟩
  · have := wfI (h0.2.2 x hx)
    simp [isI6, this.1, this.2]
  · have := h1.2.2 x hx
    unfold reachBytes at this
    exact decide_eq_true (by omega)
  · have := wfB (h2.2.2 x hx)
    simp [isBb, this.1, this.2]
end Go.Proofs.Ytjkimfjhfncldaa.PuWireBack
end
