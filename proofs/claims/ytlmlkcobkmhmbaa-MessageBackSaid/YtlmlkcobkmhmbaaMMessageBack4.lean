/- texts of one claim, merged: each in a section of its own -/
import Derived.Test.YtlmlkcobkmhmbaaMMessageBack3
section
-- written by hprint.py (a program of these sessions) out of the translation; Lean checks it
namespace Go.Proofs.Ytlmlkcobkmhmbaa.Q
open Go.RowKit Go.Proofs.YtlmlkcobkmhmbaaW.Hb Go.Proofs.YtlmlkcobkmhmbaaW.PrintWords Go.Proofs.YtlmlkcobkmhmbaaW.PrintLast Go.Proofs.YtlmlkcobkmhmbaaW.PrintMore
attribute [local go_sem] max2_int min2_int max_two min_two max_three min_three max_four min_four   -- for this text's walks alone
set_option linter.unusedVariables false
set_option linter.unusedSimpArgs false

/-! ### wire_Writer_Byte_33: function 33, by hand -/
def badB (n : Int) : Bool := decide (n < 0) || decide (255 < n)
def wbytes (l xs : List Int) : List Int × Int := if xs.any badB then (l, 11) else wmore l xs
theorem badB_no {x : Int} (h : badB x = false) : 0 ≤ x ∧ x ≤ 255 := by
  unfold badB at h
  simp only [Bool.or_eq_false_iff, decide_eq_false_iff_not] at h
  omega
theorem badB_ok {x : Int} (h0 : 0 ≤ x) (h1 : x ≤ 255) : badB x = false := by
  unfold badB
  simp only [Bool.or_eq_false_iff, decide_eq_false_iff_not]
  omega
theorem badB_yes {x : Int} (h : x < 0 ∨ 255 < x) : badB x = true := by
  unfold badB
  simp only [Bool.or_eq_true, decide_eq_true_eq]
  exact h
theorem wbytes_bad {l xs : List Int} {x : Int} (hx : x ∈ xs) (h : x < 0 ∨ 255 < x) : wbytes l xs = (l, 11) := if_pos (List.any_eq_true.2 ⟨x, hx, badB_yes h⟩)
theorem wbytes_ok {l xs : List Int} (h : ∀ x ∈ xs, badB x = false) : wbytes l xs = wmore l xs := if_neg (by
  rw [Bool.not_eq_true, List.any_eq_false]
  intro x hx
  rw [h x hx]
  decide)
theorem take_bad {xs : List Int} {j : Nat} (hj : j < xs.length) (h : ∀ x ∈ xs.take j, badB x = false) (hx : badB xs[j] = false) : ∀ x ∈ xs.take (j + 1), badB x = false := by
  intro x hm
  rw [List.take_succ_eq_append_getElem hj] at hm
  rcases List.mem_append.1 hm with h' | h'
  · exact h x h'
  · rw [List.mem_singleton.1 h']
    exact hx
set_option maxRecDepth 100000 in
set_option maxHeartbeats 2000000 in
theorem wire_Writer_Byte_33.calls (S : Nat → Prop) (g : Nat) (l : List Int) (A : Option Addr) (n c : Nat) (xs : List Int) (w : World) (hn : xs.length = n) (hr : (Kd.int .i64).C w A xs.length xs) (hc : n ≤ c) (hsum : xs.length * 8 ≤ 140737488355328) (hW : Wr w S g l) (hl : l.length ≤ 1048576) :
    Calls Try.prog 33 #[.pointer (some ⟨g, 0, none⟩), .slice A n c] w fun e w' => e = .returned (.int .i64 (wbytes l xs).2) ∧ Wr w' (SS S w w') g (wbytes l xs).1 ∧ Fr w w' S := by
  subst hn
  have hm : xs.length ≤ 9223372036854775807 := hr.2.1
  have HR := Aside0.mk hr
  have HW := Aside0.mk hW
  clear hr hW
  go_enter Try.func33, Try.ntmps33
  go_wp2
  go_loopw [5, 10] (fun v i wr => ∃ j : Nat, j ≤ xs.length ∧ i = .int .i64 j ∧ Aside0 (∀ x ∈ xs.take j, badB x = false) ∧ Aside0 (Kd.R (Kd.int .u8) 5 wr w.heap.size (fun _ => True) v (xs.take j)) ∧ Aside0 (Below w.heap.size w wr)) (fun _ i _ => xs.length - (intOf i).toNat)
  case atStart => exact ⟨0, Nat.zero_le _, rfl, ⟨by simp⟩, ⟨Kd.R_nil _ _ _ _ _⟩, ⟨Below.refl _ _⟩⟩
  case round =>
    obtain ⟨j, hj, rfl, HS, HRj, HB⟩ := hrel
    by_cases hlt : j < xs.length
    · obtain ⟨ad, e, hcell⟩ := at_intN HR.out j hlt
      cases e
      replace hcell := (HB.out.cell (World.block_lt_of_cell? w _ hcell)).trans hcell
      have HT := Aside0.mk (List.take_succ_eq_append_getElem hlt)
      have HMEM := Aside0.mk (List.getElem_mem hlt)
      have HSN := Aside0.mk (take_bad hlt HS.out)
      obtain ⟨x, hx⟩ : ∃ x, x = xs[j] := ⟨_, rfl⟩
      rw [← hx] at HT hcell HMEM HSN
      clear hx
      have HWR := Aside0.mk (HW.out.below HB.out)
      obtain ⟨vw, hbw, hSg, hRw⟩ := HWR.out
      have HBW := Aside0.mk hbw
      clear hbw hRw
      by_cases hneg : x < 0
      · have HWB := Aside0.mk (wbytes_bad (l := l) HMEM.out (Or.inl hneg))
        have d1 : decide (x < 0) = true := decide_eq_true hneg
        clear hneg
        go_wp2_with (go_at_call 57; (with_reducible refine (wire_Writer_none_57.calls g _ true _ HBW.out).mono ?_); rintro e2 w2 ⟨rfl, hw2⟩; subst w2)
        go_ret
        rw [HWB.out]
        exact ⟨rfl, HWR.out.mono (fun k hk => .inl hk), Fr.of_below HB.out S⟩
      by_cases hbig : 255 < x
      · have HWB := Aside0.mk (wbytes_bad (l := l) HMEM.out (Or.inr hbig))
        have d1 : decide (x < 0) = false := decide_eq_false hneg
        have d2 : decide (255 < x) = true := decide_eq_true hbig
        clear hneg hbig
        go_wp2_with (go_at_call 57; (with_reducible refine (wire_Writer_none_57.calls g _ true _ HBW.out).mono ?_); rintro e2 w2 ⟨rfl, hw2⟩; subst w2)
        go_ret
        rw [HWB.out]
        exact ⟨rfl, HWR.out.mono (fun k hk => .inl hk), Fr.of_below HB.out S⟩
      · have d1 : decide (x < 0) = false := decide_eq_false hneg
        have d2 : decide (255 < x) = false := decide_eq_false hbig
        have h0 : 0 ≤ x := by omega
        have h1 : x ≤ 255 := by omega
        have HSN2 := Aside0.mk (HSN.out (badB_ok h0 h1))
        have HL := Aside0.mk (show ((xs.take j).length + 1) * 1 ≤ 140737488355328 by rw [List.length_take]; omega)
        clear hneg hbig
        go_wp2_with ((with_reducible refine gate_builtin (b := .append) (xs := #[.tmp 22, .tmp 25]) rfl ?_); at_builtin; refine Kd.R_append (Kd.int .u8) (w0 := w) w.heap.size rfl (.tmp 22) (.tmp 25) 35 5 (.int .u8 0) 1 rfl Try.underlying35 info5 rfl (by decide) (by omega) u5 (xs.take j) x [.int .u8 x] (fun _ => True) (fun _ => False) rfl rfl rfl (fun _ hk => hk.elim) (fun _ _ => trivial) HRj.out HB.out HB.out.size HL.out ?_; intro v3 w3 hR3 hB3 _ _; have HR3 := Aside0.mk hR3; have HB3 := Aside0.mk hB3; clear hR3 hB3)
        go_roundw
        case rel => exact ⟨j + 1, by omega, by go_num, HSN2, ⟨by rw [HT.out]; exact HR3.out⟩, HB3⟩
        case measure => simp [intOf]; omega
    · have hall : xs.take j = xs := List.take_of_length_le (by omega)
      have hS := HS.out
      have hR := HRj.out
      rw [hall] at hS hR
      have HWB := Aside0.mk (wbytes_ok (l := l) hS)
      obtain ⟨A1, c1, rfl, hc1, hC1⟩ := Kd.R_reads hR
      have HL1 := Aside0.mk (C_lit_one (Kd.int .u8) wr 5 35 A1 xs.length c1 xs rfl hC1 hc1)
      have HB2 := Aside0.mk (HB.out.alloc HB.out.size (.cells #[.slice A1 xs.length c1] 35))
      have HM := Aside0.mk (wire_Writer_more_58.calls S g l (some ⟨wr.heap.size, 0, none⟩) 1 1 [xs] xs (wr.alloc (.cells #[.slice A1 xs.length c1] 35)) rfl HL1.out (Nat.le_refl 1) (by simp) (by omega) (HW.out.below HB2.out) hl)
      clear hR hC1 HRj hS hall HS
      go_wp2_with (go_at_call 58; (with_reducible refine HM.out.mono ?_); rintro e2 w2 ⟨rfl, hw2, hf2⟩; have HE := Aside0.mk (more_end HB2.out hw2 hf2); clear hw2 hf2)
      go_ret
      rw [HWB.out]
      exact ⟨rfl, HE.out.1, HE.out.2⟩
theorem wmore_len {l : List Int} (h : l.length ≤ 1048576) (p : List Int) : (wmore l p).1.length ≤ 1048576 := by
  unfold wmore
  split
  · exact h
  · rw [List.length_append]
    omega
theorem wbytes_len {l : List Int} (h : l.length ≤ 1048576) (p : List Int) : (wbytes l p).1.length ≤ 1048576 := by
  unfold wbytes
  split
  · exact h
  · exact wmore_len h p
theorem wtexts_len {l : List Int} (h : l.length ≤ 1048576) (p : List ByteArray) : (wtexts l p).1.length ≤ 1048576 := by
  unfold wtexts
  split
  · exact h
  · exact wmore_len h _
theorem wmore_yes {l p : List Int} (h : ¬ 1048576 - (l.length : Int) < (p.length : Int)) : wmore l p = (l ++ p, 0) := if_neg h
theorem wmore_no {l p : List Int} (h : 1048576 - (l.length : Int) < (p.length : Int)) : wmore l p = (l, 6) := if_pos h
/-- One writer. -/
def OneW (w0 w : World) (g : Nat) (l : List Int) : Prop := ∃ S, Wr w S g l ∧ (∀ k, S k → w0.heap.size ≤ k) ∧ l.length ≤ 1048576 ∧ Below w0.heap.size w0 w
section
variable {w0 w w' : World} {g : Nat} {l xs : List Int} {e : Int}
theorem OneW.bel (h : OneW w0 w g l) : Below w0.heap.size w0 w := by
  obtain ⟨_, _, _, _, h⟩ := h
  exact h
theorem OneW.below (h : OneW w0 w g l) (hb : Below w.heap.size w w') : OneW w0 w' g l := by
  obtain ⟨S, h1, h2, h3, h4⟩ := h
  exact ⟨S, h1.below hb, h2, h3, h4.trans (hb.mono h4.size)⟩
theorem OneW.step {S : Nat → Prop} {l' : List Int} (h2 : ∀ k, S k → w0.heap.size ≤ k) (h4 : Below w0.heap.size w0 w) (h1 : Wr w' (SS S w w') g l') (hf : Fr w w' S) (hl : l'.length ≤ 1048576) : OneW w0 w' g l' := by
  have hs := h4.size
  refine ⟨SS S w w', h1, fun k hk => ?_, hl, h4.trans (hf.below hs h2)⟩
  rcases hk with hk | hk
  · exact h2 k hk
  · omega
theorem intO {l' : List Int} {ec : Int} {p : List Int} (n c : Nat) (A : Option Addr) (hw : wmore l (ints8 p) = (l', ec)) (h : OneW w0 w g l) (hn : p.length = n) (hr : (Kd.int .i64).C w A p.length p) (hc : n ≤ c) (hs : p.length * 8 ≤ 140737488355328) : Calls Try.prog 34 #[.pointer (some ⟨g, 0, none⟩), .slice A n c] w fun en w' => en = .returned (.int .i64 ec) ∧ OneW w0 w' g l' := by
  obtain ⟨S, h1, h2, h3, h4⟩ := h
  have hl := wmore_len h3 (ints8 p)
  have := wire_Writer_Int_34.calls S g l A n c p w hn hr hc hs h1 h3
  rw [hw] at this hl
  exact this.mono fun en w' ⟨he, h, hf⟩ => ⟨he, OneW.step h2 h4 h hf hl⟩
theorem textO {l' : List Int} {ec : Int} {p : List ByteArray} (n c : Nat) (A : Option Addr) (hw : wtexts l p = (l', ec)) (h : OneW w0 w g l) (hn : p.length = n) (hr : Kd.string.C w A p.length p) (hc : n ≤ c) (hs : (textsB p).length * 1 ≤ 140737488355328) (hs2 : p.length * 48 ≤ 140737488355328) : Calls Try.prog 60 #[.pointer (some ⟨g, 0, none⟩), .slice A n c] w fun en w' => en = .returned (.int .i64 ec) ∧ OneW w0 w' g l' := by
  obtain ⟨S, h1, h2, h3, h4⟩ := h
  have hl := wtexts_len h3 p
  have := wire_Writer_Text_60.calls S g l A n c p w hn hr hc hs hs2 h1 h3
  rw [hw] at this hl
  exact this.mono fun en w' ⟨he, h, hf⟩ => ⟨he, OneW.step h2 h4 h hf hl⟩
theorem byteO {l' : List Int} {ec : Int} {p : List Int} (n c : Nat) (A : Option Addr) (hw : wbytes l p = (l', ec)) (h : OneW w0 w g l) (hn : p.length = n) (hr : (Kd.int .i64).C w A p.length p) (hc : n ≤ c) (hs : p.length * 8 ≤ 140737488355328) : Calls Try.prog 33 #[.pointer (some ⟨g, 0, none⟩), .slice A n c] w fun en w' => en = .returned (.int .i64 ec) ∧ OneW w0 w' g l' := by
  obtain ⟨S, h1, h2, h3, h4⟩ := h
  have hl := wbytes_len h3 p
  have := wire_Writer_Byte_33.calls S g l A n c p w hn hr hc hs h1 h3
  rw [hw] at this hl
  exact this.mono fun en w' ⟨he, h, hf⟩ => ⟨he, OneW.step h2 h4 h hf hl⟩
theorem bytesO (h : OneW w0 w g l) : Calls Try.prog 61 #[.pointer (some ⟨g, 0, none⟩)] w (OwnRes (Kd.int .u8) 5 w l) := by
  obtain ⟨S, h1, h2, h3, h4⟩ := h
  exact wire_Writer_Bytes_61.calls S g l w h1 h3
end


end Go.Proofs.Ytlmlkcobkmhmbaa.Q
end

section
-- written by hprint.py (a program of these sessions) out of the translation; Lean checks it
namespace Go.Proofs.Ytlmlkcobkmhmbaa.Q
open Go.RowKit Go.Proofs.YtlmlkcobkmhmbaaW.Hb Go.Proofs.YtlmlkcobkmhmbaaW.PrintWords Go.Proofs.YtlmlkcobkmhmbaaW.PrintLast Go.Proofs.YtlmlkcobkmhmbaaW.PrintMore
attribute [local go_sem] max2_int min2_int max_two min_two max_three min_three max_four min_four   -- for this text's walks alone
set_option linter.unusedVariables false
set_option linter.unusedSimpArgs false

/-! ### message_pen_must: function 32, by hand -/
/-- A pen: block g over the writer gw, its bytes, its error; G: blocks of others that stay. -/
def Pn (w0 w : World) (g gw : Nat) (l : List Int) (e : Int) (G : Nat → Prop) : Prop := ∃ S, Wr w S gw l ∧ (∀ k, S k → w0.heap.size ≤ k ∧ k ≠ g ∧ ¬ G k ∧ k < w.heap.size) ∧ Blk w g 79 #[.pointer (some ⟨gw, 0, none⟩), .int .i64 e] ∧ w0.heap.size ≤ g ∧ l.length ≤ 1048576 ∧ Below w0.heap.size w0 w ∧ (∀ k, G k → k < w.heap.size ∧ k ≠ g)
def Stay (w w' : World) (G : Nat → Prop) : Prop := ∀ k, G k → w'.heap[k]? = w.heap[k]?
theorem Stay.blk {w w' : World} {G : Nat → Prop} {g : Nat} {t : TypeId} {cs : Array Value} (h : Stay w w' G) (hb : Blk w g t cs) (hg : G g) : Blk w' g t cs := (h g hg).trans hb
section
variable {w0 w w' : World} {g gw : Nat} {l : List Int} {e : Int} {G : Nat → Prop}
theorem Pn.bel (h : Pn w0 w g gw l e G) : Below w0.heap.size w0 w := by
  obtain ⟨_, _, _, _, _, _, h, _⟩ := h
  exact h
theorem Pn.len (h : Pn w0 w g gw l e G) : l.length ≤ 1048576 := by
  obtain ⟨_, _, _, _, _, h, _⟩ := h
  exact h
theorem Pn.blk (h : Pn w0 w g gw l e G) : Blk w g 79 #[.pointer (some ⟨gw, 0, none⟩), .int .i64 e] := by
  obtain ⟨_, _, _, h, _⟩ := h
  exact h
theorem Pn.below (h : Pn w0 w g gw l e G) (hb : Below w.heap.size w w') : Pn w0 w' g gw l e G := by
  obtain ⟨S, h1, h2, h3, h4, h5, h6, h7⟩ := h
  have hs := hb.size
  exact ⟨S, h1.below hb, fun k hk => by have := h2 k hk; exact ⟨this.1, this.2.1, this.2.2.1, by omega⟩, h3.after hb, h4, h5, h6.trans (hb.mono h6.size), fun k hk => by have := h7 k hk; exact ⟨by omega, this.2⟩⟩
theorem Pn.free (h : Pn w0 w g gw l e G) : Pn w0 w g gw l e (fun _ => False) := by
  obtain ⟨S, h1, h2, h3, h4, h5, h6, h7⟩ := h
  exact ⟨S, h1, fun k hk => ⟨(h2 k hk).1, (h2 k hk).2.1, id, (h2 k hk).2.2.2⟩, h3, h4, h5, h6, fun _ h => h.elim⟩
/-- A new block, as a guest. -/
theorem Pn.guest (h : Pn w0 w g gw l e G) (o : Obj) : Pn w0 (w.alloc o) g gw l e (fun k => k = w.heap.size) := by
  have hb : Below w.heap.size w (w.alloc o) := (Below.refl _ _).alloc (Nat.le_refl _) o
  obtain ⟨S, h1, h2, h3, h4, h5, h6, h7⟩ := h.below hb
  obtain ⟨S', g1, g2, g3, g4, g5, g6, g7⟩ := h
  have hg := g3.lt
  refine ⟨S', g1.below hb, fun k hk => ?_, h3, h4, h5, h6, fun k hk => ?_⟩
  · have := g2 k hk
    refine ⟨this.1, this.2.1, by omega, ?_⟩
    simp
    omega
  · subst hk
    simp
    omega
theorem Pn.step {S : Nat → Prop} {l' : List Int} (h2 : ∀ k, S k → w0.heap.size ≤ k ∧ k ≠ g ∧ ¬ G k ∧ k < w.heap.size) (h3 : Blk w g 79 #[.pointer (some ⟨gw, 0, none⟩), .int .i64 e]) (h4 : w0.heap.size ≤ g) (h6 : Below w0.heap.size w0 w) (h7 : ∀ k, G k → k < w.heap.size ∧ k ≠ g) (h1 : Wr w' (SS S w w') gw l') (hf : Fr w w' S) (hl : l'.length ≤ 1048576) : Pn w0 w' g gw l' e G ∧ Stay w w' G := by
  have hs := h6.size
  have hg := h3.lt
  have hs2 := hf.1.size
  refine ⟨⟨SS S w w', h1, fun k hk => ?_, blk_kept h3 hf.2 (fun hk => (h2 g hk).2.1 rfl), h4, hl, h6.trans (hf.below hs (fun k hk => (h2 k hk).1)), fun k hk => ?_⟩, fun k hk => ?_⟩
  · rcases hk with hk | hk
    · have := h2 k hk
      exact ⟨this.1, this.2.1, this.2.2.1, by omega⟩
    · exact ⟨by omega, by omega, fun h => by have := h7 k h; omega, hk.2⟩
  · have := h7 k hk
    exact ⟨by omega, this.2⟩
  · exact hf.2.2 k (h7 k hk).1 (fun h => (h2 k h).2.2.1 hk)
theorem Pn.set_ (h : Pn w0 w g gw l e G) (e' : Int) : Pn w0 (w.setCell ⟨g, 1, none⟩ (.int .i64 e')) g gw l e' G ∧ Stay w (w.setCell ⟨g, 1, none⟩ (.int .i64 e')) G := by
  obtain ⟨S, h1, h2, h3, h4, h5, h6, h7⟩ := h
  have hs : (w.setCell ⟨g, 1, none⟩ (.int .i64 e')).heap.size = w.heap.size := by simp [World.setCell]
  exact ⟨⟨S, h1.kept (Kept.setCell (S := fun k => k = g) (Kept.refl w _) (.inl rfl) _) (fun k hk => (h2 k hk).2.1), fun k hk => by rw [hs]; exact h2 k hk, by simpa using h3.set_ 1 (.int .i64 e'), h4, h5, h6.setCell h4 _, fun k hk => by rw [hs]; exact h7 k hk⟩, fun k hk => Below.heap_setCell w _ _ k (h7 k hk).2⟩
theorem byteP {l' : List Int} {ec : Int} {p : List Int} (n c : Nat) (A : Option Addr) (hw : wbytes l p = (l', ec)) (h : Pn w0 w g gw l e G) (hn : p.length = n) (hr : (Kd.int .i64).C w A p.length p) (hc : n ≤ c) (hs : p.length * 8 ≤ 140737488355328) : Calls Try.prog 33 #[.pointer (some ⟨gw, 0, none⟩), .slice A n c] w fun en w' => en = .returned (.int .i64 ec) ∧ Pn w0 w' g gw l' e G ∧ Stay w w' G := by
  obtain ⟨S, h1, h2, h3, h4, h5, h6, h7⟩ := h
  have hl := wbytes_len h5 p
  have := wire_Writer_Byte_33.calls S gw l A n c p w hn hr hc hs h1 h5
  rw [hw] at this hl
  exact this.mono fun en w' ⟨he, h, hf⟩ => ⟨he, Pn.step h2 h3 h4 h6 h7 h hf hl⟩
theorem intP {l' : List Int} {ec : Int} {p : List Int} (n c : Nat) (A : Option Addr) (hw : wmore l (ints8 p) = (l', ec)) (h : Pn w0 w g gw l e G) (hn : p.length = n) (hr : (Kd.int .i64).C w A p.length p) (hc : n ≤ c) (hs : p.length * 8 ≤ 140737488355328) : Calls Try.prog 34 #[.pointer (some ⟨gw, 0, none⟩), .slice A n c] w fun en w' => en = .returned (.int .i64 ec) ∧ Pn w0 w' g gw l' e G ∧ Stay w w' G := by
  obtain ⟨S, h1, h2, h3, h4, h5, h6, h7⟩ := h
  have hl := wmore_len h5 (ints8 p)
  have := wire_Writer_Int_34.calls S gw l A n c p w hn hr hc hs h1 h5
  rw [hw] at this hl
  exact this.mono fun en w' ⟨he, h, hf⟩ => ⟨he, Pn.step h2 h3 h4 h6 h7 h hf hl⟩
theorem textP {l' : List Int} {ec : Int} {p : List ByteArray} (n c : Nat) (A : Option Addr) (hw : wtexts l p = (l', ec)) (h : Pn w0 w g gw l e G) (hn : p.length = n) (hr : Kd.string.C w A p.length p) (hc : n ≤ c) (hs : (textsB p).length * 1 ≤ 140737488355328) (hs2 : p.length * 48 ≤ 140737488355328) : Calls Try.prog 60 #[.pointer (some ⟨gw, 0, none⟩), .slice A n c] w fun en w' => en = .returned (.int .i64 ec) ∧ Pn w0 w' g gw l' e G ∧ Stay w w' G := by
  obtain ⟨S, h1, h2, h3, h4, h5, h6, h7⟩ := h
  have hl := wtexts_len h5 p
  have := wire_Writer_Text_60.calls S gw l A n c p w hn hr hc hs hs2 h1 h5
  rw [hw] at this hl
  exact this.mono fun en w' ⟨he, h, hf⟩ => ⟨he, Pn.step h2 h3 h4 h6 h7 h hf hl⟩
theorem bytesP (h : Pn w0 w g gw l e G) : Calls Try.prog 61 #[.pointer (some ⟨gw, 0, none⟩)] w (OwnRes (Kd.int .u8) 5 w l) := by
  obtain ⟨S, h1, h2, h3, h4, h5, h6, h7⟩ := h
  exact wire_Writer_Bytes_61.calls S gw l w h1 h5
end
def mustE (e ec : Int) : Int := if e = 0 then ec else e
theorem mustE_0 (ec : Int) : mustE 0 ec = ec := rfl
theorem mustE_n {e : Int} (h : e ≠ 0) (ec : Int) : mustE e ec = e := if_neg h
set_option maxRecDepth 100000 in
theorem message_pen_must.calls (w0 w : World) (g gw : Nat) (l : List Int) (e ec : Int) (G : Nat → Prop) (h : Pn w0 w g gw l e G) :
    Calls Try.prog 32 #[.pointer (some ⟨g, 0, none⟩), .int .i64 ec] w fun en w' => en = .returned (.tuple #[]) ∧ Pn w0 w' g gw l (mustE e ec) G ∧ Stay w w' G := by
  have HP := Aside0.mk h
  have h1 : w.cell? ⟨g, 1, none⟩ = some (.int .i64 e) := h.blk.cell 1
  have f1 : w.frozen? ⟨g, 1, none⟩ = false := h.blk.frozen 1
  clear h
  by_cases he : e = 0
  · subst he
    go_enter Try.func32, Try.ntmps32
    go_wp2
    refine bodyPost_end (results_none rfl _ _ _) rfl ?_
    exact ⟨rfl, HP.out.set_ _⟩
  · have hb : (e == 0) = false := by simp [he]
    have HX := Aside0.mk (mustE_n he ec)
    clear he
    go_enter Try.func32, Try.ntmps32
    go_wp2
    refine bodyPost_end (results_none rfl _ _ _) rfl ?_
    rw [HX.out]
    exact ⟨rfl, HP.out, fun _ _ => rfl⟩


end Go.Proofs.Ytlmlkcobkmhmbaa.Q
end

section
-- written by hprint.py (a program of these sessions) out of the translation; Lean checks it
namespace Go.Proofs.Ytlmlkcobkmhmbaa.Q
open Go.RowKit Go.Proofs.YtlmlkcobkmhmbaaW.Hb Go.Proofs.YtlmlkcobkmhmbaaW.PrintWords Go.Proofs.YtlmlkcobkmhmbaaW.PrintLast Go.Proofs.YtlmlkcobkmhmbaaW.PrintMore
attribute [local go_sem] max2_int min2_int max_two min_two max_three min_three max_four min_four   -- for this text's walks alone
set_option linter.unusedVariables false
set_option linter.unusedSimpArgs false

/-! ### message_pen_all: function 36, by hand -/
def penRes (e : Int) (l : List Int) : List Int := if e = 0 then l else []
theorem penRes_0 (l : List Int) : penRes 0 l = l := rfl
theorem penRes_n {e : Int} (h : e ≠ 0) (l : List Int) : penRes e l = [] := if_neg h
set_option maxRecDepth 100000 in
theorem message_pen_all.calls (w0 w : World) (g gw : Nat) (l : List Int) (e : Int) (G : Nat → Prop) (h : Pn w0 w g gw l e G) :
    Calls Try.prog 36 #[.pointer (some ⟨g, 0, none⟩)] w fun en w' => ∃ v, en = .returned (.tuple #[v, .int .i64 e]) ∧ Kd.R (Kd.int .u8) 5 w' w.heap.size (fun _ => True) v (penRes e l) ∧ Below w.heap.size w w' := by
  have HP := Aside0.mk h
  have h0 : w.cell? ⟨g, 0, none⟩ = some (.pointer (some ⟨gw, 0, none⟩)) := h.blk.cell 0
  have h1 : w.cell? ⟨g, 1, none⟩ = some (.int .i64 e) := h.blk.cell 1
  clear h
  by_cases he : e = 0
  · subst he
    go_enter Try.func36, Try.ntmps36
    go_wp2_with (go_at_call 61; (with_reducible refine (bytesP HP.out).mono ?_); rintro e2 w2 ⟨v2, rfl, hR2, hB2⟩; have HR2 := Aside0.mk hR2; have HB2 := Aside0.mk hB2; clear hR2 hB2)
    go_ret2
    exact ⟨_, rfl, HR2.out, HB2.out⟩
  · have hb : (e == 0) = false := by simp [he]
    have hb2 : (e != 0) = true := by simp [he]
    have HX := Aside0.mk he
    clear he
    go_enter Try.func36, Try.ntmps36
    go_wp2
    have h1d : w.drew.cell? ⟨g, 1, none⟩ = some (.int .i64 e) := h1
    go_region
    all_goals go_wp2
    all_goals go_ret2
    all_goals exact ⟨_, rfl, by rw [penRes_n HX.out]; exact Kd.R_nil _ _ _ _ _, (Below.refl _ _).drew⟩


end Go.Proofs.Ytlmlkcobkmhmbaa.Q
end

section
-- written by hprint.py (a program of these sessions) out of the translation; Lean checks it
namespace Go.Proofs.Ytlmlkcobkmhmbaa.Q
open Go.RowKit Go.Proofs.YtlmlkcobkmhmbaaW.Hb Go.Proofs.YtlmlkcobkmhmbaaW.PrintWords Go.Proofs.YtlmlkcobkmhmbaaW.PrintLast Go.Proofs.YtlmlkcobkmhmbaaW.PrintMore
attribute [local go_sem] max2_int min2_int max_two min_two max_three min_three max_four min_four   -- for this text's walks alone
set_option linter.unusedVariables false
set_option linter.unusedSimpArgs false

/-! ### message_pen_log: function 35, by hand -/
def wput1 (st : List Int × Int) (x : S74) : List Int × Int := ((wtexts (wmore st.1 (ints8 [x.f0])).1 [x.f1]).1, mustE (mustE st.2 (wmore st.1 (ints8 [x.f0])).2) (wtexts (wmore st.1 (ints8 [x.f0])).1 [x.f1]).2)
def wputs (st : List Int × Int) (xs : List S74) : List Int × Int := xs.foldl wput1 st
def whead (st : List Int × Int) (n : Int) : List Int × Int := ((wbytes st.1 [n / 256, n % 256]).1, mustE st.2 (wbytes st.1 [n / 256, n % 256]).2)
def wlog (st : List Int × Int) (xs : List S74) : List Int × Int := wputs (whead st xs.length) xs
theorem wput1_is {L L1 L2 : List Int} {E E1 E2 v : Int} {s : ByteArray} (h1 : wmore L (ints8 [v]) = (L1, E1)) (h2 : wtexts L1 [s] = (L2, E2)) : wput1 (L, E) ⟨v, s⟩ = (L2, mustE (mustE E E1) E2) := by
  unfold wput1
  simp only [h1, h2]
theorem wputs_take (st : List Int × Int) (xs : List S74) (k : Nat) (hk : k < xs.length) : wputs st (xs.take (k + 1)) = wput1 (wputs st (xs.take k)) xs[k] := by
  unfold wputs
  rw [List.take_succ_eq_append_getElem hk, List.foldl_append]
  rfl
theorem i64_and255 (n : Nat) (hn : n < 65536) : Go.bits .and .i64 (n : Int) 255 = (n : Int) % 256 := by
  have h1 : (BitVec.ofInt 64 (n : Int)).toNat = n := by
    rw [BitVec.ofInt_natCast, BitVec.toNat_ofNat]; exact Nat.mod_eq_of_lt (by omega)
  have h2 : (BitVec.ofInt 64 (255 : Int)).toNat = 255 := by decide
  have h3 : n &&& 255 = n % 256 := Nat.and_two_pow_sub_one_eq_mod n 8
  show IntKind.i64.wrap ((BitVec.ofInt 64 (n : Int) &&& BitVec.ofInt 64 255).toNat : Int) = _
  rw [BitVec.toNat_and, h1, h2, h3, i64_w]
  have := wrapI (n := ((n % 256 : Nat) : Int)) (by omega) (by omega)
  rw [this]
  omega
theorem C_one_str (W : World) (s : ByteArray) (t : TypeId) : Kd.string.C (W.alloc (.cells #[.string s] t)) (some ⟨W.heap.size, 0, none⟩) [s].length [s] := C_of_reps (d := Kd.string) (Blk.new W _ _) [s] (Reps_one (c := [.string s]) rfl rfl) (by simp)
theorem textsB_one (s : ByteArray) (h : s.size ≤ 140737488351232) : (textsB [s]).length * 1 ≤ 140737488355328 := by
  have hts : textsB [s] = textB s := by simp [textsB]
  rw [hts]
  unfold textB
  rw [List.length_append, bigL_len', bytesOf_length]
  omega
set_option maxRecDepth 100000 in
set_option maxHeartbeats 2000000 in
theorem message_pen_log.calls (w0 w : World) (g gw : Nat) (l : List Int) (e : Int) (A : Option Addr) (c : Nat) (xs : List S74) (h : Pn w0 w g gw l e (fun _ => False)) (hr : Kd.C k74 w0 A xs.length xs) (hc : xs.length ≤ c) (hn : xs.length ≤ 2048) (hs : ∀ x ∈ xs, x.f1.size ≤ 16384) :
    Calls Try.prog 35 #[.pointer (some ⟨g, 0, none⟩), .slice A xs.length c] w fun en w' => en = .returned (.tuple #[]) ∧ Pn w0 w' g gw (wlog (l, e) xs).1 (wlog (l, e) xs).2 (fun _ => False) := by
  have HP := Aside0.mk h
  have HR := Aside0.mk hr
  have HSZ := Aside0.mk hs
  have h0 : w.cell? ⟨g, 0, none⟩ = some (.pointer (some ⟨gw, 0, none⟩)) := h.blk.cell 0
  have han := i64_and255 xs.length (by omega)
  obtain ⟨q1, hq1⟩ : ∃ q1 : Int, q1 = (xs.length : Int) / 256 := ⟨_, rfl⟩
  obtain ⟨q2, hq2⟩ : ∃ q2 : Int, (xs.length : Int) % 256 = q2 := ⟨_, rfl⟩
  rw [hq2] at han
  obtain ⟨l1, e1, hw1⟩ : ∃ l1 e1, wbytes l [q1, q2] = (l1, e1) := ⟨_, _, rfl⟩
  have HW1 := Aside0.mk hw1
  have HX := Aside0.mk (show wlog (l, e) xs = wputs (l1, mustE e e1) xs by unfold wlog whead; rw [← hq1, hq2, hw1])
  have HC := Aside0.mk (C_lit_int w w.heap.size rfl .i64 [q1, q2] #[.int .i64 q1, .int .i64 q2] rfl 3 (by simp))
  have HP1 := Aside0.mk (HP.out.below ((Below.refl _ _).alloc (Nat.le_refl _) (.cells #[.int .i64 q1, .int .i64 q2] 3)))
  rw [hq1] at HC HP1 HW1
  clear h hr hs hq2 hw1
  go_enter Try.func35, Try.ntmps35
  go_wp2_with (first | (go_at_call 33; (with_reducible refine (byteP 2 2 _ HW1.out HP1.out rfl HC.out (Nat.le_refl 2) (by simp)).mono ?_); rintro e2 w2 ⟨rfl, hP2, _⟩; have HP2 := Aside0.mk hP2; clear hP2) | (go_at_call 32; (with_reducible refine (message_pen_must.calls w0 _ g gw l1 e e1 _ HP2.out).mono ?_); rintro e3 w3 ⟨rfl, hP3, _⟩; have HP3 := Aside0.mk hP3; clear hP3))
  go_loopw [22] (fun i wr => ∃ k : Nat, k ≤ xs.length ∧ i = .int .i64 k ∧ Aside0 (Pn w0 wr g gw (wputs (l1, mustE e e1) (xs.take k)).1 (wputs (l1, mustE e e1) (xs.take k)).2 (fun _ => False))) (fun i _ => xs.length - (intOf i).toNat)
  case atStart => exact ⟨0, Nat.zero_le _, rfl, HP3⟩
  case round =>
    clear HP HP1 HP2 HP3 HC HW1
    obtain ⟨k, hk, rfl, HP⟩ := hrel
    by_cases hlt : k < xs.length
    · obtain ⟨ad, ea, hcell, hcell1⟩ := at_EntryN (Kd.C_below HR.out HP.out.bel) k hlt
      cases ea
      have HT := Aside0.mk (wputs_take (l1, mustE e e1) xs k hlt)
      have HZ := Aside0.mk (HSZ.out _ (List.getElem_mem hlt))
      obtain ⟨x, hx⟩ : ∃ x, xs[k] = x := ⟨_, rfl⟩
      rw [hx] at hcell hcell1 HT HZ
      obtain ⟨st, hst⟩ : ∃ st, wputs (l1, mustE e e1) (xs.take k) = st := ⟨_, rfl⟩
      rw [hst] at HP HT
      obtain ⟨L, E⟩ := st
      obtain ⟨v, s⟩ := x
      obtain ⟨L1, E1, hm1⟩ : ∃ L1 E1, wmore L (ints8 [v]) = (L1, E1) := ⟨_, _, rfl⟩
      obtain ⟨L2, E2, hm2⟩ : ∃ L2 E2, wtexts L1 [s] = (L2, E2) := ⟨_, _, rfl⟩
      have HM1 := Aside0.mk hm1
      have HM2 := Aside0.mk hm2
      rw [wput1_is hm1 hm2] at HT
      have HTB := Aside0.mk (textsB_one s (by have := HZ.out; simp only at this; omega))
      have HPd := Aside0.mk ((HP.out.guest (.cells #[.int .i64 v, .string s] 74)).below ((Below.refl _ _).drew))
      have HXd := Aside0.mk ((Blk.new wr 74 #[.int .i64 v, .string s]).drew)
      clear hx hst hm1 hm2 HP
      go_wp2
      generalize wr.alloc (.cells #[.int .i64 v, .string s] 74) = W1 at HPd HXd ⊢
      generalize wr.heap.size = xb at HPd HXd ⊢
      refine start_ (n := 10) (S := fun w' => w'.cell? ⟨g, 0, none⟩ = some (.pointer (some ⟨gw, 0, none⟩)) ∧ w'.cell? ⟨xb, 0, none⟩ = some (.int .i64 v)) (ds := [8, 9]) #[false, false, false, false, false, false, false, false, false, false] (by kernel_rfl) rfl rfl ⟨(HPd.out.blk.cell 0), (HXd.out.cell 0)⟩ (fun hHeld => ?_)
      generalize W1.drew = wd at HPd HXd hHeld ⊢
      refine pure_ (i := 0) (N := some 26) (v := ?_) (a' := ?_) #[true, false, false, false, false, false, false, false, false, false] rfl rfl (by kernel_rfl) (fun _ _ _ h => h) (Or.inl ⟨by rfl, ?_⟩) ?_ ?_
      rotate_left
      · intro w'
        go_simp
        with_reducible rfl
      rotate_left
      · simp only [Act.put, List.setIfInBounds_toArray, List.set_cons_zero, List.set_cons_succ, i64_w, i32_w]
        rfl
      refine pure_ (i := 1) (N := some 27) (v := ?_) (a' := ?_) #[true, true, false, false, false, false, false, false, false, false] rfl rfl (by kernel_rfl) (fun _ _ _ h => h) (Or.inl ⟨by rfl, ?_⟩) ?_ ?_
      rotate_left
      · intro w'
        go_simp
        with_reducible rfl
      rotate_left
      · simp only [Act.put, List.setIfInBounds_toArray, List.set_cons_zero, List.set_cons_succ, i64_w, i32_w]
        rfl
      refine pure_ (i := 2) (N := some 28) (v := ?_) (a' := ?_) #[true, true, true, false, false, false, false, false, false, false] rfl rfl (by kernel_rfl) (fun _ _ _ h => h) (Or.inl ⟨by rfl, ?_⟩) ?_ ?_
      rotate_left
      · intro w'
        go_simp
        with_reducible rfl
      rotate_left
      · simp only [Act.put, List.setIfInBounds_toArray, List.set_cons_zero, List.set_cons_succ, i64_w, i32_w]
        rfl
      refine pure_ (i := 3) (N := some 29) (v := ?_) (a' := ?_) #[true, true, true, true, false, false, false, false, false, false] rfl rfl (by kernel_rfl) (fun _ _ _ h => h) (Or.inl ⟨by rfl, ?_⟩) ?_ ?_
      rotate_left
      · intro w'
        go_simp
        with_reducible rfl
      rotate_left
      · simp only [Act.put, List.setIfInBounds_toArray, List.set_cons_zero, List.set_cons_succ, i64_w, i32_w]
        rfl
      refine pure_ (i := 5) (N := some 31) (v := ?_) (a' := ?_) #[true, true, true, true, false, true, false, false, false, false] rfl rfl (by kernel_rfl) (fun _ _ _ h => h) (Or.inl ⟨by rfl, ?_⟩) ?_ ?_
      rotate_left
      · intro w'
        go_simp
        with_reducible rfl
      rotate_left
      · simp only [Act.put, List.setIfInBounds_toArray, List.set_cons_zero, List.set_cons_succ, i64_w, i32_w]
        rfl
      refine take_ (i := 4) (N := some 30) (v := ?_) (a' := ?_) #[true, true, true, true, true, true, false, false, false, false] rfl rfl (by kernel_rfl) (fun _ _ _ h => h) (Or.inl ⟨by rfl, ?_⟩) hHeld ?_ ?_
      rotate_left
      · rintro w' ⟨s0, s1⟩
        go_simp
        with_reducible rfl
      rotate_left
      · simp only [Act.put, List.setIfInBounds_toArray, List.set_cons_zero, List.set_cons_succ, i64_w, i32_w]
        rfl
      refine take_ (i := 6) (N := some 32) (v := ?_) (a' := ?_) #[true, true, true, true, true, true, true, false, false, false] rfl rfl (by kernel_rfl) (fun _ _ _ h => h) (Or.inl ⟨by rfl, ?_⟩) hHeld ?_ ?_
      rotate_left
      · rintro w' ⟨s0, s1⟩
        go_simp
        with_reducible rfl
      rotate_left
      · simp only [Act.put, List.setIfInBounds_toArray, List.set_cons_zero, List.set_cons_succ, i64_w, i32_w]
        rfl
      refine one_ (i := 7) (N := some 33) #[true, true, true, true, true, true, true, true, false, false] rfl rfl (by kernel_rfl) (by decide) (fun K hK => ?_)
      refine value_ (w1 := ?_) (v := ?_) (by rfl) rfl ?_ ?_
      rotate_left 2
      · go_simp
        constructor
        · rfl
        · rfl
      have HC2 := Aside0.mk (C_lit_int wd wd.heap.size rfl .i64 [v] #[.int .i64 v] rfl 3 (by simp))
      have HB2 := Aside0.mk ((Below.refl _ wd).alloc (Nat.le_refl _) (.cells #[.int .i64 v] 3))
      have HP2 := Aside0.mk (HPd.out.below HB2.out)
      have HX2 := Aside0.mk (HXd.out.after HB2.out)
      refine hK.out _ _ ⟨(HP2.out.blk.cell 0), (HX2.out.cell 0)⟩ (fun hHeld => ?_)
      clear hK K
      refine norm_ (a' := ?_) ?_ ?_
      rotate_left
      · show Act.put _ (some 33) _ = _
        simp only [Act.put, List.setIfInBounds_toArray, List.set_cons_zero, List.set_cons_succ, i64_w, i32_w]
        rfl
      refine last_ (i := 8) (N := some 34) #[true, true, true, true, true, true, true, true, true, false] rfl rfl (by kernel_rfl) (by decide) (fun K hK => ?_)
      refine goes_ Try.func34 (by kernel_rfl) rfl #[.pointer (some ⟨gw, 0, none⟩), .slice (some ⟨wd.heap.size, 0, none⟩) 1 1] (by rfl) rfl rfl (by simp only [List.map_toArray, List.map_cons, List.map_nil]; rfl) ?_
      with_reducible refine (intP 1 1 _ HM1.out HP2.out rfl HC2.out (Nat.le_refl 1) (by simp)).mono ?_
      rintro e5 w5 ⟨rfl, hP5, hS5⟩
      refine ⟨_, rfl, ?_⟩
      have HP5 := Aside0.mk hP5
      have HX5 := Aside0.mk (hS5.blk HX2.out rfl)
      clear hP5 hS5
      refine hK.out _ _ ?_
      clear hK K
      refine norm_ (a' := ?_) ?_ ?_
      rotate_left
      · show Act.put _ (some 34) _ = _
        simp only [Act.put, List.setIfInBounds_toArray, List.set_cons_zero, List.set_cons_succ, i64_w, i32_w]
        rfl
      refine last_ (i := 9) (N := some 35) #[true, true, true, true, true, true, true, true, true, true] rfl rfl (by kernel_rfl) (by decide) (fun K hK => ?_)
      refine goes_ Try.func32 (by kernel_rfl) rfl #[.pointer (some ⟨g, 0, none⟩), .int .i64 E1] (by rfl) rfl rfl (by simp only [List.map_toArray, List.map_cons, List.map_nil]; rfl) ?_
      with_reducible refine (message_pen_must.calls w0 _ g gw L1 E E1 _ HP5.out).mono ?_
      rintro e6 w6 ⟨rfl, hP6, hS6⟩
      refine ⟨_, rfl, ?_⟩
      have HP6 := Aside0.mk hP6
      have HX6 := Aside0.mk (hS6.blk HX5.out rfl)
      clear hP6 hS6
      refine hK.out _ _ ?_
      clear hK K
      refine norm_ (a' := ?_) ?_ ?_
      rotate_left
      · show Act.put _ (some 35) _ = _
        simp only [Act.put, List.setIfInBounds_toArray, List.set_cons_zero, List.set_cons_succ, i64_w, i32_w]
        rfl
      refine done_ (by kernel_rfl) ?_
      clear hHeld HPd HXd HC2 HB2 HP2 HX2 HP5 HX5
      go_wp2
      have HPe := Aside0.mk (HP6.out.below ((Below.refl _ _).drew))
      have HXe := Aside0.mk HX6.out.drew
      refine start_ (n := 10) (S := fun w' => w'.cell? ⟨g, 0, none⟩ = some (.pointer (some ⟨gw, 0, none⟩)) ∧ w'.cell? ⟨xb, 1, none⟩ = some (.string s)) (ds := [8, 9]) #[false, false, false, false, false, false, false, false, false, false] (by kernel_rfl) rfl rfl ⟨(HPe.out.blk.cell 0), (HXe.out.cell 1)⟩ (fun hHeld => ?_)
      generalize w6.drew = we at HPe HXe hHeld ⊢
      refine pure_ (i := 0) (N := some 36) (v := ?_) (a' := ?_) #[true, false, false, false, false, false, false, false, false, false] rfl rfl (by kernel_rfl) (fun _ _ _ h => h) (Or.inl ⟨by rfl, ?_⟩) ?_ ?_
      rotate_left
      · intro w'
        go_simp
        with_reducible rfl
      rotate_left
      · simp only [Act.put, List.setIfInBounds_toArray, List.set_cons_zero, List.set_cons_succ, i64_w, i32_w]
        rfl
      refine pure_ (i := 1) (N := some 37) (v := ?_) (a' := ?_) #[true, true, false, false, false, false, false, false, false, false] rfl rfl (by kernel_rfl) (fun _ _ _ h => h) (Or.inl ⟨by rfl, ?_⟩) ?_ ?_
      rotate_left
      · intro w'
        go_simp
        with_reducible rfl
      rotate_left
      · simp only [Act.put, List.setIfInBounds_toArray, List.set_cons_zero, List.set_cons_succ, i64_w, i32_w]
        rfl
      refine pure_ (i := 2) (N := some 38) (v := ?_) (a' := ?_) #[true, true, true, false, false, false, false, false, false, false] rfl rfl (by kernel_rfl) (fun _ _ _ h => h) (Or.inl ⟨by rfl, ?_⟩) ?_ ?_
      rotate_left
      · intro w'
        go_simp
        with_reducible rfl
      rotate_left
      · simp only [Act.put, List.setIfInBounds_toArray, List.set_cons_zero, List.set_cons_succ, i64_w, i32_w]
        rfl
      refine pure_ (i := 3) (N := some 39) (v := ?_) (a' := ?_) #[true, true, true, true, false, false, false, false, false, false] rfl rfl (by kernel_rfl) (fun _ _ _ h => h) (Or.inl ⟨by rfl, ?_⟩) ?_ ?_
      rotate_left
      · intro w'
        go_simp
        with_reducible rfl
      rotate_left
      · simp only [Act.put, List.setIfInBounds_toArray, List.set_cons_zero, List.set_cons_succ, i64_w, i32_w]
        rfl
      refine pure_ (i := 5) (N := some 41) (v := ?_) (a' := ?_) #[true, true, true, true, false, true, false, false, false, false] rfl rfl (by kernel_rfl) (fun _ _ _ h => h) (Or.inl ⟨by rfl, ?_⟩) ?_ ?_
      rotate_left
      · intro w'
        go_simp
        with_reducible rfl
      rotate_left
      · simp only [Act.put, List.setIfInBounds_toArray, List.set_cons_zero, List.set_cons_succ, i64_w, i32_w]
        rfl
      refine take_ (i := 4) (N := some 40) (v := ?_) (a' := ?_) #[true, true, true, true, true, true, false, false, false, false] rfl rfl (by kernel_rfl) (fun _ _ _ h => h) (Or.inl ⟨by rfl, ?_⟩) hHeld ?_ ?_
      rotate_left
      · rintro w' ⟨s0, s1⟩
        go_simp
        with_reducible rfl
      rotate_left
      · simp only [Act.put, List.setIfInBounds_toArray, List.set_cons_zero, List.set_cons_succ, i64_w, i32_w]
        rfl
      refine take_ (i := 6) (N := some 42) (v := ?_) (a' := ?_) #[true, true, true, true, true, true, true, false, false, false] rfl rfl (by kernel_rfl) (fun _ _ _ h => h) (Or.inl ⟨by rfl, ?_⟩) hHeld ?_ ?_
      rotate_left
      · rintro w' ⟨s0, s1⟩
        go_simp
        with_reducible rfl
      rotate_left
      · simp only [Act.put, List.setIfInBounds_toArray, List.set_cons_zero, List.set_cons_succ, i64_w, i32_w]
        rfl
      refine one_ (i := 7) (N := some 43) #[true, true, true, true, true, true, true, true, false, false] rfl rfl (by kernel_rfl) (by decide) (fun K hK => ?_)
      refine value_ (w1 := ?_) (v := ?_) (by rfl) rfl ?_ ?_
      rotate_left 2
      · go_simp
        constructor
        · rfl
        · rfl
      have HC2 := Aside0.mk (C_one_str we s 9)
      have HB2 := Aside0.mk ((Below.refl _ we).alloc (Nat.le_refl _) (.cells #[.string s] 9))
      have HP2 := Aside0.mk (HPe.out.below HB2.out)
      have HX2 := Aside0.mk (HXe.out.after HB2.out)
      refine hK.out _ _ ⟨(HP2.out.blk.cell 0), (HX2.out.cell 1)⟩ (fun hHeld => ?_)
      clear hK K
      refine norm_ (a' := ?_) ?_ ?_
      rotate_left
      · show Act.put _ (some 43) _ = _
        simp only [Act.put, List.setIfInBounds_toArray, List.set_cons_zero, List.set_cons_succ, i64_w, i32_w]
        rfl
      refine last_ (i := 8) (N := some 44) #[true, true, true, true, true, true, true, true, true, false] rfl rfl (by kernel_rfl) (by decide) (fun K hK => ?_)
      refine goes_ Try.func60 (by kernel_rfl) rfl #[.pointer (some ⟨gw, 0, none⟩), .slice (some ⟨we.heap.size, 0, none⟩) 1 1] (by rfl) rfl rfl (by simp only [List.map_toArray, List.map_cons, List.map_nil]; rfl) ?_
      with_reducible refine (textP 1 1 _ HM2.out HP2.out rfl HC2.out (Nat.le_refl 1) HTB.out (by simp)).mono ?_
      rintro e5 w5 ⟨rfl, hP5, hS5⟩
      refine ⟨_, rfl, ?_⟩
      have HP5 := Aside0.mk hP5
      clear hP5 hS5
      refine hK.out _ _ ?_
      clear hK K
      refine norm_ (a' := ?_) ?_ ?_
      rotate_left
      · show Act.put _ (some 44) _ = _
        simp only [Act.put, List.setIfInBounds_toArray, List.set_cons_zero, List.set_cons_succ, i64_w, i32_w]
        rfl
      refine last_ (i := 9) (N := some 45) #[true, true, true, true, true, true, true, true, true, true] rfl rfl (by kernel_rfl) (by decide) (fun K hK => ?_)
      refine goes_ Try.func32 (by kernel_rfl) rfl #[.pointer (some ⟨g, 0, none⟩), .int .i64 E2] (by rfl) rfl rfl (by simp only [List.map_toArray, List.map_cons, List.map_nil]; rfl) ?_
      with_reducible refine (message_pen_must.calls w0 _ g gw L2 (mustE E E1) E2 _ HP5.out).mono ?_
      rintro e7 w7 ⟨rfl, hP7, hS7⟩
      refine ⟨_, rfl, ?_⟩
      have HP7 := Aside0.mk hP7.free
      clear hP7 hS7
      refine hK.out _ _ ?_
      clear hK K
      refine norm_ (a' := ?_) ?_ ?_
      rotate_left
      · show Act.put _ (some 45) _ = _
        simp only [Act.put, List.setIfInBounds_toArray, List.set_cons_zero, List.set_cons_succ, i64_w, i32_w]
        rfl
      refine done_ (by kernel_rfl) ?_
      clear hHeld
      go_wp2
      go_roundw
      case rel => exact ⟨k + 1, by omega, by go_num, by rw [HT.out]; exact HP7⟩
      case measure => simp [intOf]; omega
    · have HT := Aside0.mk (show xs.take k = xs from List.take_of_length_le (by omega))
      go_wp2
      refine bodyPost_end (results_none rfl _ _ _) rfl ?_
      rw [HX.out]
      rw [HT.out] at HP
      exact ⟨rfl, HP.out⟩


end Go.Proofs.Ytlmlkcobkmhmbaa.Q
end

section
-- written by hprint.py (a program of these sessions) out of the translation; Lean checks it
namespace Go.Proofs.Ytlmlkcobkmhmbaa.Q
open Go.RowKit Go.Proofs.YtlmlkcobkmhmbaaW.Hb Go.Proofs.YtlmlkcobkmhmbaaW.PrintWords Go.Proofs.YtlmlkcobkmhmbaaW.PrintLast Go.Proofs.YtlmlkcobkmhmbaaW.PrintMore
attribute [local go_sem] max2_int min2_int max_two min_two max_three min_three max_four min_four   -- for this text's walks alone
set_option linter.unusedVariables false
set_option linter.unusedSimpArgs false

/-! ### message_Right_lit1_55: function 55, by hand -/
def idB (n : Int) : Bool := decide (0 ≤ n) && decide (n < 8)
theorem idB_t {n : Int} (h : idB n = true) : 0 ≤ n ∧ n < 8 := by simpa [idB] using h
set_option maxHeartbeats 400000 in
theorem message_Right_lit1_55.calls (n : Int) (w : World) :
    Calls Try.prog 55 #[.int .i64 n] w fun e w' => e = .returned (.bool (idB n)) ∧ w = w' := by
  by_cases h1 : 0 ≤ n
  · by_cases h2 : n < 8
    · have H := Aside0.mk (show idB n = true by simp [idB, h1, h2])
      go_enter Try.func55, Try.ntmps55
      go_wp2
      go_ret
      rw [H.out]
      exact ⟨rfl, rfl⟩
    · have H := Aside0.mk (show idB n = false by simp [idB, h2])
      go_enter Try.func55, Try.ntmps55
      go_wp2
      go_ret
      rw [H.out]
      exact ⟨rfl, rfl⟩
  · have H := Aside0.mk (show idB n = false by simp [idB, h1])
    go_enter Try.func55, Try.ntmps55
    go_wp2
    go_ret
    rw [H.out]
    exact ⟨rfl, rfl⟩


end Go.Proofs.Ytlmlkcobkmhmbaa.Q
end

section
-- written by hprint.py (a program of these sessions) out of the translation; Lean checks it
namespace Go.Proofs.Ytlmlkcobkmhmbaa.Q
open Go.RowKit Go.Proofs.YtlmlkcobkmhmbaaW.Hb Go.Proofs.YtlmlkcobkmhmbaaW.PrintWords Go.Proofs.YtlmlkcobkmhmbaaW.PrintLast Go.Proofs.YtlmlkcobkmhmbaaW.PrintMore
attribute [local go_sem] max2_int min2_int max_two min_two max_three min_three max_four min_four   -- for this text's walks alone
set_option linter.unusedVariables false
set_option linter.unusedSimpArgs false

/-! ### message_Right: function 28, by hand -/
def kindL (k : Int) : Bool := decide (k = 2) || decide (k = 3) || decide (k = 4) || decide (k = 7)
def rightM (k fr to_ v o c n : Int) (l : List S74) : Bool := !(kindL k && decide (0 < l.length)) && (decide (1 ≤ k) && decide (k ≤ 8) && idB fr && idB to_ && !([v, o, c, n].any outR) && entB l)
def message_Right.f (a0_0 a0_1 a0_2 a0_3 a0_4 a0_5 a0_6 : Int) (l0_7 : List S74) : Option Bool := some (rightM a0_0 a0_1 a0_2 a0_3 a0_4 a0_5 a0_6 l0_7)
set_option maxRecDepth 100000 in
set_option maxHeartbeats 2000000 in
theorem message_Right.calls (a0_0 a0_1 a0_2 a0_3 a0_4 a0_5 a0_6 : Int) (A0_7 : Option Addr) (c0_7 : Nat) (l0_7 : List S74) (r : Bool) (w : World) (hr0_7 : Kd.C k74 w A0_7 l0_7.length l0_7) (hc0_7 : l0_7.length ≤ c0_7) (h : message_Right.f a0_0 a0_1 a0_2 a0_3 a0_4 a0_5 a0_6 l0_7 = some r) :
    Calls Try.prog 28 #[.agg #[.int .i64 a0_0, .int .i64 a0_1, .int .i64 a0_2, .int .i64 a0_3, .int .i64 a0_4, .int .i64 a0_5, .int .i64 a0_6, .slice A0_7 l0_7.length c0_7]] w fun e w' => e = .returned (.bool r) ∧ Below w.heap.size w w' := by
  obtain rfl := Option.some.inj h
  clear h
  have HC := Aside0.mk hr0_7
  have HCN := Aside0.mk (C_lit_int (w.alloc (.cells #[.int .i64 a0_0, .int .i64 a0_1, .int .i64 a0_2, .int .i64 a0_3, .int .i64 a0_4, .int .i64 a0_5, .int .i64 a0_6, .slice A0_7 l0_7.length c0_7] 40)) (w.heap.size + 1) (by simp) .i64 [a0_3, a0_4, a0_5, a0_6] #[.int .i64 a0_3, .int .i64 a0_4, .int .i64 a0_5, .int .i64 a0_6] rfl 3 (by simp))
  have HB7 := Aside0.mk ((Blk.new w 40 #[.int .i64 a0_0, .int .i64 a0_1, .int .i64 a0_2, .int .i64 a0_3, .int .i64 a0_4, .int .i64 a0_5, .int .i64 a0_6, .slice A0_7 l0_7.length c0_7]).alloc (.cells #[.int .i64 a0_3, .int .i64 a0_4, .int .i64 a0_5, .int .i64 a0_6] 3))
  have HBw := Aside0.mk (((Below.refl w.heap.size w).alloc (Nat.le_refl _) (.cells #[.int .i64 a0_0, .int .i64 a0_1, .int .i64 a0_2, .int .i64 a0_3, .int .i64 a0_4, .int .i64 a0_5, .int .i64 a0_6, .slice A0_7 l0_7.length c0_7] 40)).alloc (by simp) (.cells #[.int .i64 a0_3, .int .i64 a0_4, .int .i64 a0_5, .int .i64 a0_6] 3))
  have HW1 := Aside0.mk ((Below.refl w.heap.size w).alloc (Nat.le_refl _) (.cells #[.int .i64 a0_0, .int .i64 a0_1, .int .i64 a0_2, .int .i64 a0_3, .int .i64 a0_4, .int .i64 a0_5, .int .i64 a0_6, .slice A0_7 l0_7.length c0_7] 40))
  have hm : l0_7.length ≤ 9223372036854775807 := hr0_7.2.1
  clear hr0_7
  have hk : ∃ b, kindL a0_0 = b := ⟨_, rfl⟩
  obtain ⟨bk, hbk⟩ := hk
  have hcase : (bk = true ∧ (a0_0 = 2 ∨ a0_0 = 3 ∨ a0_0 = 4 ∨ a0_0 = 7)) ∨ (bk = false ∧ (a0_0 == 2) = false ∧ (a0_0 == 3) = false ∧ (a0_0 == 4) = false ∧ (a0_0 == 7) = false) := by
    subst hbk
    by_cases e2 : a0_0 = 2
    · exact .inl ⟨by simp [kindL, e2], .inl e2⟩
    · by_cases e3 : a0_0 = 3
      · exact .inl ⟨by simp [kindL, e3], .inr (.inl e3)⟩
      · by_cases e4 : a0_0 = 4
        · exact .inl ⟨by simp [kindL, e4], .inr (.inr (.inl e4))⟩
        · by_cases e7 : a0_0 = 7
          · exact .inl ⟨by simp [kindL, e7], .inr (.inr (.inr e7))⟩
          · exact .inr ⟨by simp [kindL, e2, e3, e4, e7], by simp [e2], by simp [e3], by simp [e4], by simp [e7]⟩
  have HX := Aside0.mk (show rightM a0_0 a0_1 a0_2 a0_3 a0_4 a0_5 a0_6 l0_7 = (!(bk && decide (0 < l0_7.length)) && (decide (1 ≤ a0_0) && decide (a0_0 ≤ 8) && idB a0_1 && idB a0_2 && !([a0_3, a0_4, a0_5, a0_6].any outR) && entB l0_7)) by rw [← hbk]; rfl)
  clear hbk
  obtain ⟨R, hR⟩ : ∃ R, rightM a0_0 a0_1 a0_2 a0_3 a0_4 a0_5 a0_6 l0_7 = R := ⟨_, rfl⟩
  rw [hR] at HX
  rw [hR]
  clear hR
  by_cases hshut : bk = true ∧ 0 < l0_7.length
  · obtain ⟨hb, hl⟩ := hshut
    have hE := HX.out
    rw [hb] at hE
    have HR := Aside0.mk (show R = false by rw [hE]; simp [hl])
    have hl2 : 0 < (l0_7.length : Int) := by omega
    have hk2 : a0_0 = 2 ∨ a0_0 = 3 ∨ a0_0 = 4 ∨ a0_0 = 7 := by
      rcases hcase with h | h
      · exact h.2
      · rw [hb] at h; cases h.1
    clear hE HX hcase
    rcases hk2 with rfl | rfl | rfl | rfl
    all_goals
      go_enter Try.func28, Try.ntmps28
      go_wp2
      go_ret
      rw [HR.out]
      exact ⟨rfl, HW1.out⟩
  have HRO := Aside0.mk (show R = (decide (1 ≤ a0_0) && decide (a0_0 ≤ 8) && idB a0_1 && idB a0_2 && !([a0_3, a0_4, a0_5, a0_6].any outR) && entB l0_7) by
    rw [HX.out]
    have : (bk && decide (0 < l0_7.length)) = false := by
      cases hb : bk with
      | false => rfl
      | true => simp [hb] at hshut; simp [hshut]
    rw [this]; simp)
  have hlk : (bk = true ∧ ¬ (0 : Int) < (l0_7.length : Int) ∧ (a0_0 = 2 ∨ a0_0 = 3 ∨ a0_0 = 4 ∨ a0_0 = 7)) ∨ ((a0_0 == 2) = false ∧ (a0_0 == 3) = false ∧ (a0_0 == 4) = false ∧ (a0_0 == 7) = false) := by
    rcases hcase with ⟨h1, h2⟩ | ⟨h1, h2⟩
    · exact .inl ⟨h1, by have : ¬ 0 < l0_7.length := fun h => hshut ⟨h1, h⟩; omega, h2⟩
    · exact .inr h2
  clear hcase hshut HX
  have HN : ∀ b, [a0_3, a0_4, a0_5, a0_6].any outR = b → message_numbers.f [a0_3, a0_4, a0_5, a0_6] = some (!b) := fun b h => by simp only [message_numbers.f, h]
  obtain ⟨nb, hnb⟩ : ∃ nb, [a0_3, a0_4, a0_5, a0_6].any outR = nb := ⟨_, rfl⟩
  have HNF := Aside0.mk (HN nb hnb)
  rw [hnb] at HRO
  obtain ⟨eb, heb⟩ : ∃ eb, entB l0_7 = eb := ⟨_, rfl⟩
  have HEF := Aside0.mk (show message_entries.f l0_7 = some eb by rw [← heb]; rfl)
  rw [heb] at HRO
  clear HN hnb heb
  by_cases g1 : 1 ≤ a0_0
  rotate_left
  · have HR := Aside0.mk (show R = false by rw [HRO.out]; simp [g1])
    clear HRO
    rcases hlk with ⟨_, hl0, rfl | rfl | rfl | rfl⟩ | ⟨d2, d3, d4, d7⟩
    rotate_right
    · go_enter Try.func28, Try.ntmps28
      go_wp2
      go_ret
      rw [HR.out]
      exact ⟨rfl, HW1.out⟩
    all_goals omega
  by_cases g2 : a0_0 ≤ 8
  rotate_left
  · have HR := Aside0.mk (show R = false by rw [HRO.out]; simp [g2])
    clear HRO
    rcases hlk with ⟨_, hl0, rfl | rfl | rfl | rfl⟩ | ⟨d2, d3, d4, d7⟩
    rotate_right
    · go_enter Try.func28, Try.ntmps28
      go_wp2
      go_ret
      rw [HR.out]
      exact ⟨rfl, HW1.out⟩
    all_goals omega
  cases hi1 : idB a0_1 with
  | false =>
    have HI1 := Aside0.mk hi1
    have HR := Aside0.mk (show R = false by rw [HRO.out]; simp [hi1])
    clear HRO hi1
    rcases hlk with ⟨_, hl0, rfl | rfl | rfl | rfl⟩ | ⟨d2, d3, d4, d7⟩
    all_goals
      go_enter Try.func28, Try.ntmps28
      go_wp2_with (go_at_call 55; (with_reducible refine (message_Right_lit1_55.calls a0_1 _).mono ?_); rw [HI1.out]; rintro e w' ⟨rfl, rfl⟩)
      go_ret
      rw [HR.out]
      exact ⟨rfl, HW1.out⟩
  | true =>
    have HI1 := Aside0.mk hi1
    cases hi2 : idB a0_2 with
    | false =>
      have HI2 := Aside0.mk hi2
      have HR := Aside0.mk (show R = false by rw [HRO.out]; simp [hi2])
      clear HRO hi1 hi2
      rcases hlk with ⟨_, hl0, rfl | rfl | rfl | rfl⟩ | ⟨d2, d3, d4, d7⟩
      all_goals
        go_enter Try.func28, Try.ntmps28
        go_wp2_with (first | (go_at_call 55; (with_reducible refine (message_Right_lit1_55.calls a0_1 _).mono ?_); rw [HI1.out]; rintro e w' ⟨rfl, rfl⟩) | (go_at_call 55; (with_reducible refine (message_Right_lit1_55.calls a0_2 _).mono ?_); rw [HI2.out]; rintro e w' ⟨rfl, rfl⟩))
        go_ret
        rw [HR.out]
        exact ⟨rfl, HW1.out⟩
    | true =>
      have HI2 := Aside0.mk hi2
      cases nb with
      | true =>
        have HNF1 := Aside0.mk (show message_numbers.f [a0_3, a0_4, a0_5, a0_6] = some false from HNF.out)
        have HR := Aside0.mk (show R = false by rw [HRO.out]; simp)
        clear HRO hi1 hi2
        rcases hlk with ⟨_, hl0, rfl | rfl | rfl | rfl⟩ | ⟨d2, d3, d4, d7⟩
        all_goals
          go_enter Try.func28, Try.ntmps28
          go_wp2_with (first | (go_at_call 55; (with_reducible refine (message_Right_lit1_55.calls a0_1 _).mono ?_); rw [HI1.out]; rintro e w' ⟨rfl, rfl⟩) | (go_at_call 55; (with_reducible refine (message_Right_lit1_55.calls a0_2 _).mono ?_); rw [HI2.out]; rintro e w' ⟨rfl, rfl⟩) | (go_at_call 51; (with_reducible refine (message_numbers.callsN _ 4 4 _ rfl false _ HCN.out (Nat.le_refl 4) HNF1.out).mono ?_); rintro e w1 ⟨rfl, hb1⟩; have HB1 := Aside0.mk (HBw.out.trans (hb1.mono (by simp; omega))); clear hb1))
          go_ret
          rw [HR.out]
          exact ⟨rfl, HB1.out⟩
      | false =>
        have HNF1 := Aside0.mk (show message_numbers.f [a0_3, a0_4, a0_5, a0_6] = some true from HNF.out)
        have HR := Aside0.mk (show R = eb by rw [HRO.out]; simp [hi1, hi2, g1, g2])
        clear HRO hi1 hi2
        rcases hlk with ⟨_, hl0, rfl | rfl | rfl | rfl⟩ | ⟨d2, d3, d4, d7⟩
        all_goals
          go_enter Try.func28, Try.ntmps28
          go_wp2_with (first | (go_at_call 55; (with_reducible refine (message_Right_lit1_55.calls a0_1 _).mono ?_); rw [HI1.out]; rintro e w' ⟨rfl, rfl⟩) | (go_at_call 55; (with_reducible refine (message_Right_lit1_55.calls a0_2 _).mono ?_); rw [HI2.out]; rintro e w' ⟨rfl, rfl⟩) | (go_at_call 51; (with_reducible refine (message_numbers.callsN _ 4 4 _ rfl true _ HCN.out (Nat.le_refl 4) HNF1.out).mono ?_); rintro e w1 ⟨rfl, hb1⟩; have q7 : w1.cell? ⟨w.heap.size, 7, none⟩ = some (.slice A0_7 l0_7.length c0_7) := (HB7.out.below hb1 (by simp; omega)).cell 7; have HC1 := Aside0.mk (Kd.C_below HC.out (HBw.out.trans (hb1.mono (by simp; omega)))); have HB1 := Aside0.mk (HBw.out.trans (hb1.mono (by simp; omega))); clear hb1) | (go_at_call 52; (with_reducible refine (message_entries.calls A0_7 c0_7 l0_7 eb _ HC1.out hc0_7 HEF.out).mono ?_); rintro e w2 ⟨rfl, hb2⟩; have HB2 := Aside0.mk (HB1.out.trans (hb2.mono HB1.out.size)); clear hb2))
          go_ret
          rw [HR.out]
          exact ⟨rfl, HB2.out⟩


end Go.Proofs.Ytlmlkcobkmhmbaa.Q
end

section
-- written by hprint.py (a program of these sessions) out of the translation; Lean checks it
namespace Go.Proofs.Ytlmlkcobkmhmbaa.Q
open Go.RowKit Go.Proofs.YtlmlkcobkmhmbaaW.Hb Go.Proofs.YtlmlkcobkmhmbaaW.PrintWords Go.Proofs.YtlmlkcobkmhmbaaW.PrintLast Go.Proofs.YtlmlkcobkmhmbaaW.PrintMore
attribute [local go_sem] max2_int min2_int max_two min_two max_three min_three max_four min_four   -- for this text's walks alone
set_option linter.unusedVariables false
set_option linter.unusedSimpArgs false

/-! ### message_Put: function 11, by hand -/
def wall (by_ is_ : List Int) (l : List S74) : List Int × Int := (penRes (wlog ((wmore (wbytes [] by_).1 (ints8 is_)).1, mustE (wbytes [] by_).2 (wmore (wbytes [] by_).1 (ints8 is_)).2) l).2 (wlog ((wmore (wbytes [] by_).1 (ints8 is_)).1, mustE (wbytes [] by_).2 (wmore (wbytes [] by_).1 (ints8 is_)).2) l).1, (wlog ((wmore (wbytes [] by_).1 (ints8 is_)).1, mustE (wbytes [] by_).2 (wmore (wbytes [] by_).1 (ints8 is_)).2) l).2)
theorem wall_is {by_ is_ l1 l2 l3 : List Int} {e1 e2 e3 : Int} {l : List S74} (h1 : wbytes [] by_ = (l1, e1)) (h2 : wmore l1 (ints8 is_) = (l2, e2)) (h3 : wlog (l2, mustE e1 e2) l = (l3, e3)) : wall by_ is_ l = (penRes e3 l3, e3) := by
  unfold wall
  simp only [h1, h2, h3]
theorem entB_is {l : List S74} (h : entB l = true) : l.length ≤ 2048 ∧ ∀ x ∈ l, x.f1.size ≤ 16384 := by
  simp only [entB, Bool.and_eq_true, decide_eq_true_eq, Bool.not_eq_true', List.any_eq_false] at h
  refine ⟨h.1, fun x hx => ?_⟩
  have := h.2 x hx
  simp [outE] at this
  omega
theorem Pn.new {w w2 : World} {gw : Nat} (hW : Wr w2 (fun k => k = gw) gw []) (hg : w.heap.size ≤ gw) (hB : Below w.heap.size w w2) : Pn w (w2.alloc (.cells #[.pointer (some ⟨gw, 0, none⟩), .int .i64 0] 79)) w2.heap.size gw [] 0 (fun _ => False) := by
  have hl := hW.lt
  have hs := hB.size
  refine ⟨_, hW.below ((Below.refl _ _).alloc (Nat.le_refl _) _), fun k hk => ?_, Blk.new w2 _ _, hs, by simp, hB.alloc hs _, fun _ h => h.elim⟩
  subst hk
  refine ⟨hg, by omega, id, ?_⟩
  simp
  omega
def message_Put.f (a0_0 a0_1 a0_2 a0_3 a0_4 a0_5 a0_6 : Int) (l0_7 : List S74) : Option (List Int × Int) := some (if rightM a0_0 a0_1 a0_2 a0_3 a0_4 a0_5 a0_6 l0_7 = true then wall [a0_0, a0_1, a0_2] [a0_3, a0_4, a0_5, a0_6] l0_7 else ([], 1))
set_option maxRecDepth 100000 in
set_option maxHeartbeats 2000000 in
theorem message_Put.calls (a0_0 a0_1 a0_2 a0_3 a0_4 a0_5 a0_6 : Int) (A0_7 : Option Addr) (c0_7 : Nat) (l0_7 : List S74) (r1 : List Int) (r2 : Int) (w : World) (hr0 : Kd.C k74 w A0_7 l0_7.length l0_7) (hc0 : l0_7.length ≤ c0_7) (h : message_Put.f a0_0 a0_1 a0_2 a0_3 a0_4 a0_5 a0_6 l0_7 = some (r1, r2)) :
    Calls Try.prog 11 #[.agg #[.int .i64 a0_0, .int .i64 a0_1, .int .i64 a0_2, .int .i64 a0_3, .int .i64 a0_4, .int .i64 a0_5, .int .i64 a0_6, .slice A0_7 l0_7.length c0_7]] w fun e w' => ∃ v0_ : Value, e = .returned (.tuple #[v0_, .int .i64 r2]) ∧ Kd.R (Kd.int .u8) 5 w' w.heap.size (fun _ => True) v0_ r1 ∧ Below w.heap.size w w' := by
  have h := Option.some.inj h
  have HR0 := Aside0.mk hr0
  have hm0 : l0_7.length ≤ 9223372036854775807 := hr0.2.1
  have HM1 := Aside0.mk (Blk.new w 40 #[.int .i64 a0_0, .int .i64 a0_1, .int .i64 a0_2, .int .i64 a0_3, .int .i64 a0_4, .int .i64 a0_5, .int .i64 a0_6, .slice A0_7 l0_7.length c0_7])
  have HB1 := Aside0.mk ((Below.refl w.heap.size w).alloc (Nat.le_refl _) (.cells #[.int .i64 a0_0, .int .i64 a0_1, .int .i64 a0_2, .int .i64 a0_3, .int .i64 a0_4, .int .i64 a0_5, .int .i64 a0_6, .slice A0_7 l0_7.length c0_7] 40))
  have HC1 := Aside0.mk (Kd.C_alloc hr0 (.cells #[.int .i64 a0_0, .int .i64 a0_1, .int .i64 a0_2, .int .i64 a0_3, .int .i64 a0_4, .int .i64 a0_5, .int .i64 a0_6, .slice A0_7 l0_7.length c0_7] 40))
  clear hr0
  cases hrt : rightM a0_0 a0_1 a0_2 a0_3 a0_4 a0_5 a0_6 l0_7 with
  | false =>
    have HF := Aside0.mk (show message_Right.f a0_0 a0_1 a0_2 a0_3 a0_4 a0_5 a0_6 l0_7 = some false by simp only [message_Right.f, hrt])
    rw [if_neg (by rw [hrt]; decide)] at h
    obtain ⟨rfl, rfl⟩ := Prod.mk.inj h
    clear hrt h
    go_enter Try.func11, Try.ntmps11
    go_wp2_with (go_at_call 28; (with_reducible refine (message_Right.calls a0_0 a0_1 a0_2 a0_3 a0_4 a0_5 a0_6 A0_7 c0_7 l0_7 false _ HC1.out hc0 HF.out).mono ?_); rintro e w2 ⟨rfl, hb2⟩; have HB2 := Aside0.mk (HB1.out.trans (hb2.mono HB1.out.size)); clear hb2)
    go_ret2
    exact ⟨_, rfl, Kd.R_nil _ _ _ _ _, HB2.out⟩
  | true =>
    have HF := Aside0.mk (show message_Right.f a0_0 a0_1 a0_2 a0_3 a0_4 a0_5 a0_6 l0_7 = some true by simp only [message_Right.f, hrt])
    have hent : entB l0_7 = true := by have := hrt; simp [rightM] at this; simp [this]
    obtain ⟨hn, hs⟩ := entB_is hent
    rw [if_pos hrt] at h
    obtain ⟨l1, e1, hw1⟩ : ∃ l1 e1, wbytes [] [a0_0, a0_1, a0_2] = (l1, e1) := ⟨_, _, rfl⟩
    obtain ⟨l2, e2, hw2⟩ : ∃ l2 e2, wmore l1 (ints8 [a0_3, a0_4, a0_5, a0_6]) = (l2, e2) := ⟨_, _, rfl⟩
    obtain ⟨l3, e3, hw3⟩ : ∃ l3 e3, wlog (l2, mustE e1 e2) l0_7 = (l3, e3) := ⟨_, _, rfl⟩
    rw [wall_is hw1 hw2 hw3] at h
    obtain ⟨rfl, rfl⟩ := Prod.mk.inj h
    have HW1 := Aside0.mk hw1
    have HW2 := Aside0.mk hw2
    have HW3 := Aside0.mk hw3
    have HS := Aside0.mk hs
    clear hrt h hent hs hw1 hw2 hw3
    go_enter Try.func11, Try.ntmps11
    go_wp2_with (first | (go_at_call 28; (with_reducible refine (message_Right.calls a0_0 a0_1 a0_2 a0_3 a0_4 a0_5 a0_6 A0_7 c0_7 l0_7 true _ HC1.out hc0 HF.out).mono ?_); rintro e w2 ⟨rfl, hb2⟩; have HB2 := Aside0.mk (HB1.out.trans (hb2.mono HB1.out.size)); have HM2 := Aside0.mk (HM1.out.after hb2); clear hb2) | (go_at_call 31; (with_reducible refine (wire_NewWriter.calls w2).mono ?_); rintro e w3 ⟨gw, rfl, hW3, hg3, hB3⟩; have HP3 := Aside0.mk (Pn.new hW3 hg3 hB3); clear hW3 hg3 hB3))
    have HR2 := Aside0.mk (Kd.C_below HR0.out (HB2.out.mono (Nat.le_refl _)))
    clear HR0 HC1 HM1
    generalize w3.alloc (.cells #[.pointer (some ⟨gw, 0, none⟩), .int .i64 0] 79) = W1 at HP3 ⊢
    generalize w3.heap.size = g at HP3 ⊢
    have HPd := Aside0.mk (HP3.out.below ((Below.refl _ _).drew))
    have HMd := Aside0.mk (HM2.out.after HPd.out.bel)
    refine start_ (n := 14) (S := fun w' => w'.cell? ⟨g, 0, none⟩ = some (.pointer (some ⟨gw, 0, none⟩)) ∧ w'.cell? ⟨w.heap.size, 0, none⟩ = some (.int .i64 a0_0) ∧ w'.cell? ⟨w.heap.size, 1, none⟩ = some (.int .i64 a0_1) ∧ w'.cell? ⟨w.heap.size, 2, none⟩ = some (.int .i64 a0_2)) (ds := [12, 13]) #[false, false, false, false, false, false, false, false, false, false, false, false, false, false] (by kernel_rfl) rfl rfl ⟨(HPd.out.blk.cell 0), (HMd.out.cell 0), (HMd.out.cell 1), (HMd.out.cell 2)⟩ (fun hHeld => ?_)
    generalize W1.drew = wd at HPd HMd hHeld ⊢
    refine pure_ (i := 0) (N := some 11) (v := ?_) (a' := ?_) #[true, false, false, false, false, false, false, false, false, false, false, false, false, false] rfl rfl (by kernel_rfl) (fun _ _ _ h => h) (Or.inl ⟨by rfl, ?_⟩) ?_ ?_
    rotate_left
    · intro w'
      go_simp
      with_reducible rfl
    rotate_left
    · simp only [Act.put, List.setIfInBounds_toArray, List.set_cons_zero, List.set_cons_succ, i64_w, i32_w]
      rfl
    refine pure_ (i := 1) (N := some 12) (v := ?_) (a' := ?_) #[true, true, false, false, false, false, false, false, false, false, false, false, false, false] rfl rfl (by kernel_rfl) (fun _ _ _ h => h) (Or.inl ⟨by rfl, ?_⟩) ?_ ?_
    rotate_left
    · intro w'
      go_simp
      with_reducible rfl
    rotate_left
    · simp only [Act.put, List.setIfInBounds_toArray, List.set_cons_zero, List.set_cons_succ, i64_w, i32_w]
      rfl
    refine pure_ (i := 2) (N := some 13) (v := ?_) (a' := ?_) #[true, true, true, false, false, false, false, false, false, false, false, false, false, false] rfl rfl (by kernel_rfl) (fun _ _ _ h => h) (Or.inl ⟨by rfl, ?_⟩) ?_ ?_
    rotate_left
    · intro w'
      go_simp
      with_reducible rfl
    rotate_left
    · simp only [Act.put, List.setIfInBounds_toArray, List.set_cons_zero, List.set_cons_succ, i64_w, i32_w]
      rfl
    refine pure_ (i := 3) (N := some 14) (v := ?_) (a' := ?_) #[true, true, true, true, false, false, false, false, false, false, false, false, false, false] rfl rfl (by kernel_rfl) (fun _ _ _ h => h) (Or.inl ⟨by rfl, ?_⟩) ?_ ?_
    rotate_left
    · intro w'
      go_simp
      with_reducible rfl
    rotate_left
    · simp only [Act.put, List.setIfInBounds_toArray, List.set_cons_zero, List.set_cons_succ, i64_w, i32_w]
      rfl
    refine pure_ (i := 5) (N := some 16) (v := ?_) (a' := ?_) #[true, true, true, true, false, true, false, false, false, false, false, false, false, false] rfl rfl (by kernel_rfl) (fun _ _ _ h => h) (Or.inl ⟨by rfl, ?_⟩) ?_ ?_
    rotate_left
    · intro w'
      go_simp
      with_reducible rfl
    rotate_left
    · simp only [Act.put, List.setIfInBounds_toArray, List.set_cons_zero, List.set_cons_succ, i64_w, i32_w]
      rfl
    refine pure_ (i := 7) (N := some 18) (v := ?_) (a' := ?_) #[true, true, true, true, false, true, false, true, false, false, false, false, false, false] rfl rfl (by kernel_rfl) (fun _ _ _ h => h) (Or.inl ⟨by rfl, ?_⟩) ?_ ?_
    rotate_left
    · intro w'
      go_simp
      with_reducible rfl
    rotate_left
    · simp only [Act.put, List.setIfInBounds_toArray, List.set_cons_zero, List.set_cons_succ, i64_w, i32_w]
      rfl
    refine pure_ (i := 9) (N := some 20) (v := ?_) (a' := ?_) #[true, true, true, true, false, true, false, true, false, true, false, false, false, false] rfl rfl (by kernel_rfl) (fun _ _ _ h => h) (Or.inl ⟨by rfl, ?_⟩) ?_ ?_
    rotate_left
    · intro w'
      go_simp
      with_reducible rfl
    rotate_left
    · simp only [Act.put, List.setIfInBounds_toArray, List.set_cons_zero, List.set_cons_succ, i64_w, i32_w]
      rfl
    refine take_ (i := 4) (N := some 15) (v := ?_) (a' := ?_) #[true, true, true, true, true, true, false, true, false, true, false, false, false, false] rfl rfl (by kernel_rfl) (fun _ _ _ h => h) (Or.inl ⟨by rfl, ?_⟩) hHeld ?_ ?_
    rotate_left
    · rintro w' ⟨s0, s1, s2, s3⟩
      go_simp
      with_reducible rfl
    rotate_left
    · simp only [Act.put, List.setIfInBounds_toArray, List.set_cons_zero, List.set_cons_succ, i64_w, i32_w]
      rfl
    refine take_ (i := 6) (N := some 17) (v := ?_) (a' := ?_) #[true, true, true, true, true, true, true, true, false, true, false, false, false, false] rfl rfl (by kernel_rfl) (fun _ _ _ h => h) (Or.inl ⟨by rfl, ?_⟩) hHeld ?_ ?_
    rotate_left
    · rintro w' ⟨s0, s1, s2, s3⟩
      go_simp
      with_reducible rfl
    rotate_left
    · simp only [Act.put, List.setIfInBounds_toArray, List.set_cons_zero, List.set_cons_succ, i64_w, i32_w]
      rfl
    refine take_ (i := 8) (N := some 19) (v := ?_) (a' := ?_) #[true, true, true, true, true, true, true, true, true, true, false, false, false, false] rfl rfl (by kernel_rfl) (fun _ _ _ h => h) (Or.inl ⟨by rfl, ?_⟩) hHeld ?_ ?_
    rotate_left
    · rintro w' ⟨s0, s1, s2, s3⟩
      go_simp
      with_reducible rfl
    rotate_left
    · simp only [Act.put, List.setIfInBounds_toArray, List.set_cons_zero, List.set_cons_succ, i64_w, i32_w]
      rfl
    refine take_ (i := 10) (N := some 21) (v := ?_) (a' := ?_) #[true, true, true, true, true, true, true, true, true, true, true, false, false, false] rfl rfl (by kernel_rfl) (fun _ _ _ h => h) (Or.inl ⟨by rfl, ?_⟩) hHeld ?_ ?_
    rotate_left
    · rintro w' ⟨s0, s1, s2, s3⟩
      go_simp
      with_reducible rfl
    rotate_left
    · simp only [Act.put, List.setIfInBounds_toArray, List.set_cons_zero, List.set_cons_succ, i64_w, i32_w]
      rfl
    refine one_ (i := 11) (N := some 22) #[true, true, true, true, true, true, true, true, true, true, true, true, false, false] rfl rfl (by kernel_rfl) (by decide) (fun K hK => ?_)
    refine value_ (w1 := ?_) (v := ?_) (by rfl) rfl ?_ ?_
    rotate_left 2
    · go_simp
      constructor
      · rfl
      · rfl
    have HC2 := Aside0.mk (C_lit_int wd wd.heap.size rfl .i64 [a0_0, a0_1, a0_2] #[.int .i64 a0_0, .int .i64 a0_1, .int .i64 a0_2] rfl 3 (by simp))
    have HA2 := Aside0.mk ((Below.refl _ wd).alloc (Nat.le_refl _) (.cells #[.int .i64 a0_0, .int .i64 a0_1, .int .i64 a0_2] 3))
    have HP4 := Aside0.mk (HPd.out.below HA2.out)
    have HM4 := Aside0.mk (HMd.out.after HA2.out)
    refine hK.out _ _ ⟨(HP4.out.blk.cell 0), (HM4.out.cell 0), (HM4.out.cell 1), (HM4.out.cell 2)⟩ (fun hHeld => ?_)
    clear hK K
    refine norm_ (a' := ?_) ?_ ?_
    rotate_left
    · show Act.put _ (some 22) _ = _
      simp only [Act.put, List.setIfInBounds_toArray, List.set_cons_zero, List.set_cons_succ, i64_w, i32_w]
      rfl
    refine last_ (i := 12) (N := some 23) #[true, true, true, true, true, true, true, true, true, true, true, true, true, false] rfl rfl (by kernel_rfl) (by decide) (fun K hK => ?_)
    refine goes_ Try.func33 (by kernel_rfl) rfl #[.pointer (some ⟨gw, 0, none⟩), .slice (some ⟨wd.heap.size, 0, none⟩) 3 3] (by rfl) rfl rfl (by simp only [List.map_toArray, List.map_cons, List.map_nil]; rfl) ?_
    with_reducible refine (byteP 3 3 _ HW1.out HP4.out rfl HC2.out (Nat.le_refl 3) (by simp)).mono ?_
    rintro e5 w5 ⟨rfl, hP5, hS5⟩
    refine ⟨_, rfl, ?_⟩
    have HP5 := Aside0.mk hP5
    clear hP5 hS5
    refine hK.out _ _ ?_
    clear hK K
    refine norm_ (a' := ?_) ?_ ?_
    rotate_left
    · show Act.put _ (some 23) _ = _
      simp only [Act.put, List.setIfInBounds_toArray, List.set_cons_zero, List.set_cons_succ, i64_w, i32_w]
      rfl
    refine last_ (i := 13) (N := some 24) #[true, true, true, true, true, true, true, true, true, true, true, true, true, true] rfl rfl (by kernel_rfl) (by decide) (fun K hK => ?_)
    refine goes_ Try.func32 (by kernel_rfl) rfl #[.pointer (some ⟨g, 0, none⟩), .int .i64 e1] (by rfl) rfl rfl (by simp only [List.map_toArray, List.map_cons, List.map_nil]; rfl) ?_
    with_reducible refine (message_pen_must.calls w2 _ g gw l1 0 e1 _ HP5.out).mono ?_
    rintro e6 w6 ⟨rfl, hP6, hS6⟩
    refine ⟨_, rfl, ?_⟩
    have HP6 := Aside0.mk hP6
    clear hP6 hS6
    refine hK.out _ _ ?_
    clear hK K
    refine norm_ (a' := ?_) ?_ ?_
    rotate_left
    · show Act.put _ (some 24) _ = _
      simp only [Act.put, List.setIfInBounds_toArray, List.set_cons_zero, List.set_cons_succ, i64_w, i32_w]
      rfl
    refine done_ (by kernel_rfl) ?_
    rw [mustE_0] at HP6
    clear hHeld HPd HMd HC2 HA2 HP4 HM4 HP5 HP3
    go_wp2
    have HPe := Aside0.mk (HP6.out.below ((Below.refl _ _).drew))
    have HMe := Aside0.mk (HM2.out.after HPe.out.bel)
    refine start_ (n := 16) (S := fun w' => w'.cell? ⟨g, 0, none⟩ = some (.pointer (some ⟨gw, 0, none⟩)) ∧ w'.cell? ⟨w.heap.size, 3, none⟩ = some (.int .i64 a0_3) ∧ w'.cell? ⟨w.heap.size, 4, none⟩ = some (.int .i64 a0_4) ∧ w'.cell? ⟨w.heap.size, 5, none⟩ = some (.int .i64 a0_5) ∧ w'.cell? ⟨w.heap.size, 6, none⟩ = some (.int .i64 a0_6)) (ds := [14, 15]) #[false, false, false, false, false, false, false, false, false, false, false, false, false, false, false, false] (by kernel_rfl) rfl rfl ⟨(HPe.out.blk.cell 0), (HMe.out.cell 3), (HMe.out.cell 4), (HMe.out.cell 5), (HMe.out.cell 6)⟩ (fun hHeld => ?_)
    generalize w6.drew = we at HPe HMe hHeld ⊢
    refine pure_ (i := 0) (N := some 25) (v := ?_) (a' := ?_) #[true, false, false, false, false, false, false, false, false, false, false, false, false, false, false, false] rfl rfl (by kernel_rfl) (fun _ _ _ h => h) (Or.inl ⟨by rfl, ?_⟩) ?_ ?_
    rotate_left
    · intro w'
      go_simp
      with_reducible rfl
    rotate_left
    · simp only [Act.put, List.setIfInBounds_toArray, List.set_cons_zero, List.set_cons_succ, i64_w, i32_w]
      rfl
    refine pure_ (i := 1) (N := some 26) (v := ?_) (a' := ?_) #[true, true, false, false, false, false, false, false, false, false, false, false, false, false, false, false] rfl rfl (by kernel_rfl) (fun _ _ _ h => h) (Or.inl ⟨by rfl, ?_⟩) ?_ ?_
    rotate_left
    · intro w'
      go_simp
      with_reducible rfl
    rotate_left
    · simp only [Act.put, List.setIfInBounds_toArray, List.set_cons_zero, List.set_cons_succ, i64_w, i32_w]
      rfl
    refine pure_ (i := 2) (N := some 27) (v := ?_) (a' := ?_) #[true, true, true, false, false, false, false, false, false, false, false, false, false, false, false, false] rfl rfl (by kernel_rfl) (fun _ _ _ h => h) (Or.inl ⟨by rfl, ?_⟩) ?_ ?_
    rotate_left
    · intro w'
      go_simp
      with_reducible rfl
    rotate_left
    · simp only [Act.put, List.setIfInBounds_toArray, List.set_cons_zero, List.set_cons_succ, i64_w, i32_w]
      rfl
    refine pure_ (i := 3) (N := some 28) (v := ?_) (a' := ?_) #[true, true, true, true, false, false, false, false, false, false, false, false, false, false, false, false] rfl rfl (by kernel_rfl) (fun _ _ _ h => h) (Or.inl ⟨by rfl, ?_⟩) ?_ ?_
    rotate_left
    · intro w'
      go_simp
      with_reducible rfl
    rotate_left
    · simp only [Act.put, List.setIfInBounds_toArray, List.set_cons_zero, List.set_cons_succ, i64_w, i32_w]
      rfl
    refine pure_ (i := 5) (N := some 30) (v := ?_) (a' := ?_) #[true, true, true, true, false, true, false, false, false, false, false, false, false, false, false, false] rfl rfl (by kernel_rfl) (fun _ _ _ h => h) (Or.inl ⟨by rfl, ?_⟩) ?_ ?_
    rotate_left
    · intro w'
      go_simp
      with_reducible rfl
    rotate_left
    · simp only [Act.put, List.setIfInBounds_toArray, List.set_cons_zero, List.set_cons_succ, i64_w, i32_w]
      rfl
    refine pure_ (i := 7) (N := some 32) (v := ?_) (a' := ?_) #[true, true, true, true, false, true, false, true, false, false, false, false, false, false, false, false] rfl rfl (by kernel_rfl) (fun _ _ _ h => h) (Or.inl ⟨by rfl, ?_⟩) ?_ ?_
    rotate_left
    · intro w'
      go_simp
      with_reducible rfl
    rotate_left
    · simp only [Act.put, List.setIfInBounds_toArray, List.set_cons_zero, List.set_cons_succ, i64_w, i32_w]
      rfl
    refine pure_ (i := 9) (N := some 34) (v := ?_) (a' := ?_) #[true, true, true, true, false, true, false, true, false, true, false, false, false, false, false, false] rfl rfl (by kernel_rfl) (fun _ _ _ h => h) (Or.inl ⟨by rfl, ?_⟩) ?_ ?_
    rotate_left
    · intro w'
      go_simp
      with_reducible rfl
    rotate_left
    · simp only [Act.put, List.setIfInBounds_toArray, List.set_cons_zero, List.set_cons_succ, i64_w, i32_w]
      rfl
    refine pure_ (i := 11) (N := some 36) (v := ?_) (a' := ?_) #[true, true, true, true, false, true, false, true, false, true, false, true, false, false, false, false] rfl rfl (by kernel_rfl) (fun _ _ _ h => h) (Or.inl ⟨by rfl, ?_⟩) ?_ ?_
    rotate_left
    · intro w'
      go_simp
      with_reducible rfl
    rotate_left
    · simp only [Act.put, List.setIfInBounds_toArray, List.set_cons_zero, List.set_cons_succ, i64_w, i32_w]
      rfl
    refine take_ (i := 4) (N := some 29) (v := ?_) (a' := ?_) #[true, true, true, true, true, true, false, true, false, true, false, true, false, false, false, false] rfl rfl (by kernel_rfl) (fun _ _ _ h => h) (Or.inl ⟨by rfl, ?_⟩) hHeld ?_ ?_
    rotate_left
    · rintro w' ⟨s0, s1, s2, s3, s4⟩
      go_simp
      with_reducible rfl
    rotate_left
    · simp only [Act.put, List.setIfInBounds_toArray, List.set_cons_zero, List.set_cons_succ, i64_w, i32_w]
      rfl
    refine take_ (i := 6) (N := some 31) (v := ?_) (a' := ?_) #[true, true, true, true, true, true, true, true, false, true, false, true, false, false, false, false] rfl rfl (by kernel_rfl) (fun _ _ _ h => h) (Or.inl ⟨by rfl, ?_⟩) hHeld ?_ ?_
    rotate_left
    · rintro w' ⟨s0, s1, s2, s3, s4⟩
      go_simp
      with_reducible rfl
    rotate_left
    · simp only [Act.put, List.setIfInBounds_toArray, List.set_cons_zero, List.set_cons_succ, i64_w, i32_w]
      rfl
    refine take_ (i := 8) (N := some 33) (v := ?_) (a' := ?_) #[true, true, true, true, true, true, true, true, true, true, false, true, false, false, false, false] rfl rfl (by kernel_rfl) (fun _ _ _ h => h) (Or.inl ⟨by rfl, ?_⟩) hHeld ?_ ?_
    rotate_left
    · rintro w' ⟨s0, s1, s2, s3, s4⟩
      go_simp
      with_reducible rfl
    rotate_left
    · simp only [Act.put, List.setIfInBounds_toArray, List.set_cons_zero, List.set_cons_succ, i64_w, i32_w]
      rfl
    refine take_ (i := 10) (N := some 35) (v := ?_) (a' := ?_) #[true, true, true, true, true, true, true, true, true, true, true, true, false, false, false, false] rfl rfl (by kernel_rfl) (fun _ _ _ h => h) (Or.inl ⟨by rfl, ?_⟩) hHeld ?_ ?_
    rotate_left
    · rintro w' ⟨s0, s1, s2, s3, s4⟩
      go_simp
      with_reducible rfl
    rotate_left
    · simp only [Act.put, List.setIfInBounds_toArray, List.set_cons_zero, List.set_cons_succ, i64_w, i32_w]
      rfl
    refine take_ (i := 12) (N := some 37) (v := ?_) (a' := ?_) #[true, true, true, true, true, true, true, true, true, true, true, true, true, false, false, false] rfl rfl (by kernel_rfl) (fun _ _ _ h => h) (Or.inl ⟨by rfl, ?_⟩) hHeld ?_ ?_
    rotate_left
    · rintro w' ⟨s0, s1, s2, s3, s4⟩
      go_simp
      with_reducible rfl
    rotate_left
    · simp only [Act.put, List.setIfInBounds_toArray, List.set_cons_zero, List.set_cons_succ, i64_w, i32_w]
      rfl
    refine one_ (i := 13) (N := some 38) #[true, true, true, true, true, true, true, true, true, true, true, true, true, true, false, false] rfl rfl (by kernel_rfl) (by decide) (fun K hK => ?_)
    refine value_ (w1 := ?_) (v := ?_) (by rfl) rfl ?_ ?_
    rotate_left 2
    · go_simp
      constructor
      · rfl
      · rfl
    have HC2 := Aside0.mk (C_lit_int we we.heap.size rfl .i64 [a0_3, a0_4, a0_5, a0_6] #[.int .i64 a0_3, .int .i64 a0_4, .int .i64 a0_5, .int .i64 a0_6] rfl 3 (by simp))
    have HA2 := Aside0.mk ((Below.refl _ we).alloc (Nat.le_refl _) (.cells #[.int .i64 a0_3, .int .i64 a0_4, .int .i64 a0_5, .int .i64 a0_6] 3))
    have HP4 := Aside0.mk (HPe.out.below HA2.out)
    have HM4 := Aside0.mk (HMe.out.after HA2.out)
    refine hK.out _ _ ⟨(HP4.out.blk.cell 0), (HM4.out.cell 3), (HM4.out.cell 4), (HM4.out.cell 5), (HM4.out.cell 6)⟩ (fun hHeld => ?_)
    clear hK K
    refine norm_ (a' := ?_) ?_ ?_
    rotate_left
    · show Act.put _ (some 38) _ = _
      simp only [Act.put, List.setIfInBounds_toArray, List.set_cons_zero, List.set_cons_succ, i64_w, i32_w]
      rfl
    refine last_ (i := 14) (N := some 39) #[true, true, true, true, true, true, true, true, true, true, true, true, true, true, true, false] rfl rfl (by kernel_rfl) (by decide) (fun K hK => ?_)
    refine goes_ Try.func34 (by kernel_rfl) rfl #[.pointer (some ⟨gw, 0, none⟩), .slice (some ⟨we.heap.size, 0, none⟩) 4 4] (by rfl) rfl rfl (by simp only [List.map_toArray, List.map_cons, List.map_nil]; rfl) ?_
    with_reducible refine (intP 4 4 _ HW2.out HP4.out rfl HC2.out (Nat.le_refl 4) (by simp)).mono ?_
    rintro e5 w5 ⟨rfl, hP5, hS5⟩
    refine ⟨_, rfl, ?_⟩
    have HP5 := Aside0.mk hP5
    clear hP5 hS5
    refine hK.out _ _ ?_
    clear hK K
    refine norm_ (a' := ?_) ?_ ?_
    rotate_left
    · show Act.put _ (some 39) _ = _
      simp only [Act.put, List.setIfInBounds_toArray, List.set_cons_zero, List.set_cons_succ, i64_w, i32_w]
      rfl
    refine last_ (i := 15) (N := some 40) #[true, true, true, true, true, true, true, true, true, true, true, true, true, true, true, true] rfl rfl (by kernel_rfl) (by decide) (fun K hK => ?_)
    refine goes_ Try.func32 (by kernel_rfl) rfl #[.pointer (some ⟨g, 0, none⟩), .int .i64 e2] (by rfl) rfl rfl (by simp only [List.map_toArray, List.map_cons, List.map_nil]; rfl) ?_
    with_reducible refine (message_pen_must.calls w2 _ g gw l2 e1 e2 _ HP5.out).mono ?_
    rintro e7 w7 ⟨rfl, hP7, hS7⟩
    refine ⟨_, rfl, ?_⟩
    have HP7 := Aside0.mk hP7
    clear hP7 hS7
    refine hK.out _ _ ?_
    clear hK K
    refine norm_ (a' := ?_) ?_ ?_
    rotate_left
    · show Act.put _ (some 40) _ = _
      simp only [Act.put, List.setIfInBounds_toArray, List.set_cons_zero, List.set_cons_succ, i64_w, i32_w]
      rfl
    refine done_ (by kernel_rfl) ?_
    clear hHeld HPe HMe HC2 HA2 HP4 HM4 HP5 HP6
    have HM7 := (HM2.out.after HP7.out.bel).cell 7
    have hm7 : w7.cell? ⟨w.heap.size, 7, none⟩ = some (.slice A0_7 l0_7.length c0_7) := HM7
    clear HM7
    go_wp2_with (first | (go_at_call 35; (with_reducible refine (message_pen_log.calls w2 _ g gw l2 (mustE e1 e2) A0_7 c0_7 l0_7 HP7.out HR2.out hc0 hn HS.out).mono ?_); rintro e w8 ⟨rfl, hP8⟩; rw [HW3.out] at hP8; have HP8 := Aside0.mk hP8; clear hP8) | (go_at_call 36; (with_reducible refine (message_pen_all.calls w2 _ g gw l3 e3 _ HP8.out).mono ?_); rintro e w9 ⟨v9, rfl, hR9, hB9⟩; have HR9 := Aside0.mk hR9; have HB9 := Aside0.mk hB9; clear hR9 hB9))
    go_ret2
    have hb8 : Below w.heap.size w w8 := HB2.out.trans (HP8.out.bel.mono HB2.out.size)
    exact ⟨_, rfl, Kd.R_lower HR9.out hb8.size, hb8.trans (HB9.out.mono hb8.size)⟩


end Go.Proofs.Ytlmlkcobkmhmbaa.Q
end

section
-- written by hprint.py (a program of these sessions) out of the translation; Lean checks it
namespace Go.Proofs.Ytlmlkcobkmhmbaa.Q
open Go.RowKit Go.Proofs.YtlmlkcobkmhmbaaW.Hb Go.Proofs.YtlmlkcobkmhmbaaW.PrintWords Go.Proofs.YtlmlkcobkmhmbaaW.PrintLast Go.Proofs.YtlmlkcobkmhmbaaW.PrintMore
attribute [local go_sem] max2_int min2_int max_two min_two max_three min_three max_four min_four   -- for this text's walks alone
set_option linter.unusedVariables false
set_option linter.unusedSimpArgs false

/-! ### weighhouselaw17_Message: function 12 -/
def weighhouselaw17_Message.f (k : Nat) (a0_0 : Int) (a0_1 : Int) (a0_2 : Int) (a0_3 : Int) (a0_4 : Int) (a0_5 : Int) (a0_6 : Int) (l0_7 : List (S113)) : Option (Int × Int × Int × Int × Int × Int × Int × (List (S74))) := (weighhouselaw17_Log.f k l0_7).bind fun t163 => (some (a0_0, a0_1, a0_2, a0_3, a0_4, a0_5, a0_6, t163))
theorem weighhouselaw17_Message.mono : ∀ a0 a1 a2 a3 a4 a5 a6 a7 k, LeO (weighhouselaw17_Message.f k a0 a1 a2 a3 a4 a5 a6 a7) (weighhouselaw17_Message.f (k + 1) a0 a1 a2 a3 a4 a5 a6 a7) := by
  intro a0 a1 a2 a3 a4 a5 a6 a7 k
  unfold weighhouselaw17_Message.f
  repeat' first
      | (with_reducible exact weighhouselaw17_Log.mono _ _)
      | (with_reducible exact LeO.refl _)
      | (with_reducible exact LeO.none _)
      | (with_reducible refine LeO.ite ?_ ?_)
      | (with_reducible refine LeO.bind ?_ (fun _ => ?_))
      | exact weighhouselaw17_Log.mono _ _
      | exact LeO.none _
      | refine LeO.ite ?_ ?_
      | refine LeO.bind ?_ (fun _ => ?_)
def weighhouselaw17_Message.T1 : Bool × List (List Nat × List Nat) := (true, [([], []), ([0], [0]), ([], []), ([2], [2]), ([], []), ([4], [4]), ([], []), ([6], [6]), ([], []), ([8], [8]), ([], []), ([10], [10]), ([], []), ([12], [12]), ([], []), ([14], [14]), ([15], [15]), ([1, 3, 5, 7, 9, 11, 13, 16], [1, 3, 5, 7, 9, 11, 13, 16]), ([17, 16, 0, 1, 2, 3, 4, 5, 6, 7, 8, 9, 10, 11, 12, 13, 14, 15, 16, 17], [17])])
def weighhouselaw17_Message.B1 : List Nat := [0, 1, 0, 4, 0, 16, 0, 64, 0, 256, 0, 1024, 0, 4096, 0, 16384, 49152, 131071, 262143]
theorem weighhouselaw17_Message.tab1 : rtab .any (opsOf Try.f12 1) = weighhouselaw17_Message.T1 := by kernel_rfl
theorem weighhouselaw17_Message.bits1 : waitsOk weighhouselaw17_Message.T1.2 weighhouselaw17_Message.B1 = true := by kernel_rfl
set_option maxHeartbeats 8000000 in
set_option maxRecDepth 100000 in
theorem weighhouselaw17_Message.calls (k : Nat) (a0_0 : Int) (a0_1 : Int) (a0_2 : Int) (a0_3 : Int) (a0_4 : Int) (a0_5 : Int) (a0_6 : Int) (A0_7 : Option Addr) (c0_7 : Nat) (l0_7 : List (S113)) (r1 : Int) (r2 : Int) (r3 : Int) (r4 : Int) (r5 : Int) (r6 : Int) (r7 : Int) (r8 : List (S74)) (w : World) (hr0_7 : Kd.C k113 w A0_7 l0_7.length l0_7) (hc0_7 : l0_7.length ≤ c0_7) (h : weighhouselaw17_Message.f k a0_0 a0_1 a0_2 a0_3 a0_4 a0_5 a0_6 l0_7 = some (r1, r2, r3, r4, r5, r6, r7, r8)) :
    Calls Try.prog 12 #[.agg #[.int .i64 a0_0, .int .i64 a0_1, .int .i64 a0_2, .int .i64 a0_3, .int .i64 a0_4, .int .i64 a0_5, .int .i64 a0_6, .slice A0_7 l0_7.length c0_7]] w fun e w' => ∃ v7_ : Value, e = .returned (.agg #[.int .i64 r1, .int .i64 r2, .int .i64 r3, .int .i64 r4, .int .i64 r5, .int .i64 r6, .int .i64 r7, v7_]) ∧ Kd.R k74 74 w' w.heap.size (fun _ => True) v7_ r8 ∧ Below w.heap.size w w' := by
  have hu34 := Try.underlying34
  have hu40 := Try.underlying40
  have HR0_7 := Aside0.mk hr0_7
  have HC0_7 := Aside0.mk hc0_7
  clear hr0_7 hc0_7
  have HB := Aside0.mk (Below.refl w.heap.size w)
  have H : ((weighhouselaw17_Log.f k l0_7).bind fun t163 => (some (a0_0, a0_1, a0_2, a0_3, a0_4, a0_5, a0_6, t163))) = some (r1, r2, r3, r4, r5, r6, r7, r8) := h
  clear h
  replace H := Option.bind_eq_some_iff.mp H
  obtain ⟨t163, A20, H⟩ := H
  replace H : (some (a0_0, a0_1, a0_2, a0_3, a0_4, a0_5, a0_6, t163)) = some (r1, r2, r3, r4, r5, r6, r7, r8) := H
  have A2 := Aside0.mk A20
  clear A20
  simp only [Option.some.injEq, Prod.mk.injEq] at H
  obtain ⟨rfl, rfl, rfl, rfl, rfl, rfl, rfl, rfl⟩ := H
  go_enter Try.func12, Try.ntmps12
  try go_wp2_with (first | ((with_reducible refine gate_dst (N := 1) rfl ?_); refine box_event ?hg (N := 1) ?hd (cs := #[.int .i64 a0_0, .int .i64 a0_1, .int .i64 a0_2, .int .i64 a0_3, .int .i64 a0_4, .int .i64 a0_5, .int .i64 a0_6, .slice A0_7 l0_7.length c0_7]) (t := 34) ?hr ?_; (case hd => rfl); (case hg => rfl); (case hr => first | (go_simp; done) | (go_simp; rfl)); intro gb161 hg w3 hbox hb; have n0_ := Aside0.mk (below_step (by repeat (first | (with_reducible first | exact HB.out | apply below_alloc | apply pw_below_drewN | apply below_drew1) | exact HB.out)) hb); have n1_ := Aside0.mk (hbox); have n2_ := Aside0.mk ((by rw [hg]; exact (below_size (by repeat (first | (with_reducible first | exact HB.out | apply below_alloc | apply pw_below_drewN | apply below_drew1) | exact HB.out))) : w.heap.size ≤ gb161)); have n3_ := Aside0.mk ((by rw [hg]; exact (below_size (by repeat (first | (with_reducible first | exact HB.out | apply below_alloc | apply pw_below_drewN | apply below_drew1) | exact HB.out))) : w.heap.size ≤ gb161)); clear HB; have HB := n0_; have BK161 := n1_; have GW161 := n2_; have GE161 := n3_; clear n0_ n1_ n2_ n3_; clear hb hbox hg) | ((with_reducible refine gate_dst (N := 2) rfl ?_); refine box_event ?hg (N := 2) ?hd (cs := #[.int .i64 0, .int .i64 0, .int .i64 0, .int .i64 0, .int .i64 0, .int .i64 0, .int .i64 0, .slice none 0 0]) (t := 40) ?hr ?_; (case hd => rfl); (case hg => rfl); (case hr => first | (go_simp; done) | (go_simp; rfl)); intro gb162 hg w4 hbox hb; have n0_ := Aside0.mk (blk_below (g := gb161) (o := .cells #[.int .i64 a0_0, .int .i64 a0_1, .int .i64 a0_2, .int .i64 a0_3, .int .i64 a0_4, .int .i64 a0_5, .int .i64 a0_6, .slice A0_7 l0_7.length c0_7] 34 (0, 0)) (by (with_reducible repeat (first | refine blk_drewN ?_ _ | refine blk_drew ?_ | refine blk_alloc ?_ _)); exact BK161.out) hb); have n1_ := Aside0.mk (below_step (by repeat (first | (with_reducible first | exact HB.out | apply below_alloc | apply pw_below_drewN | apply below_drew1 | refine below_set ?_ GE161.out) | exact HB.out)) hb); have n2_ := Aside0.mk (hbox); have n3_ := Aside0.mk ((by rw [hg]; exact (below_size (by repeat (first | (with_reducible first | exact HB.out | apply below_alloc | apply pw_below_drewN | apply below_drew1 | refine below_set ?_ GE161.out) | exact HB.out))) : w.heap.size ≤ gb162)); have n4_ := Aside0.mk ((by rw [hg]; exact (below_size (by repeat (first | (with_reducible first | exact HB.out | apply below_alloc | apply pw_below_drewN | apply below_drew1 | refine below_set ?_ GE161.out) | exact HB.out))) : w.heap.size ≤ gb162)); have n5_ := Aside0.mk ((by rw [hg]; exact Nat.ne_of_lt (blk_lt (g := gb161) (o := .cells #[.int .i64 a0_0, .int .i64 a0_1, .int .i64 a0_2, .int .i64 a0_3, .int .i64 a0_4, .int .i64 a0_5, .int .i64 a0_6, .slice A0_7 l0_7.length c0_7] 34 (0, 0)) (by (with_reducible repeat (first | refine blk_drewN ?_ _ | refine blk_drew ?_ | refine blk_alloc ?_ _)); exact BK161.out)) : gb161 ≠ gb162)); have n6_ := Aside0.mk ((by rw [hg]; exact Nat.ne_of_gt (blk_lt (g := gb161) (o := .cells #[.int .i64 a0_0, .int .i64 a0_1, .int .i64 a0_2, .int .i64 a0_3, .int .i64 a0_4, .int .i64 a0_5, .int .i64 a0_6, .slice A0_7 l0_7.length c0_7] 34 (0, 0)) (by (with_reducible repeat (first | refine blk_drewN ?_ _ | refine blk_drew ?_ | refine blk_alloc ?_ _)); exact BK161.out)) : gb162 ≠ gb161)); clear BK161; clear HB; have BK161 := n0_; have HB := n1_; have BK162 := n2_; have GW162 := n3_; have GE162 := n4_; have NB161_162 := n5_; have NB162_161 := n6_; clear n0_ n1_ n2_ n3_ n4_ n5_ n6_; clear hb hbox hg))
  have n0_ := Aside0.mk (blk_drew BK161.out)
  have n1_ := Aside0.mk (blk_drew BK162.out)
  have n2_ := Aside0.mk (below_drew1 HB.out)
  clear BK161
  clear BK162
  clear HB
  have BK161 := n0_
  have BK162 := n1_
  have HB := n2_
  clear n0_ n1_ n2_
  refine start_ (n := 19) (S := fun w' => w'.cell? ⟨gb161, 0, none⟩ = some (.int .i64 a0_0) ∧ w'.cell? ⟨gb161, 1, none⟩ = some (.int .i64 a0_1) ∧ w'.cell? ⟨gb161, 2, none⟩ = some (.int .i64 a0_2) ∧ w'.cell? ⟨gb161, 3, none⟩ = some (.int .i64 a0_3) ∧ w'.cell? ⟨gb161, 4, none⟩ = some (.int .i64 a0_4) ∧ w'.cell? ⟨gb161, 5, none⟩ = some (.int .i64 a0_5) ∧ w'.cell? ⟨gb161, 6, none⟩ = some (.int .i64 a0_6) ∧ w'.cell? ⟨gb161, 7, none⟩ = some (.slice A0_7 l0_7.length c0_7)) (ds := []) #[false, false, false, false, false, false, false, false, false, false, false, false, false, false, false, false, false, false, false] (by kernel_rfl) rfl rfl ⟨(blk_cell BK161.out 0).trans rfl, (blk_cell BK161.out 1).trans rfl, (blk_cell BK161.out 2).trans rfl, (blk_cell BK161.out 3).trans rfl, (blk_cell BK161.out 4).trans rfl, (blk_cell BK161.out 5).trans rfl, (blk_cell BK161.out 6).trans rfl, (blk_cell BK161.out 7).trans rfl⟩ (fun hHeld => ?_); refine with_tabW weighhouselaw17_Message.tab1 weighhouselaw17_Message.bits1 (fun HT_ HW_ => ?_)
  generalize w4.drew = w5 at BK161 BK162 HB hHeld ⊢
  refine pure_ (i := 0) (N := some 3) (v := ?_) (a' := ?_) #[true, false, false, false, false, false, false, false, false, false, false, false, false, false, false, false, false, false, false] rfl rfl (any_of HT_.out (by kernel_rfl)) (fun _ _ _ h => h) (Or.inl ⟨by rfl, ?_⟩) ?_ ?_
  rotate_left
  · intro w'
    go_simp
    with_reducible rfl
  rotate_left
  · simp only [Act.put, List.setIfInBounds_toArray, List.set_cons_zero, List.set_cons_succ, i64_w, i32_w]
    rfl
  refine pure_ (i := 2) (N := some 5) (v := ?_) (a' := ?_) #[true, false, true, false, false, false, false, false, false, false, false, false, false, false, false, false, false, false, false] rfl rfl (any_of HT_.out (by kernel_rfl)) (fun _ _ _ h => h) (Or.inl ⟨by rfl, ?_⟩) ?_ ?_
  rotate_left
  · intro w'
    go_simp
    with_reducible rfl
  rotate_left
  · simp only [Act.put, List.setIfInBounds_toArray, List.set_cons_zero, List.set_cons_succ, i64_w, i32_w]
    rfl
  refine pure_ (i := 4) (N := some 7) (v := ?_) (a' := ?_) #[true, false, true, false, true, false, false, false, false, false, false, false, false, false, false, false, false, false, false] rfl rfl (any_of HT_.out (by kernel_rfl)) (fun _ _ _ h => h) (Or.inl ⟨by rfl, ?_⟩) ?_ ?_
  rotate_left
  · intro w'
    go_simp
    with_reducible rfl
  rotate_left
  · simp only [Act.put, List.setIfInBounds_toArray, List.set_cons_zero, List.set_cons_succ, i64_w, i32_w]
    rfl
  refine pure_ (i := 6) (N := some 9) (v := ?_) (a' := ?_) #[true, false, true, false, true, false, true, false, false, false, false, false, false, false, false, false, false, false, false] rfl rfl (any_of HT_.out (by kernel_rfl)) (fun _ _ _ h => h) (Or.inl ⟨by rfl, ?_⟩) ?_ ?_
  rotate_left
  · intro w'
    go_simp
    with_reducible rfl
  rotate_left
  · simp only [Act.put, List.setIfInBounds_toArray, List.set_cons_zero, List.set_cons_succ, i64_w, i32_w]
    rfl
  refine pure_ (i := 8) (N := some 11) (v := ?_) (a' := ?_) #[true, false, true, false, true, false, true, false, true, false, false, false, false, false, false, false, false, false, false] rfl rfl (any_of HT_.out (by kernel_rfl)) (fun _ _ _ h => h) (Or.inl ⟨by rfl, ?_⟩) ?_ ?_
  rotate_left
  · intro w'
    go_simp
    with_reducible rfl
  rotate_left
  · simp only [Act.put, List.setIfInBounds_toArray, List.set_cons_zero, List.set_cons_succ, i64_w, i32_w]
    rfl
  refine pure_ (i := 10) (N := some 13) (v := ?_) (a' := ?_) #[true, false, true, false, true, false, true, false, true, false, true, false, false, false, false, false, false, false, false] rfl rfl (any_of HT_.out (by kernel_rfl)) (fun _ _ _ h => h) (Or.inl ⟨by rfl, ?_⟩) ?_ ?_
  rotate_left
  · intro w'
    go_simp
    with_reducible rfl
  rotate_left
  · simp only [Act.put, List.setIfInBounds_toArray, List.set_cons_zero, List.set_cons_succ, i64_w, i32_w]
    rfl
  refine pure_ (i := 12) (N := some 15) (v := ?_) (a' := ?_) #[true, false, true, false, true, false, true, false, true, false, true, false, true, false, false, false, false, false, false] rfl rfl (any_of HT_.out (by kernel_rfl)) (fun _ _ _ h => h) (Or.inl ⟨by rfl, ?_⟩) ?_ ?_
  rotate_left
  · intro w'
    go_simp
    with_reducible rfl
  rotate_left
  · simp only [Act.put, List.setIfInBounds_toArray, List.set_cons_zero, List.set_cons_succ, i64_w, i32_w]
    rfl
  refine pure_ (i := 14) (N := some 17) (v := ?_) (a' := ?_) #[true, false, true, false, true, false, true, false, true, false, true, false, true, false, true, false, false, false, false] rfl rfl (any_of HT_.out (by kernel_rfl)) (fun _ _ _ h => h) (Or.inl ⟨by rfl, ?_⟩) ?_ ?_
  rotate_left
  · intro w'
    go_simp
    with_reducible rfl
  rotate_left
  · simp only [Act.put, List.setIfInBounds_toArray, List.set_cons_zero, List.set_cons_succ, i64_w, i32_w]
    rfl
  refine take_ (i := 1) (N := some 4) (v := ?_) (a' := ?_) #[true, true, true, false, true, false, true, false, true, false, true, false, true, false, true, false, false, false, false] rfl rfl (take_ofW HT_.out HW_.out (by kernel_rfl)) (fun _ _ _ h => h) (Or.inl ⟨by rfl, ?_⟩) hHeld ?_ ?_
  rotate_left
  · rintro w' ⟨s0, s1, s2, s3, s4, s5, s6, s7⟩
    go_simp
    with_reducible rfl
  rotate_left
  · simp only [Act.put, List.setIfInBounds_toArray, List.set_cons_zero, List.set_cons_succ, i64_w, i32_w]
    rfl
  refine take_ (i := 3) (N := some 6) (v := ?_) (a' := ?_) #[true, true, true, true, true, false, true, false, true, false, true, false, true, false, true, false, false, false, false] rfl rfl (take_ofW HT_.out HW_.out (by kernel_rfl)) (fun _ _ _ h => h) (Or.inl ⟨by rfl, ?_⟩) hHeld ?_ ?_
  rotate_left
  · rintro w' ⟨s0, s1, s2, s3, s4, s5, s6, s7⟩
    go_simp
    with_reducible rfl
  rotate_left
  · simp only [Act.put, List.setIfInBounds_toArray, List.set_cons_zero, List.set_cons_succ, i64_w, i32_w]
    rfl
  refine take_ (i := 5) (N := some 8) (v := ?_) (a' := ?_) #[true, true, true, true, true, true, true, false, true, false, true, false, true, false, true, false, false, false, false] rfl rfl (take_ofW HT_.out HW_.out (by kernel_rfl)) (fun _ _ _ h => h) (Or.inl ⟨by rfl, ?_⟩) hHeld ?_ ?_
  rotate_left
  · rintro w' ⟨s0, s1, s2, s3, s4, s5, s6, s7⟩
    go_simp
    with_reducible rfl
  rotate_left
  · simp only [Act.put, List.setIfInBounds_toArray, List.set_cons_zero, List.set_cons_succ, i64_w, i32_w]
    rfl
  refine take_ (i := 7) (N := some 10) (v := ?_) (a' := ?_) #[true, true, true, true, true, true, true, true, true, false, true, false, true, false, true, false, false, false, false] rfl rfl (take_ofW HT_.out HW_.out (by kernel_rfl)) (fun _ _ _ h => h) (Or.inl ⟨by rfl, ?_⟩) hHeld ?_ ?_
  rotate_left
  · rintro w' ⟨s0, s1, s2, s3, s4, s5, s6, s7⟩
    go_simp
    with_reducible rfl
  rotate_left
  · simp only [Act.put, List.setIfInBounds_toArray, List.set_cons_zero, List.set_cons_succ, i64_w, i32_w]
    rfl
  refine take_ (i := 9) (N := some 12) (v := ?_) (a' := ?_) #[true, true, true, true, true, true, true, true, true, true, true, false, true, false, true, false, false, false, false] rfl rfl (take_ofW HT_.out HW_.out (by kernel_rfl)) (fun _ _ _ h => h) (Or.inl ⟨by rfl, ?_⟩) hHeld ?_ ?_
  rotate_left
  · rintro w' ⟨s0, s1, s2, s3, s4, s5, s6, s7⟩
    go_simp
    with_reducible rfl
  rotate_left
  · simp only [Act.put, List.setIfInBounds_toArray, List.set_cons_zero, List.set_cons_succ, i64_w, i32_w]
    rfl
  refine take_ (i := 11) (N := some 14) (v := ?_) (a' := ?_) #[true, true, true, true, true, true, true, true, true, true, true, true, true, false, true, false, false, false, false] rfl rfl (take_ofW HT_.out HW_.out (by kernel_rfl)) (fun _ _ _ h => h) (Or.inl ⟨by rfl, ?_⟩) hHeld ?_ ?_
  rotate_left
  · rintro w' ⟨s0, s1, s2, s3, s4, s5, s6, s7⟩
    go_simp
    with_reducible rfl
  rotate_left
  · simp only [Act.put, List.setIfInBounds_toArray, List.set_cons_zero, List.set_cons_succ, i64_w, i32_w]
    rfl
  refine take_ (i := 13) (N := some 16) (v := ?_) (a' := ?_) #[true, true, true, true, true, true, true, true, true, true, true, true, true, true, true, false, false, false, false] rfl rfl (take_ofW HT_.out HW_.out (by kernel_rfl)) (fun _ _ _ h => h) (Or.inl ⟨by rfl, ?_⟩) hHeld ?_ ?_
  rotate_left
  · rintro w' ⟨s0, s1, s2, s3, s4, s5, s6, s7⟩
    go_simp
    with_reducible rfl
  rotate_left
  · simp only [Act.put, List.setIfInBounds_toArray, List.set_cons_zero, List.set_cons_succ, i64_w, i32_w]
    rfl
  refine take_ (i := 15) (N := some 18) (v := ?_) (a' := ?_) #[true, true, true, true, true, true, true, true, true, true, true, true, true, true, true, true, false, false, false] rfl rfl (take_ofW HT_.out HW_.out (by kernel_rfl)) (fun _ _ _ h => h) (Or.inl ⟨by rfl, ?_⟩) hHeld ?_ ?_
  rotate_left
  · rintro w' ⟨s0, s1, s2, s3, s4, s5, s6, s7⟩
    go_simp
    with_reducible rfl
  rotate_left
  · simp only [Act.put, List.setIfInBounds_toArray, List.set_cons_zero, List.set_cons_succ, i64_w, i32_w]
    rfl
  refine one_ (i := 16) (N := some 19) #[true, true, true, true, true, true, true, true, true, true, true, true, true, true, true, true, true, false, false] rfl rfl (one_of HT_.out (by kernel_rfl)) (by decide) (fun K hK => ?_)
  refine goes_ Try.func37 (by kernel_rfl) rfl #[.slice A0_7 l0_7.length c0_7] (by rfl) rfl rfl (by (try simp only [List.map_toArray, List.map_cons, List.map_nil]); first | done | rfl | (simp only [List.length_drop, List.length_take]; rfl)) ?_
  with_reducible refine (weighhouselaw17_Log.calls k _ _ l0_7 t163 _ ?side1 ?side2 A2.out).mono ?_
  (case side1 => repeat (first | exact (Kd.C_below HR0_7.out HB.out) | (with_reducible refine Kd.C_alloc ?_ _) | (with_reducible refine Kd.C_drewN ?_ _) | (with_reducible refine Kd.C_drew ?_)))
  (case side2 => exact HC0_7.out)
  rintro e w6 ⟨v164, rfl, ho0, hb⟩
  refine ⟨_, rfl, ?_⟩
  have n0_ := Aside0.mk (Kd.R_lower ho0 (below_size (by repeat (first | (with_reducible first | exact HB.out | apply below_alloc | apply pw_below_drewN | apply below_drew1 | refine below_set ?_ GE161.out | refine below_set ?_ GE162.out) | exact HB.out))))
  have n1_ := Aside0.mk (blk_below (g := gb161) (o := .cells #[.int .i64 a0_0, .int .i64 a0_1, .int .i64 a0_2, .int .i64 a0_3, .int .i64 a0_4, .int .i64 a0_5, .int .i64 a0_6, .slice A0_7 l0_7.length c0_7] 34 (0, 0)) (by (with_reducible repeat (first | refine blk_drewN ?_ _ | refine blk_drew ?_ | refine blk_alloc ?_ _)); exact BK161.out) hb)
  have n2_ := Aside0.mk (blk_below (g := gb162) (o := .cells #[.int .i64 0, .int .i64 0, .int .i64 0, .int .i64 0, .int .i64 0, .int .i64 0, .int .i64 0, .slice none 0 0] 40 (0, 0)) (by (with_reducible repeat (first | refine blk_drewN ?_ _ | refine blk_drew ?_ | refine blk_alloc ?_ _)); exact BK162.out) hb)
  have n3_ := Aside0.mk (below_step (by repeat (first | (with_reducible first | exact HB.out | apply below_alloc | apply pw_below_drewN | apply below_drew1 | refine below_set ?_ GE161.out | refine below_set ?_ GE162.out) | exact HB.out)) hb)
  clear BK161
  clear BK162
  clear HB
  have HO165 := n0_
  have BK161 := n1_
  have BK162 := n2_
  have HB := n3_
  clear n0_ n1_ n2_ n3_
  (try clear hb)
  (try clear hb2)
  (try clear hk)
  (try clear hi)
  (try clear ho0)
  obtain ⟨Ao7, co7, eo7⟩ := Kd.R_slice HO165.out
  (first | subst eo7 | (injection eo7 with f1_ f2_ f3_; have f4_ := f1_.symm; have f5_ := f3_.symm; clear f1_ f2_ f3_; subst f4_; subst f5_))
  refine hK.out _ _ ⟨(blk_cell BK161.out 0).trans rfl, (blk_cell BK161.out 1).trans rfl, (blk_cell BK161.out 2).trans rfl, (blk_cell BK161.out 3).trans rfl, (blk_cell BK161.out 4).trans rfl, (blk_cell BK161.out 5).trans rfl, (blk_cell BK161.out 6).trans rfl, (blk_cell BK161.out 7).trans rfl⟩ (fun hHeld => ?_)
  clear hK K
  refine norm_ (a' := ?_) ?_ ?_
  rotate_left
  · show Act.put _ (some 19) _ = _
    simp only [Act.put, List.setIfInBounds_toArray, List.set_cons_zero, List.set_cons_succ, i64_w, i32_w]
    rfl
  refine pure_ (i := 17) (N := some 20) (v := ?_) (a' := ?_) #[true, true, true, true, true, true, true, true, true, true, true, true, true, true, true, true, true, true, false] rfl rfl (any_of HT_.out (by kernel_rfl)) (fun _ _ _ h => h) (Or.inl ⟨by rfl, ?_⟩) ?_ ?_
  rotate_left
  · intro w'
    go_simp
    with_reducible rfl
  rotate_left
  · simp only [Act.put, List.setIfInBounds_toArray, List.set_cons_zero, List.set_cons_succ, i64_w, i32_w]
    rfl
  refine one_ (i := 18) (N := none) #[true, true, true, true, true, true, true, true, true, true, true, true, true, true, true, true, true, true, true] rfl rfl (one_of HT_.out (by kernel_rfl)) (by decide) (fun K hK => ?_)
  have hs8 : w6.cell? ⟨gb162, 0, none⟩ = some (.int .i64 0) := (blk_cell BK162.out 0).trans rfl
  have hfs8 := blk_frozen BK162.out 0
  have hns8_0 := NB161_162.out
  have hms8_0 := NB162_161.out
  have hs9 : w6.cell? ⟨gb162, 1, none⟩ = some (.int .i64 0) := (blk_cell BK162.out 1).trans rfl
  have hfs9 := blk_frozen BK162.out 1
  have hns9_0 := NB161_162.out
  have hms9_0 := NB162_161.out
  have hs10 : w6.cell? ⟨gb162, 2, none⟩ = some (.int .i64 0) := (blk_cell BK162.out 2).trans rfl
  have hfs10 := blk_frozen BK162.out 2
  have hns10_0 := NB161_162.out
  have hms10_0 := NB162_161.out
  have hs11 : w6.cell? ⟨gb162, 3, none⟩ = some (.int .i64 0) := (blk_cell BK162.out 3).trans rfl
  have hfs11 := blk_frozen BK162.out 3
  have hns11_0 := NB161_162.out
  have hms11_0 := NB162_161.out
  have hs12 : w6.cell? ⟨gb162, 4, none⟩ = some (.int .i64 0) := (blk_cell BK162.out 4).trans rfl
  have hfs12 := blk_frozen BK162.out 4
  have hns12_0 := NB161_162.out
  have hms12_0 := NB162_161.out
  have hs13 : w6.cell? ⟨gb162, 5, none⟩ = some (.int .i64 0) := (blk_cell BK162.out 5).trans rfl
  have hfs13 := blk_frozen BK162.out 5
  have hns13_0 := NB161_162.out
  have hms13_0 := NB162_161.out
  have hs14 : w6.cell? ⟨gb162, 6, none⟩ = some (.int .i64 0) := (blk_cell BK162.out 6).trans rfl
  have hfs14 := blk_frozen BK162.out 6
  have hns14_0 := NB161_162.out
  have hms14_0 := NB162_161.out
  have hs15 : w6.cell? ⟨gb162, 7, none⟩ = some (.slice none 0 0) := (blk_cell BK162.out 7).trans rfl
  have hfs15 := blk_frozen BK162.out 7
  have hns15_0 := NB161_162.out
  have hms15_0 := NB162_161.out
  refine skip_ (w1 := ?_) (by rfl) rfl ?_ ?_
  rotate_left
  · go_simp
    rfl
  refine hK.out _ _ ⟨((cell_far (p := ⟨gb162, _, none⟩) NB161_162.out _).trans (((cell_far (p := ⟨gb162, _, none⟩) NB161_162.out _).trans (((cell_far (p := ⟨gb162, _, none⟩) NB161_162.out _).trans (((cell_far (p := ⟨gb162, _, none⟩) NB161_162.out _).trans (((cell_far (p := ⟨gb162, _, none⟩) NB161_162.out _).trans (((cell_far (p := ⟨gb162, _, none⟩) NB161_162.out _).trans (((cell_far (p := ⟨gb162, _, none⟩) NB161_162.out _).trans (((cell_far (p := ⟨gb162, _, none⟩) NB161_162.out _).trans (hHeld.1)))))))))))))))), ((cell_far (p := ⟨gb162, _, none⟩) NB161_162.out _).trans (((cell_far (p := ⟨gb162, _, none⟩) NB161_162.out _).trans (((cell_far (p := ⟨gb162, _, none⟩) NB161_162.out _).trans (((cell_far (p := ⟨gb162, _, none⟩) NB161_162.out _).trans (((cell_far (p := ⟨gb162, _, none⟩) NB161_162.out _).trans (((cell_far (p := ⟨gb162, _, none⟩) NB161_162.out _).trans (((cell_far (p := ⟨gb162, _, none⟩) NB161_162.out _).trans (((cell_far (p := ⟨gb162, _, none⟩) NB161_162.out _).trans (hHeld.2.1)))))))))))))))), ((cell_far (p := ⟨gb162, _, none⟩) NB161_162.out _).trans (((cell_far (p := ⟨gb162, _, none⟩) NB161_162.out _).trans (((cell_far (p := ⟨gb162, _, none⟩) NB161_162.out _).trans (((cell_far (p := ⟨gb162, _, none⟩) NB161_162.out _).trans (((cell_far (p := ⟨gb162, _, none⟩) NB161_162.out _).trans (((cell_far (p := ⟨gb162, _, none⟩) NB161_162.out _).trans (((cell_far (p := ⟨gb162, _, none⟩) NB161_162.out _).trans (((cell_far (p := ⟨gb162, _, none⟩) NB161_162.out _).trans (hHeld.2.2.1)))))))))))))))), ((cell_far (p := ⟨gb162, _, none⟩) NB161_162.out _).trans (((cell_far (p := ⟨gb162, _, none⟩) NB161_162.out _).trans (((cell_far (p := ⟨gb162, _, none⟩) NB161_162.out _).trans (((cell_far (p := ⟨gb162, _, none⟩) NB161_162.out _).trans (((cell_far (p := ⟨gb162, _, none⟩) NB161_162.out _).trans (((cell_far (p := ⟨gb162, _, none⟩) NB161_162.out _).trans (((cell_far (p := ⟨gb162, _, none⟩) NB161_162.out _).trans (((cell_far (p := ⟨gb162, _, none⟩) NB161_162.out _).trans (hHeld.2.2.2.1)))))))))))))))), ((cell_far (p := ⟨gb162, _, none⟩) NB161_162.out _).trans (((cell_far (p := ⟨gb162, _, none⟩) NB161_162.out _).trans (((cell_far (p := ⟨gb162, _, none⟩) NB161_162.out _).trans (((cell_far (p := ⟨gb162, _, none⟩) NB161_162.out _).trans (((cell_far (p := ⟨gb162, _, none⟩) NB161_162.out _).trans (((cell_far (p := ⟨gb162, _, none⟩) NB161_162.out _).trans (((cell_far (p := ⟨gb162, _, none⟩) NB161_162.out _).trans (((cell_far (p := ⟨gb162, _, none⟩) NB161_162.out _).trans (hHeld.2.2.2.2.1)))))))))))))))), ((cell_far (p := ⟨gb162, _, none⟩) NB161_162.out _).trans (((cell_far (p := ⟨gb162, _, none⟩) NB161_162.out _).trans (((cell_far (p := ⟨gb162, _, none⟩) NB161_162.out _).trans (((cell_far (p := ⟨gb162, _, none⟩) NB161_162.out _).trans (((cell_far (p := ⟨gb162, _, none⟩) NB161_162.out _).trans (((cell_far (p := ⟨gb162, _, none⟩) NB161_162.out _).trans (((cell_far (p := ⟨gb162, _, none⟩) NB161_162.out _).trans (((cell_far (p := ⟨gb162, _, none⟩) NB161_162.out _).trans (hHeld.2.2.2.2.2.1)))))))))))))))), ((cell_far (p := ⟨gb162, _, none⟩) NB161_162.out _).trans (((cell_far (p := ⟨gb162, _, none⟩) NB161_162.out _).trans (((cell_far (p := ⟨gb162, _, none⟩) NB161_162.out _).trans (((cell_far (p := ⟨gb162, _, none⟩) NB161_162.out _).trans (((cell_far (p := ⟨gb162, _, none⟩) NB161_162.out _).trans (((cell_far (p := ⟨gb162, _, none⟩) NB161_162.out _).trans (((cell_far (p := ⟨gb162, _, none⟩) NB161_162.out _).trans (((cell_far (p := ⟨gb162, _, none⟩) NB161_162.out _).trans (hHeld.2.2.2.2.2.2.1)))))))))))))))), ((cell_far (p := ⟨gb162, _, none⟩) NB161_162.out _).trans (((cell_far (p := ⟨gb162, _, none⟩) NB161_162.out _).trans (((cell_far (p := ⟨gb162, _, none⟩) NB161_162.out _).trans (((cell_far (p := ⟨gb162, _, none⟩) NB161_162.out _).trans (((cell_far (p := ⟨gb162, _, none⟩) NB161_162.out _).trans (((cell_far (p := ⟨gb162, _, none⟩) NB161_162.out _).trans (((cell_far (p := ⟨gb162, _, none⟩) NB161_162.out _).trans (((cell_far (p := ⟨gb162, _, none⟩) NB161_162.out _).trans (hHeld.2.2.2.2.2.2.2))))))))))))))))⟩ (fun hHeld => ?_)
  clear hK K
  refine done_ (done_of HT_.out (by kernel_rfl)) ?_
  try go_wp2
  refine bodyPost_ret (results_cell_row rfl _ _ gb162 40 #[.int .i64 a0_0, .int .i64 a0_1, .int .i64 a0_2, .int .i64 a0_3, .int .i64 a0_4, .int .i64 a0_5, .int .i64 a0_6, .slice Ao7 t163.length co7] (0, 0) _ rfl (by (with_reducible repeat (first | refine blk_drewN ?_ _ | refine blk_drew ?_ | refine blk_alloc ?_ _)); refine blk_put (cs := #[.int .i64 a0_0, .int .i64 a0_1, .int .i64 a0_2, .int .i64 a0_3, .int .i64 a0_4, .int .i64 a0_5, .int .i64 a0_6, .slice none 0 0]) ?_ 7 _ rfl; (with_reducible repeat (first | refine blk_drewN ?_ _ | refine blk_drew ?_ | refine blk_alloc ?_ _)); refine blk_put (cs := #[.int .i64 a0_0, .int .i64 a0_1, .int .i64 a0_2, .int .i64 a0_3, .int .i64 a0_4, .int .i64 a0_5, .int .i64 0, .slice none 0 0]) ?_ 6 _ rfl; (with_reducible repeat (first | refine blk_drewN ?_ _ | refine blk_drew ?_ | refine blk_alloc ?_ _)); refine blk_put (cs := #[.int .i64 a0_0, .int .i64 a0_1, .int .i64 a0_2, .int .i64 a0_3, .int .i64 a0_4, .int .i64 0, .int .i64 0, .slice none 0 0]) ?_ 5 _ rfl; (with_reducible repeat (first | refine blk_drewN ?_ _ | refine blk_drew ?_ | refine blk_alloc ?_ _)); refine blk_put (cs := #[.int .i64 a0_0, .int .i64 a0_1, .int .i64 a0_2, .int .i64 a0_3, .int .i64 0, .int .i64 0, .int .i64 0, .slice none 0 0]) ?_ 4 _ rfl; (with_reducible repeat (first | refine blk_drewN ?_ _ | refine blk_drew ?_ | refine blk_alloc ?_ _)); refine blk_put (cs := #[.int .i64 a0_0, .int .i64 a0_1, .int .i64 a0_2, .int .i64 0, .int .i64 0, .int .i64 0, .int .i64 0, .slice none 0 0]) ?_ 3 _ rfl; (with_reducible repeat (first | refine blk_drewN ?_ _ | refine blk_drew ?_ | refine blk_alloc ?_ _)); refine blk_put (cs := #[.int .i64 a0_0, .int .i64 a0_1, .int .i64 0, .int .i64 0, .int .i64 0, .int .i64 0, .int .i64 0, .slice none 0 0]) ?_ 2 _ rfl; (with_reducible repeat (first | refine blk_drewN ?_ _ | refine blk_drew ?_ | refine blk_alloc ?_ _)); refine blk_put (cs := #[.int .i64 a0_0, .int .i64 0, .int .i64 0, .int .i64 0, .int .i64 0, .int .i64 0, .int .i64 0, .slice none 0 0]) ?_ 1 _ rfl; (with_reducible repeat (first | refine blk_drewN ?_ _ | refine blk_drew ?_ | refine blk_alloc ?_ _)); refine blk_put (cs := #[.int .i64 0, .int .i64 0, .int .i64 0, .int .i64 0, .int .i64 0, .int .i64 0, .int .i64 0, .slice none 0 0]) ?_ 0 _ rfl; (with_reducible repeat (first | refine blk_drewN ?_ _ | refine blk_drew ?_ | refine blk_alloc ?_ _)); exact BK162.out) Try.underlying40 rfl (by kernel_rfl)) rfl ?_
  exact ⟨_, by first | rfl | (simp [errW_none, errW_some] <;> rfl) | (simp [*, errW_none, errW_some] <;> rfl), by (with_reducible repeat (first | apply Kd.R_alloc | apply Kd.R_drewN | apply Kd.R_drew)); exact Kd.R_mono (Kd.R_far (p := ⟨gb162, 7, none⟩) (Kd.R_far (p := ⟨gb162, 6, none⟩) (Kd.R_far (p := ⟨gb162, 5, none⟩) (Kd.R_far (p := ⟨gb162, 4, none⟩) (Kd.R_far (p := ⟨gb162, 3, none⟩) (Kd.R_far (p := ⟨gb162, 2, none⟩) (Kd.R_far (p := ⟨gb162, 1, none⟩) (Kd.R_far (p := ⟨gb162, 0, none⟩) (Kd.R_types HO165.out BK162.out (by decide)) (fun _ hk => hk.2) (.int .i64 a0_0)) (fun _ hk => hk.2) (.int .i64 a0_1)) (fun _ hk => hk.2) (.int .i64 a0_2)) (fun _ hk => hk.2) (.int .i64 a0_3)) (fun _ hk => hk.2) (.int .i64 a0_4)) (fun _ hk => hk.2) (.int .i64 a0_5)) (fun _ hk => hk.2) (.int .i64 a0_6)) (fun _ hk => hk.2) (.slice Ao7 t163.length co7)) (fun _ hk => trivial), by repeat (first | (with_reducible first | exact HB.out | apply below_alloc | apply pw_below_drewN | apply below_drew1 | refine below_set ?_ GE161.out | refine below_set ?_ GE162.out) | exact HB.out)⟩

end Go.Proofs.Ytlmlkcobkmhmbaa.Q
end

section
-- written by hprint.py (a program of these sessions) out of the translation; Lean checks it
namespace Go.Proofs.Ytlmlkcobkmhmbaa.Q
open Go.RowKit Go.Proofs.YtlmlkcobkmhmbaaW.Hb Go.Proofs.YtlmlkcobkmhmbaaW.PrintWords Go.Proofs.YtlmlkcobkmhmbaaW.PrintLast Go.Proofs.YtlmlkcobkmhmbaaW.PrintMore
attribute [local go_sem] max2_int min2_int max_two min_two max_three min_three max_four min_four   -- for this text's walks alone
set_option linter.unusedVariables false
set_option linter.unusedSimpArgs false

/-! ### weighhouselaw17_num: function 13 -/
def weighhouselaw17_num.f (a0 : Int) : Option (Int) := some a0
set_option maxHeartbeats 8000000 in
set_option maxRecDepth 100000 in
theorem weighhouselaw17_num.calls (a0 : Int) (r : Int) (w : World) (h : weighhouselaw17_num.f a0 = some r) :
    Calls Try.prog 13 #[.int .i64 a0] w fun e w' => e = .returned (.int .i64 r) ∧ Drawn0 w w' := by
  have H : (some a0) = some r := h
  clear h
  obtain rfl := Option.some.inj H
  go_enter Try.func13, Try.ntmps13
  go_wp2
  go_ret
  exact ⟨by first | rfl | (simp; done) | (simp [*]; done), by repeat (first | exact Drawn0.refl _ | apply Drawn0.step)⟩

end Go.Proofs.Ytlmlkcobkmhmbaa.Q
end

section
-- written by hprint.py (a program of these sessions) out of the translation; Lean checks it
namespace Go.Proofs.Ytlmlkcobkmhmbaa.Q
open Go.RowKit Go.Proofs.YtlmlkcobkmhmbaaW.Hb Go.Proofs.YtlmlkcobkmhmbaaW.PrintWords Go.Proofs.YtlmlkcobkmhmbaaW.PrintLast Go.Proofs.YtlmlkcobkmhmbaaW.PrintMore
attribute [local go_sem] max2_int min2_int max_two min_two max_three min_three max_four min_four   -- for this text's walks alone
set_option linter.unusedVariables false
set_option linter.unusedSimpArgs false

theorem eqA74 (d : Nat) (w : World) (x0 y0 : Int) (x1 y1 : ByteArray) :
    (Op.equalIn (d + 2) 74 (.agg #[.int .i64 x0, .string x1]) (.agg #[.int .i64 y0, .string y1])).run Try.prog w = .ok (x0 == y0 && (x1.toList == y1.toList)) w := by
  refine eqA_of Try.underlying74 (by kernel_rfl) ?_
  refine eqf_cons (by rfl) (by go_simp; rfl) (by go_simp; rfl) (by go_simp) ?_
  exact eqf_last (by rfl) (by go_simp; rfl) (by go_simp; rfl) (by go_simp)
end Go.Proofs.Ytlmlkcobkmhmbaa.Q
end

section
-- written by hprint.py (a program of these sessions) out of the translation; Lean checks it
namespace Go.Proofs.Ytlmlkcobkmhmbaa.Q
open Go.RowKit Go.Proofs.YtlmlkcobkmhmbaaW.Hb Go.Proofs.YtlmlkcobkmhmbaaW.PrintWords Go.Proofs.YtlmlkcobkmhmbaaW.PrintLast Go.Proofs.YtlmlkcobkmhmbaaW.PrintMore
attribute [local go_sem] max2_int min2_int max_two min_two max_three min_three max_four min_four   -- for this text's walks alone
set_option linter.unusedVariables false
set_option linter.unusedSimpArgs false

attribute [local go_sem high] eqA74
/-! ### weighhouselaw17_SameLog: function 38 -/
def weighhouselaw17_SameLog.l0 : Nat → List (S74) → List (S74) → Int → Option (Bool)
  | 0, _, _, _ => none
  | k + 1, x0, x1, x5 => if x5 < (x0.length : Int) then (if 0 ≤ x5 then (if x5 < (x1.length : Int) then (if (!(((rd_T74 x0 x5).f0) == ((rd_T74 x1 x5).f0)) || (!((((rd_T74 x0 x5).f1).toList) == (((rd_T74 x1 x5).f1).toList)))) = true then (some false) else (weighhouselaw17_SameLog.l0 k x0 x1 (wrap64 (x5 + 1)))) else (none)) else (none)) else (some true)
def weighhouselaw17_SameLog.f (k : Nat) (l0 : List (S74)) (l1 : List (S74)) : Option (Bool) := if (l0.length : Int) = (l1.length : Int) then (weighhouselaw17_SameLog.l0 k l0 l1 0) else (some false)
theorem weighhouselaw17_SameLog.mono_l : ∀ k, (∀ y0 y1 y2, LeO (weighhouselaw17_SameLog.l0 k y0 y1 y2) (weighhouselaw17_SameLog.l0 (k + 1) y0 y1 y2))
  | 0 => fun _ _ _ r h => by simp [weighhouselaw17_SameLog.l0] at h
  | k + 1 => by
    have ih0 := weighhouselaw17_SameLog.mono_l k
    · intro y0 y1 y2
      unfold weighhouselaw17_SameLog.l0
      repeat' first
      | (with_reducible exact ih0 _ _ _)
      | (with_reducible exact LeO.refl _)
      | (with_reducible exact LeO.none _)
      | (with_reducible refine LeO.ite ?_ ?_)
      | (with_reducible refine LeO.bind ?_ (fun _ => ?_))
      | exact ih0 _ _ _
      | exact LeO.none _
      | refine LeO.ite ?_ ?_
      | refine LeO.bind ?_ (fun _ => ?_)
theorem weighhouselaw17_SameLog.mono : ∀ a0 a1 k, LeO (weighhouselaw17_SameLog.f k a0 a1) (weighhouselaw17_SameLog.f (k + 1) a0 a1) := by
  intro a0 a1 k
  have ih0 := weighhouselaw17_SameLog.mono_l k
  unfold weighhouselaw17_SameLog.f
  repeat' first
      | (with_reducible exact ih0 _ _ _)
      | (with_reducible exact LeO.refl _)
      | (with_reducible exact LeO.none _)
      | (with_reducible refine LeO.ite ?_ ?_)
      | (with_reducible refine LeO.bind ?_ (fun _ => ?_))
      | exact ih0 _ _ _
      | exact LeO.none _
      | refine LeO.ite ?_ ?_
      | refine LeO.bind ?_ (fun _ => ?_)
set_option maxHeartbeats 8000000 in
set_option maxRecDepth 100000 in
theorem weighhouselaw17_SameLog.calls (k : Nat) (A0 : Option Addr) (c0 : Nat) (l0 : List (S74)) (A1 : Option Addr) (c1 : Nat) (l1 : List (S74)) (r : Bool) (w : World) (hr0 : Kd.C k74 w A0 l0.length l0) (hc0 : l0.length ≤ c0) (hr1 : Kd.C k74 w A1 l1.length l1) (hc1 : l1.length ≤ c1) (h : weighhouselaw17_SameLog.f k l0 l1 = some r) :
    Calls Try.prog 38 #[.slice A0 l0.length c0, .slice A1 l1.length c1] w fun e w' => e = .returned (.bool r) ∧ Drawn0 w w' := by
  have hu74 := Try.underlying74
  have HR0 := Aside0.mk hr0
  have HC0 := Aside0.mk hc0
  clear hr0 hc0
  have HR1 := Aside0.mk hr1
  have HC1 := Aside0.mk hc1
  clear hr1 hc1
  have H : (if (l0.length : Int) = (l1.length : Int) then (weighhouselaw17_SameLog.l0 k l0 l1 0) else (some false)) = some r := h
  clear h
  by_cases c3 : (l0.length : Int) = (l1.length : Int)
  · rw [if_pos c3] at H
    have c3b0 : ((l0.length : Int) == (l1.length : Int)) = true := beq_iff_eq.mpr c3
    have c3b1 : ((l0.length : Int) != (l1.length : Int)) = false := bne_eq_false_iff_eq.mpr c3
    have c3b2 : (l0.length == l1.length) = true := by first | simpa using c3 | (simp at c3 ⊢; omega)
    clear c3
    have H' := Aside0.mk H
    clear H
    go_enter Try.func38, Try.ntmps38
    go_wp2
    repeat (go_quiet (fail); try go_wp2)
    go_loopg [5] k (fun kq v5 w' => ∃ (x5_1 : Int), v5 = .int .i64 x5_1 ∧ Aside0 (weighhouselaw17_SameLog.l0 kq l0 l1 x5_1 = some r) ∧ Aside0 (kq ≤ k) ∧ Drawn0 w w')
    case atStart => exact ⟨(0), (by first | rfl | (simp; done) | (simp [*]; done)), H', ⟨Nat.le_refl _⟩, by repeat (first | exact Drawn0.refl _ | apply Drawn0.step)⟩
    case round =>
      clear H'
      try clear c1
      try clear p2
      try clear c3
      try clear c3b0
      try clear c3b1
      try clear c3b2
      obtain ⟨x5_1, rfl, HA, HK1, ⟨m1, rfl⟩⟩ := hrel
      cases gk with
      | zero => exact absurd HA.out (by simp [weighhouselaw17_SameLog.l0])
      | succ k1 =>
        have H := HA.out
        clear HA
        simp only [weighhouselaw17_SameLog.l0] at H
        by_cases c4 : x5_1 < (l0.length : Int)
        · rw [if_pos c4] at H
          have c4b0 : decide (x5_1 < (l0.length : Int)) = true := decide_eq_true c4
          clear c4
          by_cases c5 : 0 ≤ x5_1
          · rw [if_pos c5] at H
            have c5b0 : decide (0 ≤ x5_1) = true := decide_eq_true c5
            clear c5
            by_cases c6 : x5_1 < (l1.length : Int)
            · rw [if_pos c6] at H
              have c6b0 : decide (x5_1 < (l1.length : Int)) = true := decide_eq_true c6
              clear c6
              by_cases c7 : (!(((rd_T74 l0 x5_1).f0) == ((rd_T74 l1 x5_1).f0)) || (!((((rd_T74 l0 x5_1).f1).toList) == (((rd_T74 l1 x5_1).f1).toList)))) = true
              · rw [if_pos c7] at H
                have c7b0 : (!(((rd_T74 l0 x5_1).f0) == ((rd_T74 l1 x5_1).f0)) || (!((((rd_T74 l0 x5_1).f1).toList) == (((rd_T74 l1 x5_1).f1).toList)))) = true := c7
                clear c7
                obtain rfl := Option.some.inj H
                have p166 : 0 ≤ (x5_1 : Int) := of_decide_eq_true (by first | (with_reducible assumption) | assumption)
                have q166 : x5_1 < (l0.length : Int) := of_decide_eq_true (by first | (with_reducible assumption) | assumption)
                obtain ⟨ad166, e166, hx166_0, hx166_1⟩ := at_T74 HR0.out x5_1 p166 q166
                cases e166
                replace p166 := eq_true p166
                replace q166 := eq_true q166
                have p167 : 0 ≤ (x5_1 : Int) := of_decide_eq_true (by first | (with_reducible assumption) | assumption)
                have q167 : x5_1 < (l1.length : Int) := of_decide_eq_true (by first | (with_reducible assumption) | assumption)
                obtain ⟨ad167, e167, hx167_0, hx167_1⟩ := at_T74 HR1.out x5_1 p167 q167
                cases e167
                replace p167 := eq_true p167
                replace q167 := eq_true q167
                go_wp2
                repeat (go_quiet (fail); try go_wp2)
                go_ret
                exact ⟨by first | rfl | (simp; done) | (simp [*]; done), by repeat (first | exact Drawn0.refl _ | apply Drawn0.step)⟩
              · rw [if_neg c7] at H
                have c7b0 : (!(((rd_T74 l0 x5_1).f0) == ((rd_T74 l1 x5_1).f0)) || (!((((rd_T74 l0 x5_1).f1).toList) == (((rd_T74 l1 x5_1).f1).toList)))) = false := by simpa using c7
                clear c7
                have H' := Aside0.mk H
                clear H
                have p166 : 0 ≤ (x5_1 : Int) := of_decide_eq_true (by first | (with_reducible assumption) | assumption)
                have q166 : x5_1 < (l0.length : Int) := of_decide_eq_true (by first | (with_reducible assumption) | assumption)
                obtain ⟨ad166, e166, hx166_0, hx166_1⟩ := at_T74 HR0.out x5_1 p166 q166
                cases e166
                replace p166 := eq_true p166
                replace q166 := eq_true q166
                have p167 : 0 ≤ (x5_1 : Int) := of_decide_eq_true (by first | (with_reducible assumption) | assumption)
                have q167 : x5_1 < (l1.length : Int) := of_decide_eq_true (by first | (with_reducible assumption) | assumption)
                obtain ⟨ad167, e167, hx167_0, hx167_1⟩ := at_T74 HR1.out x5_1 p167 q167
                cases e167
                replace p167 := eq_true p167
                replace q167 := eq_true q167
                go_wp2
                repeat (go_quiet (fail); try go_wp2)
                go_roundg k1
                case measure => have := HK1.out; omega
                case rel => exact ⟨(wrap64 (x5_1 + 1)), (by first | rfl | (simp; done) | (simp [*]; done)), H', ⟨by have := HK1.out; omega⟩, by repeat (first | exact Drawn0.refl _ | apply Drawn0.step)⟩
            · rw [if_neg c6] at H
              exact absurd H (by simp)
          · rw [if_neg c5] at H
            exact absurd H (by simp)
        · rw [if_neg c4] at H
          have c4b0 : decide (x5_1 < (l0.length : Int)) = false := decide_eq_false c4
          clear c4
          obtain rfl := Option.some.inj H
          go_wp2
          repeat (go_quiet (fail); try go_wp2)
          go_ret
          exact ⟨by first | rfl | (simp; done) | (simp [*]; done), by repeat (first | exact Drawn0.refl _ | apply Drawn0.step)⟩
  · rw [if_neg c3] at H
    have c3b0 : ((l0.length : Int) == (l1.length : Int)) = false := beq_eq_false_iff_ne.mpr c3
    have c3b1 : ((l0.length : Int) != (l1.length : Int)) = true := bne_iff_ne.mpr c3
    have c3b2 : (l0.length == l1.length) = false := by first | simpa using c3 | (simp at c3 ⊢; omega)
    obtain rfl := Option.some.inj H
    go_enter Try.func38, Try.ntmps38
    go_wp2
    repeat (go_quiet (fail); try go_wp2)
    go_ret
    exact ⟨by first | rfl | (simp; done) | (simp [*]; done), by repeat (first | exact Drawn0.refl _ | apply Drawn0.step)⟩

end Go.Proofs.Ytlmlkcobkmhmbaa.Q
end

section
-- written by hprint.py (a program of these sessions) out of the translation; Lean checks it
namespace Go.Proofs.Ytlmlkcobkmhmbaa.Q
open Go.RowKit Go.Proofs.YtlmlkcobkmhmbaaW.Hb Go.Proofs.YtlmlkcobkmhmbaaW.PrintWords Go.Proofs.YtlmlkcobkmhmbaaW.PrintLast Go.Proofs.YtlmlkcobkmhmbaaW.PrintMore
attribute [local go_sem] max2_int min2_int max_two min_two max_three min_three max_four min_four   -- for this text's walks alone
set_option linter.unusedVariables false
set_option linter.unusedSimpArgs false

/-! ### weighhouselaw17_Same: function 14 -/
def weighhouselaw17_Same.f (k : Nat) (a0_0 : Int) (a0_1 : Int) (a0_2 : Int) (a0_3 : Int) (a0_4 : Int) (a0_5 : Int) (a0_6 : Int) (l0_7 : List (S74)) (a1_0 : Int) (a1_1 : Int) (a1_2 : Int) (a1_3 : Int) (a1_4 : Int) (a1_5 : Int) (a1_6 : Int) (l1_7 : List (S74)) : Option (Bool) := if a0_0 = a1_0 then (if a0_1 = a1_1 then (if a0_2 = a1_2 then (if a0_3 = a1_3 then (if a0_4 = a1_4 then (if a0_5 = a1_5 then (if a0_6 = a1_6 then ((weighhouselaw17_SameLog.f k l0_7 l1_7).bind fun t170 => (some t170)) else (some false)) else (some false)) else (some false)) else (some false)) else (some false)) else (some false)) else (some false)
theorem weighhouselaw17_Same.mono : ∀ a0 a1 a2 a3 a4 a5 a6 a7 a8 a9 a10 a11 a12 a13 a14 a15 k, LeO (weighhouselaw17_Same.f k a0 a1 a2 a3 a4 a5 a6 a7 a8 a9 a10 a11 a12 a13 a14 a15) (weighhouselaw17_Same.f (k + 1) a0 a1 a2 a3 a4 a5 a6 a7 a8 a9 a10 a11 a12 a13 a14 a15) := by
  intro a0 a1 a2 a3 a4 a5 a6 a7 a8 a9 a10 a11 a12 a13 a14 a15 k
  unfold weighhouselaw17_Same.f
  repeat' first
      | (with_reducible exact weighhouselaw17_SameLog.mono _ _ _)
      | (with_reducible exact LeO.refl _)
      | (with_reducible exact LeO.none _)
      | (with_reducible refine LeO.ite ?_ ?_)
      | (with_reducible refine LeO.bind ?_ (fun _ => ?_))
      | exact weighhouselaw17_SameLog.mono _ _ _
      | exact LeO.none _
      | refine LeO.ite ?_ ?_
      | refine LeO.bind ?_ (fun _ => ?_)
set_option maxHeartbeats 8000000 in
set_option maxRecDepth 100000 in
theorem weighhouselaw17_Same.calls (k : Nat) (a0_0 : Int) (a0_1 : Int) (a0_2 : Int) (a0_3 : Int) (a0_4 : Int) (a0_5 : Int) (a0_6 : Int) (A0_7 : Option Addr) (c0_7 : Nat) (l0_7 : List (S74)) (a1_0 : Int) (a1_1 : Int) (a1_2 : Int) (a1_3 : Int) (a1_4 : Int) (a1_5 : Int) (a1_6 : Int) (A1_7 : Option Addr) (c1_7 : Nat) (l1_7 : List (S74)) (r : Bool) (w : World) (hr0_7 : Kd.C k74 w A0_7 l0_7.length l0_7) (hc0_7 : l0_7.length ≤ c0_7) (hr1_7 : Kd.C k74 w A1_7 l1_7.length l1_7) (hc1_7 : l1_7.length ≤ c1_7) (h : weighhouselaw17_Same.f k a0_0 a0_1 a0_2 a0_3 a0_4 a0_5 a0_6 l0_7 a1_0 a1_1 a1_2 a1_3 a1_4 a1_5 a1_6 l1_7 = some r) :
    Calls Try.prog 14 #[.agg #[.int .i64 a0_0, .int .i64 a0_1, .int .i64 a0_2, .int .i64 a0_3, .int .i64 a0_4, .int .i64 a0_5, .int .i64 a0_6, .slice A0_7 l0_7.length c0_7], .agg #[.int .i64 a1_0, .int .i64 a1_1, .int .i64 a1_2, .int .i64 a1_3, .int .i64 a1_4, .int .i64 a1_5, .int .i64 a1_6, .slice A1_7 l1_7.length c1_7]] w fun e w' => e = .returned (.bool r) ∧ Below w.heap.size w w' := by
  have hu40 := Try.underlying40
  have HR0_7 := Aside0.mk hr0_7
  have HC0_7 := Aside0.mk hc0_7
  clear hr0_7 hc0_7
  have HR1_7 := Aside0.mk hr1_7
  have HC1_7 := Aside0.mk hc1_7
  clear hr1_7 hc1_7
  have HB := Aside0.mk (Below.refl w.heap.size w)
  have H : (if a0_0 = a1_0 then (if a0_1 = a1_1 then (if a0_2 = a1_2 then (if a0_3 = a1_3 then (if a0_4 = a1_4 then (if a0_5 = a1_5 then (if a0_6 = a1_6 then ((weighhouselaw17_SameLog.f k l0_7 l1_7).bind fun t170 => (some t170)) else (some false)) else (some false)) else (some false)) else (some false)) else (some false)) else (some false)) else (some false)) = some r := h
  clear h
  by_cases c3 : a0_0 = a1_0
  · rw [if_pos c3] at H
    have c3b0 : (a0_0 == a1_0) = true := beq_iff_eq.mpr c3
    have c3b1 : (a0_0 != a1_0) = false := bne_eq_false_iff_eq.mpr c3
    clear c3
    by_cases c4 : a0_1 = a1_1
    · rw [if_pos c4] at H
      have c4b0 : (a0_1 == a1_1) = true := beq_iff_eq.mpr c4
      have c4b1 : (a0_1 != a1_1) = false := bne_eq_false_iff_eq.mpr c4
      clear c4
      by_cases c5 : a0_2 = a1_2
      · rw [if_pos c5] at H
        have c5b0 : (a0_2 == a1_2) = true := beq_iff_eq.mpr c5
        have c5b1 : (a0_2 != a1_2) = false := bne_eq_false_iff_eq.mpr c5
        clear c5
        by_cases c6 : a0_3 = a1_3
        · rw [if_pos c6] at H
          have c6b0 : (a0_3 == a1_3) = true := beq_iff_eq.mpr c6
          have c6b1 : (a0_3 != a1_3) = false := bne_eq_false_iff_eq.mpr c6
          clear c6
          by_cases c7 : a0_4 = a1_4
          · rw [if_pos c7] at H
            have c7b0 : (a0_4 == a1_4) = true := beq_iff_eq.mpr c7
            have c7b1 : (a0_4 != a1_4) = false := bne_eq_false_iff_eq.mpr c7
            clear c7
            by_cases c8 : a0_5 = a1_5
            · rw [if_pos c8] at H
              have c8b0 : (a0_5 == a1_5) = true := beq_iff_eq.mpr c8
              have c8b1 : (a0_5 != a1_5) = false := bne_eq_false_iff_eq.mpr c8
              clear c8
              by_cases c9 : a0_6 = a1_6
              · rw [if_pos c9] at H
                have c9b0 : (a0_6 == a1_6) = true := beq_iff_eq.mpr c9
                have c9b1 : (a0_6 != a1_6) = false := bne_eq_false_iff_eq.mpr c9
                clear c9
                replace H := Option.bind_eq_some_iff.mp H
                obtain ⟨t170, A100, H⟩ := H
                replace H : (some t170) = some r := H
                have A10 := Aside0.mk A100
                clear A100
                obtain rfl := Option.some.inj H
                go_enter Try.func14, Try.ntmps14
                go_wp2_with (first | ((with_reducible refine gate_dst (N := 2) rfl ?_); refine box_event ?hg (N := 2) ?hd (cs := #[.int .i64 a0_0, .int .i64 a0_1, .int .i64 a0_2, .int .i64 a0_3, .int .i64 a0_4, .int .i64 a0_5, .int .i64 a0_6, .slice A0_7 l0_7.length c0_7]) (t := 40) ?hr ?_; (case hd => rfl); (case hg => rfl); (case hr => first | (go_simp; done) | (go_simp; rfl)); intro gb168 hg w11 hbox hb; have n0_ := Aside0.mk (below_step (by repeat (first | (with_reducible first | exact HB.out | apply below_alloc | apply pw_below_drewN | apply below_drew1) | exact HB.out)) hb); have n1_ := Aside0.mk (hbox); have n2_ := Aside0.mk ((by rw [hg]; exact (below_size (by repeat (first | (with_reducible first | exact HB.out | apply below_alloc | apply pw_below_drewN | apply below_drew1) | exact HB.out))) : w.heap.size ≤ gb168)); have n3_ := Aside0.mk ((by rw [hg]; exact (below_size (by repeat (first | (with_reducible first | exact HB.out | apply below_alloc | apply pw_below_drewN | apply below_drew1) | exact HB.out))) : w.heap.size ≤ gb168)); clear HB; have HB := n0_; have BK168 := n1_; have GW168 := n2_; have GE168 := n3_; clear n0_ n1_ n2_ n3_; clear hb hbox hg) | ((with_reducible refine gate_dst (N := 3) rfl ?_); refine box_event ?hg (N := 3) ?hd (cs := #[.int .i64 a1_0, .int .i64 a1_1, .int .i64 a1_2, .int .i64 a1_3, .int .i64 a1_4, .int .i64 a1_5, .int .i64 a1_6, .slice A1_7 l1_7.length c1_7]) (t := 40) ?hr ?_; (case hd => rfl); (case hg => rfl); (case hr => first | (go_simp; done) | (go_simp; rfl)); intro gb169 hg w12 hbox hb; have n0_ := Aside0.mk (blk_below (g := gb168) (o := .cells #[.int .i64 a0_0, .int .i64 a0_1, .int .i64 a0_2, .int .i64 a0_3, .int .i64 a0_4, .int .i64 a0_5, .int .i64 a0_6, .slice A0_7 l0_7.length c0_7] 40 (0, 0)) (by (with_reducible repeat (first | refine blk_drewN ?_ _ | refine blk_drew ?_ | refine blk_alloc ?_ _)); exact BK168.out) hb); have n1_ := Aside0.mk (below_step (by repeat (first | (with_reducible first | exact HB.out | apply below_alloc | apply pw_below_drewN | apply below_drew1 | refine below_set ?_ GE168.out) | exact HB.out)) hb); have n2_ := Aside0.mk (hbox); have n3_ := Aside0.mk ((by rw [hg]; exact (below_size (by repeat (first | (with_reducible first | exact HB.out | apply below_alloc | apply pw_below_drewN | apply below_drew1 | refine below_set ?_ GE168.out) | exact HB.out))) : w.heap.size ≤ gb169)); have n4_ := Aside0.mk ((by rw [hg]; exact (below_size (by repeat (first | (with_reducible first | exact HB.out | apply below_alloc | apply pw_below_drewN | apply below_drew1 | refine below_set ?_ GE168.out) | exact HB.out))) : w.heap.size ≤ gb169)); have n5_ := Aside0.mk ((by rw [hg]; exact Nat.ne_of_lt (blk_lt (g := gb168) (o := .cells #[.int .i64 a0_0, .int .i64 a0_1, .int .i64 a0_2, .int .i64 a0_3, .int .i64 a0_4, .int .i64 a0_5, .int .i64 a0_6, .slice A0_7 l0_7.length c0_7] 40 (0, 0)) (by (with_reducible repeat (first | refine blk_drewN ?_ _ | refine blk_drew ?_ | refine blk_alloc ?_ _)); exact BK168.out)) : gb168 ≠ gb169)); have n6_ := Aside0.mk ((by rw [hg]; exact Nat.ne_of_gt (blk_lt (g := gb168) (o := .cells #[.int .i64 a0_0, .int .i64 a0_1, .int .i64 a0_2, .int .i64 a0_3, .int .i64 a0_4, .int .i64 a0_5, .int .i64 a0_6, .slice A0_7 l0_7.length c0_7] 40 (0, 0)) (by (with_reducible repeat (first | refine blk_drewN ?_ _ | refine blk_drew ?_ | refine blk_alloc ?_ _)); exact BK168.out)) : gb169 ≠ gb168)); clear BK168; clear HB; have BK168 := n0_; have HB := n1_; have BK169 := n2_; have GW169 := n3_; have GE169 := n4_; have NB168_169 := n5_; have NB169_168 := n6_; clear n0_ n1_ n2_ n3_ n4_ n5_ n6_; clear hb hbox hg; have hnb13 := NB168_169.out; have hnc13 := NB169_168.out; have hcz14_0 : w12.cell? ⟨gb168, 0, none⟩ = some (.int .i64 a0_0) := (blk_cell BK168.out 0).trans rfl; have hcz14_1 : w12.cell? ⟨gb168, 1, none⟩ = some (.int .i64 a0_1) := (blk_cell BK168.out 1).trans rfl; have hcz14_2 : w12.cell? ⟨gb168, 2, none⟩ = some (.int .i64 a0_2) := (blk_cell BK168.out 2).trans rfl; have hcz14_3 : w12.cell? ⟨gb168, 3, none⟩ = some (.int .i64 a0_3) := (blk_cell BK168.out 3).trans rfl; have hcz14_4 : w12.cell? ⟨gb168, 4, none⟩ = some (.int .i64 a0_4) := (blk_cell BK168.out 4).trans rfl; have hcz14_5 : w12.cell? ⟨gb168, 5, none⟩ = some (.int .i64 a0_5) := (blk_cell BK168.out 5).trans rfl; have hcz14_6 : w12.cell? ⟨gb168, 6, none⟩ = some (.int .i64 a0_6) := (blk_cell BK168.out 6).trans rfl; have hcz14_7 : w12.cell? ⟨gb168, 7, none⟩ = some (.slice A0_7 l0_7.length c0_7) := (blk_cell BK168.out 7).trans rfl; have hfz14_0 := blk_frozen BK168.out 0; have hfz14_1 := blk_frozen BK168.out 1; have hfz14_2 := blk_frozen BK168.out 2; have hfz14_3 := blk_frozen BK168.out 3; have hfz14_4 := blk_frozen BK168.out 4; have hfz14_5 := blk_frozen BK168.out 5; have hfz14_6 := blk_frozen BK168.out 6; have hfz14_7 := blk_frozen BK168.out 7; have hcz15_0 : w12.cell? ⟨gb169, 0, none⟩ = some (.int .i64 a1_0) := (blk_cell BK169.out 0).trans rfl; have hcz15_1 : w12.cell? ⟨gb169, 1, none⟩ = some (.int .i64 a1_1) := (blk_cell BK169.out 1).trans rfl; have hcz15_2 : w12.cell? ⟨gb169, 2, none⟩ = some (.int .i64 a1_2) := (blk_cell BK169.out 2).trans rfl; have hcz15_3 : w12.cell? ⟨gb169, 3, none⟩ = some (.int .i64 a1_3) := (blk_cell BK169.out 3).trans rfl; have hcz15_4 : w12.cell? ⟨gb169, 4, none⟩ = some (.int .i64 a1_4) := (blk_cell BK169.out 4).trans rfl; have hcz15_5 : w12.cell? ⟨gb169, 5, none⟩ = some (.int .i64 a1_5) := (blk_cell BK169.out 5).trans rfl; have hcz15_6 : w12.cell? ⟨gb169, 6, none⟩ = some (.int .i64 a1_6) := (blk_cell BK169.out 6).trans rfl; have hcz15_7 : w12.cell? ⟨gb169, 7, none⟩ = some (.slice A1_7 l1_7.length c1_7) := (blk_cell BK169.out 7).trans rfl; have hfz15_0 := blk_frozen BK169.out 0; have hfz15_1 := blk_frozen BK169.out 1; have hfz15_2 := blk_frozen BK169.out 2; have hfz15_3 := blk_frozen BK169.out 3; have hfz15_4 := blk_frozen BK169.out 4; have hfz15_5 := blk_frozen BK169.out 5; have hfz15_6 := blk_frozen BK169.out 6; have hfz15_7 := blk_frozen BK169.out 7) | (go_at_call 38; (with_reducible refine (weighhouselaw17_SameLog.calls k _ _ l0_7 _ _ l1_7 t170 _ ?side1 ?side2 ?side3 ?side4 A10.out).mono ?_); (case side1 => repeat (first | exact (Kd.C_below HR0_7.out HB.out) | (with_reducible refine Kd.C_alloc ?_ _) | (with_reducible refine Kd.C_drewN ?_ _) | (with_reducible refine Kd.C_drew ?_))); (case side2 => exact HC0_7.out); (case side3 => repeat (first | exact (Kd.C_below HR1_7.out HB.out) | (with_reducible refine Kd.C_alloc ?_ _) | (with_reducible refine Kd.C_drewN ?_ _) | (with_reducible refine Kd.C_drew ?_))); (case side4 => exact HC1_7.out); rintro e w' ⟨rfl, ⟨nd, rfl⟩⟩))
                go_ret
                exact ⟨by first | rfl | (simp [errW_none, errW_some] <;> rfl) | (simp [*, errW_none, errW_some] <;> rfl), by repeat (first | (with_reducible first | exact HB.out | apply below_alloc | apply pw_below_drewN | apply below_drew1 | refine below_set ?_ GE168.out | refine below_set ?_ GE169.out) | exact HB.out)⟩
              · rw [if_neg c9] at H
                have c9b0 : (a0_6 == a1_6) = false := beq_eq_false_iff_ne.mpr c9
                have c9b1 : (a0_6 != a1_6) = true := bne_iff_ne.mpr c9
                obtain rfl := Option.some.inj H
                go_enter Try.func14, Try.ntmps14
                go_wp2_with (first | ((with_reducible refine gate_dst (N := 2) rfl ?_); refine box_event ?hg (N := 2) ?hd (cs := #[.int .i64 a0_0, .int .i64 a0_1, .int .i64 a0_2, .int .i64 a0_3, .int .i64 a0_4, .int .i64 a0_5, .int .i64 a0_6, .slice A0_7 l0_7.length c0_7]) (t := 40) ?hr ?_; (case hd => rfl); (case hg => rfl); (case hr => first | (go_simp; done) | (go_simp; rfl)); intro gb168 hg w16 hbox hb; have n0_ := Aside0.mk (below_step (by repeat (first | (with_reducible first | exact HB.out | apply below_alloc | apply pw_below_drewN | apply below_drew1) | exact HB.out)) hb); have n1_ := Aside0.mk (hbox); have n2_ := Aside0.mk ((by rw [hg]; exact (below_size (by repeat (first | (with_reducible first | exact HB.out | apply below_alloc | apply pw_below_drewN | apply below_drew1) | exact HB.out))) : w.heap.size ≤ gb168)); have n3_ := Aside0.mk ((by rw [hg]; exact (below_size (by repeat (first | (with_reducible first | exact HB.out | apply below_alloc | apply pw_below_drewN | apply below_drew1) | exact HB.out))) : w.heap.size ≤ gb168)); clear HB; have HB := n0_; have BK168 := n1_; have GW168 := n2_; have GE168 := n3_; clear n0_ n1_ n2_ n3_; clear hb hbox hg) | ((with_reducible refine gate_dst (N := 3) rfl ?_); refine box_event ?hg (N := 3) ?hd (cs := #[.int .i64 a1_0, .int .i64 a1_1, .int .i64 a1_2, .int .i64 a1_3, .int .i64 a1_4, .int .i64 a1_5, .int .i64 a1_6, .slice A1_7 l1_7.length c1_7]) (t := 40) ?hr ?_; (case hd => rfl); (case hg => rfl); (case hr => first | (go_simp; done) | (go_simp; rfl)); intro gb169 hg w17 hbox hb; have n0_ := Aside0.mk (blk_below (g := gb168) (o := .cells #[.int .i64 a0_0, .int .i64 a0_1, .int .i64 a0_2, .int .i64 a0_3, .int .i64 a0_4, .int .i64 a0_5, .int .i64 a0_6, .slice A0_7 l0_7.length c0_7] 40 (0, 0)) (by (with_reducible repeat (first | refine blk_drewN ?_ _ | refine blk_drew ?_ | refine blk_alloc ?_ _)); exact BK168.out) hb); have n1_ := Aside0.mk (below_step (by repeat (first | (with_reducible first | exact HB.out | apply below_alloc | apply pw_below_drewN | apply below_drew1 | refine below_set ?_ GE168.out) | exact HB.out)) hb); have n2_ := Aside0.mk (hbox); have n3_ := Aside0.mk ((by rw [hg]; exact (below_size (by repeat (first | (with_reducible first | exact HB.out | apply below_alloc | apply pw_below_drewN | apply below_drew1 | refine below_set ?_ GE168.out) | exact HB.out))) : w.heap.size ≤ gb169)); have n4_ := Aside0.mk ((by rw [hg]; exact (below_size (by repeat (first | (with_reducible first | exact HB.out | apply below_alloc | apply pw_below_drewN | apply below_drew1 | refine below_set ?_ GE168.out) | exact HB.out))) : w.heap.size ≤ gb169)); have n5_ := Aside0.mk ((by rw [hg]; exact Nat.ne_of_lt (blk_lt (g := gb168) (o := .cells #[.int .i64 a0_0, .int .i64 a0_1, .int .i64 a0_2, .int .i64 a0_3, .int .i64 a0_4, .int .i64 a0_5, .int .i64 a0_6, .slice A0_7 l0_7.length c0_7] 40 (0, 0)) (by (with_reducible repeat (first | refine blk_drewN ?_ _ | refine blk_drew ?_ | refine blk_alloc ?_ _)); exact BK168.out)) : gb168 ≠ gb169)); have n6_ := Aside0.mk ((by rw [hg]; exact Nat.ne_of_gt (blk_lt (g := gb168) (o := .cells #[.int .i64 a0_0, .int .i64 a0_1, .int .i64 a0_2, .int .i64 a0_3, .int .i64 a0_4, .int .i64 a0_5, .int .i64 a0_6, .slice A0_7 l0_7.length c0_7] 40 (0, 0)) (by (with_reducible repeat (first | refine blk_drewN ?_ _ | refine blk_drew ?_ | refine blk_alloc ?_ _)); exact BK168.out)) : gb169 ≠ gb168)); clear BK168; clear HB; have BK168 := n0_; have HB := n1_; have BK169 := n2_; have GW169 := n3_; have GE169 := n4_; have NB168_169 := n5_; have NB169_168 := n6_; clear n0_ n1_ n2_ n3_ n4_ n5_ n6_; clear hb hbox hg; have hnb18 := NB168_169.out; have hnc18 := NB169_168.out; have hcz19_0 : w17.cell? ⟨gb168, 0, none⟩ = some (.int .i64 a0_0) := (blk_cell BK168.out 0).trans rfl; have hcz19_1 : w17.cell? ⟨gb168, 1, none⟩ = some (.int .i64 a0_1) := (blk_cell BK168.out 1).trans rfl; have hcz19_2 : w17.cell? ⟨gb168, 2, none⟩ = some (.int .i64 a0_2) := (blk_cell BK168.out 2).trans rfl; have hcz19_3 : w17.cell? ⟨gb168, 3, none⟩ = some (.int .i64 a0_3) := (blk_cell BK168.out 3).trans rfl; have hcz19_4 : w17.cell? ⟨gb168, 4, none⟩ = some (.int .i64 a0_4) := (blk_cell BK168.out 4).trans rfl; have hcz19_5 : w17.cell? ⟨gb168, 5, none⟩ = some (.int .i64 a0_5) := (blk_cell BK168.out 5).trans rfl; have hcz19_6 : w17.cell? ⟨gb168, 6, none⟩ = some (.int .i64 a0_6) := (blk_cell BK168.out 6).trans rfl; have hcz19_7 : w17.cell? ⟨gb168, 7, none⟩ = some (.slice A0_7 l0_7.length c0_7) := (blk_cell BK168.out 7).trans rfl; have hfz19_0 := blk_frozen BK168.out 0; have hfz19_1 := blk_frozen BK168.out 1; have hfz19_2 := blk_frozen BK168.out 2; have hfz19_3 := blk_frozen BK168.out 3; have hfz19_4 := blk_frozen BK168.out 4; have hfz19_5 := blk_frozen BK168.out 5; have hfz19_6 := blk_frozen BK168.out 6; have hfz19_7 := blk_frozen BK168.out 7; have hcz20_0 : w17.cell? ⟨gb169, 0, none⟩ = some (.int .i64 a1_0) := (blk_cell BK169.out 0).trans rfl; have hcz20_1 : w17.cell? ⟨gb169, 1, none⟩ = some (.int .i64 a1_1) := (blk_cell BK169.out 1).trans rfl; have hcz20_2 : w17.cell? ⟨gb169, 2, none⟩ = some (.int .i64 a1_2) := (blk_cell BK169.out 2).trans rfl; have hcz20_3 : w17.cell? ⟨gb169, 3, none⟩ = some (.int .i64 a1_3) := (blk_cell BK169.out 3).trans rfl; have hcz20_4 : w17.cell? ⟨gb169, 4, none⟩ = some (.int .i64 a1_4) := (blk_cell BK169.out 4).trans rfl; have hcz20_5 : w17.cell? ⟨gb169, 5, none⟩ = some (.int .i64 a1_5) := (blk_cell BK169.out 5).trans rfl; have hcz20_6 : w17.cell? ⟨gb169, 6, none⟩ = some (.int .i64 a1_6) := (blk_cell BK169.out 6).trans rfl; have hcz20_7 : w17.cell? ⟨gb169, 7, none⟩ = some (.slice A1_7 l1_7.length c1_7) := (blk_cell BK169.out 7).trans rfl; have hfz20_0 := blk_frozen BK169.out 0; have hfz20_1 := blk_frozen BK169.out 1; have hfz20_2 := blk_frozen BK169.out 2; have hfz20_3 := blk_frozen BK169.out 3; have hfz20_4 := blk_frozen BK169.out 4; have hfz20_5 := blk_frozen BK169.out 5; have hfz20_6 := blk_frozen BK169.out 6; have hfz20_7 := blk_frozen BK169.out 7))
                go_ret
                exact ⟨by first | rfl | (simp [errW_none, errW_some] <;> rfl) | (simp [*, errW_none, errW_some] <;> rfl), by repeat (first | (with_reducible first | exact HB.out | apply below_alloc | apply pw_below_drewN | apply below_drew1 | refine below_set ?_ GE168.out | refine below_set ?_ GE169.out) | exact HB.out)⟩
            · rw [if_neg c8] at H
              have c8b0 : (a0_5 == a1_5) = false := beq_eq_false_iff_ne.mpr c8
              have c8b1 : (a0_5 != a1_5) = true := bne_iff_ne.mpr c8
              obtain rfl := Option.some.inj H
              go_enter Try.func14, Try.ntmps14
              go_wp2_with (first | ((with_reducible refine gate_dst (N := 2) rfl ?_); refine box_event ?hg (N := 2) ?hd (cs := #[.int .i64 a0_0, .int .i64 a0_1, .int .i64 a0_2, .int .i64 a0_3, .int .i64 a0_4, .int .i64 a0_5, .int .i64 a0_6, .slice A0_7 l0_7.length c0_7]) (t := 40) ?hr ?_; (case hd => rfl); (case hg => rfl); (case hr => first | (go_simp; done) | (go_simp; rfl)); intro gb168 hg w21 hbox hb; have n0_ := Aside0.mk (below_step (by repeat (first | (with_reducible first | exact HB.out | apply below_alloc | apply pw_below_drewN | apply below_drew1) | exact HB.out)) hb); have n1_ := Aside0.mk (hbox); have n2_ := Aside0.mk ((by rw [hg]; exact (below_size (by repeat (first | (with_reducible first | exact HB.out | apply below_alloc | apply pw_below_drewN | apply below_drew1) | exact HB.out))) : w.heap.size ≤ gb168)); have n3_ := Aside0.mk ((by rw [hg]; exact (below_size (by repeat (first | (with_reducible first | exact HB.out | apply below_alloc | apply pw_below_drewN | apply below_drew1) | exact HB.out))) : w.heap.size ≤ gb168)); clear HB; have HB := n0_; have BK168 := n1_; have GW168 := n2_; have GE168 := n3_; clear n0_ n1_ n2_ n3_; clear hb hbox hg) | ((with_reducible refine gate_dst (N := 3) rfl ?_); refine box_event ?hg (N := 3) ?hd (cs := #[.int .i64 a1_0, .int .i64 a1_1, .int .i64 a1_2, .int .i64 a1_3, .int .i64 a1_4, .int .i64 a1_5, .int .i64 a1_6, .slice A1_7 l1_7.length c1_7]) (t := 40) ?hr ?_; (case hd => rfl); (case hg => rfl); (case hr => first | (go_simp; done) | (go_simp; rfl)); intro gb169 hg w22 hbox hb; have n0_ := Aside0.mk (blk_below (g := gb168) (o := .cells #[.int .i64 a0_0, .int .i64 a0_1, .int .i64 a0_2, .int .i64 a0_3, .int .i64 a0_4, .int .i64 a0_5, .int .i64 a0_6, .slice A0_7 l0_7.length c0_7] 40 (0, 0)) (by (with_reducible repeat (first | refine blk_drewN ?_ _ | refine blk_drew ?_ | refine blk_alloc ?_ _)); exact BK168.out) hb); have n1_ := Aside0.mk (below_step (by repeat (first | (with_reducible first | exact HB.out | apply below_alloc | apply pw_below_drewN | apply below_drew1 | refine below_set ?_ GE168.out) | exact HB.out)) hb); have n2_ := Aside0.mk (hbox); have n3_ := Aside0.mk ((by rw [hg]; exact (below_size (by repeat (first | (with_reducible first | exact HB.out | apply below_alloc | apply pw_below_drewN | apply below_drew1 | refine below_set ?_ GE168.out) | exact HB.out))) : w.heap.size ≤ gb169)); have n4_ := Aside0.mk ((by rw [hg]; exact (below_size (by repeat (first | (with_reducible first | exact HB.out | apply below_alloc | apply pw_below_drewN | apply below_drew1 | refine below_set ?_ GE168.out) | exact HB.out))) : w.heap.size ≤ gb169)); have n5_ := Aside0.mk ((by rw [hg]; exact Nat.ne_of_lt (blk_lt (g := gb168) (o := .cells #[.int .i64 a0_0, .int .i64 a0_1, .int .i64 a0_2, .int .i64 a0_3, .int .i64 a0_4, .int .i64 a0_5, .int .i64 a0_6, .slice A0_7 l0_7.length c0_7] 40 (0, 0)) (by (with_reducible repeat (first | refine blk_drewN ?_ _ | refine blk_drew ?_ | refine blk_alloc ?_ _)); exact BK168.out)) : gb168 ≠ gb169)); have n6_ := Aside0.mk ((by rw [hg]; exact Nat.ne_of_gt (blk_lt (g := gb168) (o := .cells #[.int .i64 a0_0, .int .i64 a0_1, .int .i64 a0_2, .int .i64 a0_3, .int .i64 a0_4, .int .i64 a0_5, .int .i64 a0_6, .slice A0_7 l0_7.length c0_7] 40 (0, 0)) (by (with_reducible repeat (first | refine blk_drewN ?_ _ | refine blk_drew ?_ | refine blk_alloc ?_ _)); exact BK168.out)) : gb169 ≠ gb168)); clear BK168; clear HB; have BK168 := n0_; have HB := n1_; have BK169 := n2_; have GW169 := n3_; have GE169 := n4_; have NB168_169 := n5_; have NB169_168 := n6_; clear n0_ n1_ n2_ n3_ n4_ n5_ n6_; clear hb hbox hg; have hnb23 := NB168_169.out; have hnc23 := NB169_168.out; have hcz24_0 : w22.cell? ⟨gb168, 0, none⟩ = some (.int .i64 a0_0) := (blk_cell BK168.out 0).trans rfl; have hcz24_1 : w22.cell? ⟨gb168, 1, none⟩ = some (.int .i64 a0_1) := (blk_cell BK168.out 1).trans rfl; have hcz24_2 : w22.cell? ⟨gb168, 2, none⟩ = some (.int .i64 a0_2) := (blk_cell BK168.out 2).trans rfl; have hcz24_3 : w22.cell? ⟨gb168, 3, none⟩ = some (.int .i64 a0_3) := (blk_cell BK168.out 3).trans rfl; have hcz24_4 : w22.cell? ⟨gb168, 4, none⟩ = some (.int .i64 a0_4) := (blk_cell BK168.out 4).trans rfl; have hcz24_5 : w22.cell? ⟨gb168, 5, none⟩ = some (.int .i64 a0_5) := (blk_cell BK168.out 5).trans rfl; have hcz24_6 : w22.cell? ⟨gb168, 6, none⟩ = some (.int .i64 a0_6) := (blk_cell BK168.out 6).trans rfl; have hcz24_7 : w22.cell? ⟨gb168, 7, none⟩ = some (.slice A0_7 l0_7.length c0_7) := (blk_cell BK168.out 7).trans rfl; have hfz24_0 := blk_frozen BK168.out 0; have hfz24_1 := blk_frozen BK168.out 1; have hfz24_2 := blk_frozen BK168.out 2; have hfz24_3 := blk_frozen BK168.out 3; have hfz24_4 := blk_frozen BK168.out 4; have hfz24_5 := blk_frozen BK168.out 5; have hfz24_6 := blk_frozen BK168.out 6; have hfz24_7 := blk_frozen BK168.out 7; have hcz25_0 : w22.cell? ⟨gb169, 0, none⟩ = some (.int .i64 a1_0) := (blk_cell BK169.out 0).trans rfl; have hcz25_1 : w22.cell? ⟨gb169, 1, none⟩ = some (.int .i64 a1_1) := (blk_cell BK169.out 1).trans rfl; have hcz25_2 : w22.cell? ⟨gb169, 2, none⟩ = some (.int .i64 a1_2) := (blk_cell BK169.out 2).trans rfl; have hcz25_3 : w22.cell? ⟨gb169, 3, none⟩ = some (.int .i64 a1_3) := (blk_cell BK169.out 3).trans rfl; have hcz25_4 : w22.cell? ⟨gb169, 4, none⟩ = some (.int .i64 a1_4) := (blk_cell BK169.out 4).trans rfl; have hcz25_5 : w22.cell? ⟨gb169, 5, none⟩ = some (.int .i64 a1_5) := (blk_cell BK169.out 5).trans rfl; have hcz25_6 : w22.cell? ⟨gb169, 6, none⟩ = some (.int .i64 a1_6) := (blk_cell BK169.out 6).trans rfl; have hcz25_7 : w22.cell? ⟨gb169, 7, none⟩ = some (.slice A1_7 l1_7.length c1_7) := (blk_cell BK169.out 7).trans rfl; have hfz25_0 := blk_frozen BK169.out 0; have hfz25_1 := blk_frozen BK169.out 1; have hfz25_2 := blk_frozen BK169.out 2; have hfz25_3 := blk_frozen BK169.out 3; have hfz25_4 := blk_frozen BK169.out 4; have hfz25_5 := blk_frozen BK169.out 5; have hfz25_6 := blk_frozen BK169.out 6; have hfz25_7 := blk_frozen BK169.out 7))
              go_ret
              exact ⟨by first | rfl | (simp [errW_none, errW_some] <;> rfl) | (simp [*, errW_none, errW_some] <;> rfl), by repeat (first | (with_reducible first | exact HB.out | apply below_alloc | apply pw_below_drewN | apply below_drew1 | refine below_set ?_ GE168.out | refine below_set ?_ GE169.out) | exact HB.out)⟩
          · rw [if_neg c7] at H
            have c7b0 : (a0_4 == a1_4) = false := beq_eq_false_iff_ne.mpr c7
            have c7b1 : (a0_4 != a1_4) = true := bne_iff_ne.mpr c7
            obtain rfl := Option.some.inj H
            go_enter Try.func14, Try.ntmps14
            go_wp2_with (first | ((with_reducible refine gate_dst (N := 2) rfl ?_); refine box_event ?hg (N := 2) ?hd (cs := #[.int .i64 a0_0, .int .i64 a0_1, .int .i64 a0_2, .int .i64 a0_3, .int .i64 a0_4, .int .i64 a0_5, .int .i64 a0_6, .slice A0_7 l0_7.length c0_7]) (t := 40) ?hr ?_; (case hd => rfl); (case hg => rfl); (case hr => first | (go_simp; done) | (go_simp; rfl)); intro gb168 hg w26 hbox hb; have n0_ := Aside0.mk (below_step (by repeat (first | (with_reducible first | exact HB.out | apply below_alloc | apply pw_below_drewN | apply below_drew1) | exact HB.out)) hb); have n1_ := Aside0.mk (hbox); have n2_ := Aside0.mk ((by rw [hg]; exact (below_size (by repeat (first | (with_reducible first | exact HB.out | apply below_alloc | apply pw_below_drewN | apply below_drew1) | exact HB.out))) : w.heap.size ≤ gb168)); have n3_ := Aside0.mk ((by rw [hg]; exact (below_size (by repeat (first | (with_reducible first | exact HB.out | apply below_alloc | apply pw_below_drewN | apply below_drew1) | exact HB.out))) : w.heap.size ≤ gb168)); clear HB; have HB := n0_; have BK168 := n1_; have GW168 := n2_; have GE168 := n3_; clear n0_ n1_ n2_ n3_; clear hb hbox hg) | ((with_reducible refine gate_dst (N := 3) rfl ?_); refine box_event ?hg (N := 3) ?hd (cs := #[.int .i64 a1_0, .int .i64 a1_1, .int .i64 a1_2, .int .i64 a1_3, .int .i64 a1_4, .int .i64 a1_5, .int .i64 a1_6, .slice A1_7 l1_7.length c1_7]) (t := 40) ?hr ?_; (case hd => rfl); (case hg => rfl); (case hr => first | (go_simp; done) | (go_simp; rfl)); intro gb169 hg w27 hbox hb; have n0_ := Aside0.mk (blk_below (g := gb168) (o := .cells #[.int .i64 a0_0, .int .i64 a0_1, .int .i64 a0_2, .int .i64 a0_3, .int .i64 a0_4, .int .i64 a0_5, .int .i64 a0_6, .slice A0_7 l0_7.length c0_7] 40 (0, 0)) (by (with_reducible repeat (first | refine blk_drewN ?_ _ | refine blk_drew ?_ | refine blk_alloc ?_ _)); exact BK168.out) hb); have n1_ := Aside0.mk (below_step (by repeat (first | (with_reducible first | exact HB.out | apply below_alloc | apply pw_below_drewN | apply below_drew1 | refine below_set ?_ GE168.out) | exact HB.out)) hb); have n2_ := Aside0.mk (hbox); have n3_ := Aside0.mk ((by rw [hg]; exact (below_size (by repeat (first | (with_reducible first | exact HB.out | apply below_alloc | apply pw_below_drewN | apply below_drew1 | refine below_set ?_ GE168.out) | exact HB.out))) : w.heap.size ≤ gb169)); have n4_ := Aside0.mk ((by rw [hg]; exact (below_size (by repeat (first | (with_reducible first | exact HB.out | apply below_alloc | apply pw_below_drewN | apply below_drew1 | refine below_set ?_ GE168.out) | exact HB.out))) : w.heap.size ≤ gb169)); have n5_ := Aside0.mk ((by rw [hg]; exact Nat.ne_of_lt (blk_lt (g := gb168) (o := .cells #[.int .i64 a0_0, .int .i64 a0_1, .int .i64 a0_2, .int .i64 a0_3, .int .i64 a0_4, .int .i64 a0_5, .int .i64 a0_6, .slice A0_7 l0_7.length c0_7] 40 (0, 0)) (by (with_reducible repeat (first | refine blk_drewN ?_ _ | refine blk_drew ?_ | refine blk_alloc ?_ _)); exact BK168.out)) : gb168 ≠ gb169)); have n6_ := Aside0.mk ((by rw [hg]; exact Nat.ne_of_gt (blk_lt (g := gb168) (o := .cells #[.int .i64 a0_0, .int .i64 a0_1, .int .i64 a0_2, .int .i64 a0_3, .int .i64 a0_4, .int .i64 a0_5, .int .i64 a0_6, .slice A0_7 l0_7.length c0_7] 40 (0, 0)) (by (with_reducible repeat (first | refine blk_drewN ?_ _ | refine blk_drew ?_ | refine blk_alloc ?_ _)); exact BK168.out)) : gb169 ≠ gb168)); clear BK168; clear HB; have BK168 := n0_; have HB := n1_; have BK169 := n2_; have GW169 := n3_; have GE169 := n4_; have NB168_169 := n5_; have NB169_168 := n6_; clear n0_ n1_ n2_ n3_ n4_ n5_ n6_; clear hb hbox hg; have hnb28 := NB168_169.out; have hnc28 := NB169_168.out; have hcz29_0 : w27.cell? ⟨gb168, 0, none⟩ = some (.int .i64 a0_0) := (blk_cell BK168.out 0).trans rfl; have hcz29_1 : w27.cell? ⟨gb168, 1, none⟩ = some (.int .i64 a0_1) := (blk_cell BK168.out 1).trans rfl; have hcz29_2 : w27.cell? ⟨gb168, 2, none⟩ = some (.int .i64 a0_2) := (blk_cell BK168.out 2).trans rfl; have hcz29_3 : w27.cell? ⟨gb168, 3, none⟩ = some (.int .i64 a0_3) := (blk_cell BK168.out 3).trans rfl; have hcz29_4 : w27.cell? ⟨gb168, 4, none⟩ = some (.int .i64 a0_4) := (blk_cell BK168.out 4).trans rfl; have hcz29_5 : w27.cell? ⟨gb168, 5, none⟩ = some (.int .i64 a0_5) := (blk_cell BK168.out 5).trans rfl; have hcz29_6 : w27.cell? ⟨gb168, 6, none⟩ = some (.int .i64 a0_6) := (blk_cell BK168.out 6).trans rfl; have hcz29_7 : w27.cell? ⟨gb168, 7, none⟩ = some (.slice A0_7 l0_7.length c0_7) := (blk_cell BK168.out 7).trans rfl; have hfz29_0 := blk_frozen BK168.out 0; have hfz29_1 := blk_frozen BK168.out 1; have hfz29_2 := blk_frozen BK168.out 2; have hfz29_3 := blk_frozen BK168.out 3; have hfz29_4 := blk_frozen BK168.out 4; have hfz29_5 := blk_frozen BK168.out 5; have hfz29_6 := blk_frozen BK168.out 6; have hfz29_7 := blk_frozen BK168.out 7; have hcz30_0 : w27.cell? ⟨gb169, 0, none⟩ = some (.int .i64 a1_0) := (blk_cell BK169.out 0).trans rfl; have hcz30_1 : w27.cell? ⟨gb169, 1, none⟩ = some (.int .i64 a1_1) := (blk_cell BK169.out 1).trans rfl; have hcz30_2 : w27.cell? ⟨gb169, 2, none⟩ = some (.int .i64 a1_2) := (blk_cell BK169.out 2).trans rfl; have hcz30_3 : w27.cell? ⟨gb169, 3, none⟩ = some (.int .i64 a1_3) := (blk_cell BK169.out 3).trans rfl; have hcz30_4 : w27.cell? ⟨gb169, 4, none⟩ = some (.int .i64 a1_4) := (blk_cell BK169.out 4).trans rfl; have hcz30_5 : w27.cell? ⟨gb169, 5, none⟩ = some (.int .i64 a1_5) := (blk_cell BK169.out 5).trans rfl; have hcz30_6 : w27.cell? ⟨gb169, 6, none⟩ = some (.int .i64 a1_6) := (blk_cell BK169.out 6).trans rfl; have hcz30_7 : w27.cell? ⟨gb169, 7, none⟩ = some (.slice A1_7 l1_7.length c1_7) := (blk_cell BK169.out 7).trans rfl; have hfz30_0 := blk_frozen BK169.out 0; have hfz30_1 := blk_frozen BK169.out 1; have hfz30_2 := blk_frozen BK169.out 2; have hfz30_3 := blk_frozen BK169.out 3; have hfz30_4 := blk_frozen BK169.out 4; have hfz30_5 := blk_frozen BK169.out 5; have hfz30_6 := blk_frozen BK169.out 6; have hfz30_7 := blk_frozen BK169.out 7))
            go_ret
            exact ⟨by first | rfl | (simp [errW_none, errW_some] <;> rfl) | (simp [*, errW_none, errW_some] <;> rfl), by repeat (first | (with_reducible first | exact HB.out | apply below_alloc | apply pw_below_drewN | apply below_drew1 | refine below_set ?_ GE168.out | refine below_set ?_ GE169.out) | exact HB.out)⟩
        · rw [if_neg c6] at H
          have c6b0 : (a0_3 == a1_3) = false := beq_eq_false_iff_ne.mpr c6
          have c6b1 : (a0_3 != a1_3) = true := bne_iff_ne.mpr c6
          obtain rfl := Option.some.inj H
          go_enter Try.func14, Try.ntmps14
          go_wp2_with (first | ((with_reducible refine gate_dst (N := 2) rfl ?_); refine box_event ?hg (N := 2) ?hd (cs := #[.int .i64 a0_0, .int .i64 a0_1, .int .i64 a0_2, .int .i64 a0_3, .int .i64 a0_4, .int .i64 a0_5, .int .i64 a0_6, .slice A0_7 l0_7.length c0_7]) (t := 40) ?hr ?_; (case hd => rfl); (case hg => rfl); (case hr => first | (go_simp; done) | (go_simp; rfl)); intro gb168 hg w31 hbox hb; have n0_ := Aside0.mk (below_step (by repeat (first | (with_reducible first | exact HB.out | apply below_alloc | apply pw_below_drewN | apply below_drew1) | exact HB.out)) hb); have n1_ := Aside0.mk (hbox); have n2_ := Aside0.mk ((by rw [hg]; exact (below_size (by repeat (first | (with_reducible first | exact HB.out | apply below_alloc | apply pw_below_drewN | apply below_drew1) | exact HB.out))) : w.heap.size ≤ gb168)); have n3_ := Aside0.mk ((by rw [hg]; exact (below_size (by repeat (first | (with_reducible first | exact HB.out | apply below_alloc | apply pw_below_drewN | apply below_drew1) | exact HB.out))) : w.heap.size ≤ gb168)); clear HB; have HB := n0_; have BK168 := n1_; have GW168 := n2_; have GE168 := n3_; clear n0_ n1_ n2_ n3_; clear hb hbox hg) | ((with_reducible refine gate_dst (N := 3) rfl ?_); refine box_event ?hg (N := 3) ?hd (cs := #[.int .i64 a1_0, .int .i64 a1_1, .int .i64 a1_2, .int .i64 a1_3, .int .i64 a1_4, .int .i64 a1_5, .int .i64 a1_6, .slice A1_7 l1_7.length c1_7]) (t := 40) ?hr ?_; (case hd => rfl); (case hg => rfl); (case hr => first | (go_simp; done) | (go_simp; rfl)); intro gb169 hg w32 hbox hb; have n0_ := Aside0.mk (blk_below (g := gb168) (o := .cells #[.int .i64 a0_0, .int .i64 a0_1, .int .i64 a0_2, .int .i64 a0_3, .int .i64 a0_4, .int .i64 a0_5, .int .i64 a0_6, .slice A0_7 l0_7.length c0_7] 40 (0, 0)) (by (with_reducible repeat (first | refine blk_drewN ?_ _ | refine blk_drew ?_ | refine blk_alloc ?_ _)); exact BK168.out) hb); have n1_ := Aside0.mk (below_step (by repeat (first | (with_reducible first | exact HB.out | apply below_alloc | apply pw_below_drewN | apply below_drew1 | refine below_set ?_ GE168.out) | exact HB.out)) hb); have n2_ := Aside0.mk (hbox); have n3_ := Aside0.mk ((by rw [hg]; exact (below_size (by repeat (first | (with_reducible first | exact HB.out | apply below_alloc | apply pw_below_drewN | apply below_drew1 | refine below_set ?_ GE168.out) | exact HB.out))) : w.heap.size ≤ gb169)); have n4_ := Aside0.mk ((by rw [hg]; exact (below_size (by repeat (first | (with_reducible first | exact HB.out | apply below_alloc | apply pw_below_drewN | apply below_drew1 | refine below_set ?_ GE168.out) | exact HB.out))) : w.heap.size ≤ gb169)); have n5_ := Aside0.mk ((by rw [hg]; exact Nat.ne_of_lt (blk_lt (g := gb168) (o := .cells #[.int .i64 a0_0, .int .i64 a0_1, .int .i64 a0_2, .int .i64 a0_3, .int .i64 a0_4, .int .i64 a0_5, .int .i64 a0_6, .slice A0_7 l0_7.length c0_7] 40 (0, 0)) (by (with_reducible repeat (first | refine blk_drewN ?_ _ | refine blk_drew ?_ | refine blk_alloc ?_ _)); exact BK168.out)) : gb168 ≠ gb169)); have n6_ := Aside0.mk ((by rw [hg]; exact Nat.ne_of_gt (blk_lt (g := gb168) (o := .cells #[.int .i64 a0_0, .int .i64 a0_1, .int .i64 a0_2, .int .i64 a0_3, .int .i64 a0_4, .int .i64 a0_5, .int .i64 a0_6, .slice A0_7 l0_7.length c0_7] 40 (0, 0)) (by (with_reducible repeat (first | refine blk_drewN ?_ _ | refine blk_drew ?_ | refine blk_alloc ?_ _)); exact BK168.out)) : gb169 ≠ gb168)); clear BK168; clear HB; have BK168 := n0_; have HB := n1_; have BK169 := n2_; have GW169 := n3_; have GE169 := n4_; have NB168_169 := n5_; have NB169_168 := n6_; clear n0_ n1_ n2_ n3_ n4_ n5_ n6_; clear hb hbox hg; have hnb33 := NB168_169.out; have hnc33 := NB169_168.out; have hcz34_0 : w32.cell? ⟨gb168, 0, none⟩ = some (.int .i64 a0_0) := (blk_cell BK168.out 0).trans rfl; have hcz34_1 : w32.cell? ⟨gb168, 1, none⟩ = some (.int .i64 a0_1) := (blk_cell BK168.out 1).trans rfl; have hcz34_2 : w32.cell? ⟨gb168, 2, none⟩ = some (.int .i64 a0_2) := (blk_cell BK168.out 2).trans rfl; have hcz34_3 : w32.cell? ⟨gb168, 3, none⟩ = some (.int .i64 a0_3) := (blk_cell BK168.out 3).trans rfl; have hcz34_4 : w32.cell? ⟨gb168, 4, none⟩ = some (.int .i64 a0_4) := (blk_cell BK168.out 4).trans rfl; have hcz34_5 : w32.cell? ⟨gb168, 5, none⟩ = some (.int .i64 a0_5) := (blk_cell BK168.out 5).trans rfl; have hcz34_6 : w32.cell? ⟨gb168, 6, none⟩ = some (.int .i64 a0_6) := (blk_cell BK168.out 6).trans rfl; have hcz34_7 : w32.cell? ⟨gb168, 7, none⟩ = some (.slice A0_7 l0_7.length c0_7) := (blk_cell BK168.out 7).trans rfl; have hfz34_0 := blk_frozen BK168.out 0; have hfz34_1 := blk_frozen BK168.out 1; have hfz34_2 := blk_frozen BK168.out 2; have hfz34_3 := blk_frozen BK168.out 3; have hfz34_4 := blk_frozen BK168.out 4; have hfz34_5 := blk_frozen BK168.out 5; have hfz34_6 := blk_frozen BK168.out 6; have hfz34_7 := blk_frozen BK168.out 7; have hcz35_0 : w32.cell? ⟨gb169, 0, none⟩ = some (.int .i64 a1_0) := (blk_cell BK169.out 0).trans rfl; have hcz35_1 : w32.cell? ⟨gb169, 1, none⟩ = some (.int .i64 a1_1) := (blk_cell BK169.out 1).trans rfl; have hcz35_2 : w32.cell? ⟨gb169, 2, none⟩ = some (.int .i64 a1_2) := (blk_cell BK169.out 2).trans rfl; have hcz35_3 : w32.cell? ⟨gb169, 3, none⟩ = some (.int .i64 a1_3) := (blk_cell BK169.out 3).trans rfl; have hcz35_4 : w32.cell? ⟨gb169, 4, none⟩ = some (.int .i64 a1_4) := (blk_cell BK169.out 4).trans rfl; have hcz35_5 : w32.cell? ⟨gb169, 5, none⟩ = some (.int .i64 a1_5) := (blk_cell BK169.out 5).trans rfl; have hcz35_6 : w32.cell? ⟨gb169, 6, none⟩ = some (.int .i64 a1_6) := (blk_cell BK169.out 6).trans rfl; have hcz35_7 : w32.cell? ⟨gb169, 7, none⟩ = some (.slice A1_7 l1_7.length c1_7) := (blk_cell BK169.out 7).trans rfl; have hfz35_0 := blk_frozen BK169.out 0; have hfz35_1 := blk_frozen BK169.out 1; have hfz35_2 := blk_frozen BK169.out 2; have hfz35_3 := blk_frozen BK169.out 3; have hfz35_4 := blk_frozen BK169.out 4; have hfz35_5 := blk_frozen BK169.out 5; have hfz35_6 := blk_frozen BK169.out 6; have hfz35_7 := blk_frozen BK169.out 7))
          go_ret
          exact ⟨by first | rfl | (simp [errW_none, errW_some] <;> rfl) | (simp [*, errW_none, errW_some] <;> rfl), by repeat (first | (with_reducible first | exact HB.out | apply below_alloc | apply pw_below_drewN | apply below_drew1 | refine below_set ?_ GE168.out | refine below_set ?_ GE169.out) | exact HB.out)⟩
      · rw [if_neg c5] at H
        have c5b0 : (a0_2 == a1_2) = false := beq_eq_false_iff_ne.mpr c5
        have c5b1 : (a0_2 != a1_2) = true := bne_iff_ne.mpr c5
        obtain rfl := Option.some.inj H
        go_enter Try.func14, Try.ntmps14
        go_wp2_with (first | ((with_reducible refine gate_dst (N := 2) rfl ?_); refine box_event ?hg (N := 2) ?hd (cs := #[.int .i64 a0_0, .int .i64 a0_1, .int .i64 a0_2, .int .i64 a0_3, .int .i64 a0_4, .int .i64 a0_5, .int .i64 a0_6, .slice A0_7 l0_7.length c0_7]) (t := 40) ?hr ?_; (case hd => rfl); (case hg => rfl); (case hr => first | (go_simp; done) | (go_simp; rfl)); intro gb168 hg w36 hbox hb; have n0_ := Aside0.mk (below_step (by repeat (first | (with_reducible first | exact HB.out | apply below_alloc | apply pw_below_drewN | apply below_drew1) | exact HB.out)) hb); have n1_ := Aside0.mk (hbox); have n2_ := Aside0.mk ((by rw [hg]; exact (below_size (by repeat (first | (with_reducible first | exact HB.out | apply below_alloc | apply pw_below_drewN | apply below_drew1) | exact HB.out))) : w.heap.size ≤ gb168)); have n3_ := Aside0.mk ((by rw [hg]; exact (below_size (by repeat (first | (with_reducible first | exact HB.out | apply below_alloc | apply pw_below_drewN | apply below_drew1) | exact HB.out))) : w.heap.size ≤ gb168)); clear HB; have HB := n0_; have BK168 := n1_; have GW168 := n2_; have GE168 := n3_; clear n0_ n1_ n2_ n3_; clear hb hbox hg) | ((with_reducible refine gate_dst (N := 3) rfl ?_); refine box_event ?hg (N := 3) ?hd (cs := #[.int .i64 a1_0, .int .i64 a1_1, .int .i64 a1_2, .int .i64 a1_3, .int .i64 a1_4, .int .i64 a1_5, .int .i64 a1_6, .slice A1_7 l1_7.length c1_7]) (t := 40) ?hr ?_; (case hd => rfl); (case hg => rfl); (case hr => first | (go_simp; done) | (go_simp; rfl)); intro gb169 hg w37 hbox hb; have n0_ := Aside0.mk (blk_below (g := gb168) (o := .cells #[.int .i64 a0_0, .int .i64 a0_1, .int .i64 a0_2, .int .i64 a0_3, .int .i64 a0_4, .int .i64 a0_5, .int .i64 a0_6, .slice A0_7 l0_7.length c0_7] 40 (0, 0)) (by (with_reducible repeat (first | refine blk_drewN ?_ _ | refine blk_drew ?_ | refine blk_alloc ?_ _)); exact BK168.out) hb); have n1_ := Aside0.mk (below_step (by repeat (first | (with_reducible first | exact HB.out | apply below_alloc | apply pw_below_drewN | apply below_drew1 | refine below_set ?_ GE168.out) | exact HB.out)) hb); have n2_ := Aside0.mk (hbox); have n3_ := Aside0.mk ((by rw [hg]; exact (below_size (by repeat (first | (with_reducible first | exact HB.out | apply below_alloc | apply pw_below_drewN | apply below_drew1 | refine below_set ?_ GE168.out) | exact HB.out))) : w.heap.size ≤ gb169)); have n4_ := Aside0.mk ((by rw [hg]; exact (below_size (by repeat (first | (with_reducible first | exact HB.out | apply below_alloc | apply pw_below_drewN | apply below_drew1 | refine below_set ?_ GE168.out) | exact HB.out))) : w.heap.size ≤ gb169)); have n5_ := Aside0.mk ((by rw [hg]; exact Nat.ne_of_lt (blk_lt (g := gb168) (o := .cells #[.int .i64 a0_0, .int .i64 a0_1, .int .i64 a0_2, .int .i64 a0_3, .int .i64 a0_4, .int .i64 a0_5, .int .i64 a0_6, .slice A0_7 l0_7.length c0_7] 40 (0, 0)) (by (with_reducible repeat (first | refine blk_drewN ?_ _ | refine blk_drew ?_ | refine blk_alloc ?_ _)); exact BK168.out)) : gb168 ≠ gb169)); have n6_ := Aside0.mk ((by rw [hg]; exact Nat.ne_of_gt (blk_lt (g := gb168) (o := .cells #[.int .i64 a0_0, .int .i64 a0_1, .int .i64 a0_2, .int .i64 a0_3, .int .i64 a0_4, .int .i64 a0_5, .int .i64 a0_6, .slice A0_7 l0_7.length c0_7] 40 (0, 0)) (by (with_reducible repeat (first | refine blk_drewN ?_ _ | refine blk_drew ?_ | refine blk_alloc ?_ _)); exact BK168.out)) : gb169 ≠ gb168)); clear BK168; clear HB; have BK168 := n0_; have HB := n1_; have BK169 := n2_; have GW169 := n3_; have GE169 := n4_; have NB168_169 := n5_; have NB169_168 := n6_; clear n0_ n1_ n2_ n3_ n4_ n5_ n6_; clear hb hbox hg; have hnb38 := NB168_169.out; have hnc38 := NB169_168.out; have hcz39_0 : w37.cell? ⟨gb168, 0, none⟩ = some (.int .i64 a0_0) := (blk_cell BK168.out 0).trans rfl; have hcz39_1 : w37.cell? ⟨gb168, 1, none⟩ = some (.int .i64 a0_1) := (blk_cell BK168.out 1).trans rfl; have hcz39_2 : w37.cell? ⟨gb168, 2, none⟩ = some (.int .i64 a0_2) := (blk_cell BK168.out 2).trans rfl; have hcz39_3 : w37.cell? ⟨gb168, 3, none⟩ = some (.int .i64 a0_3) := (blk_cell BK168.out 3).trans rfl; have hcz39_4 : w37.cell? ⟨gb168, 4, none⟩ = some (.int .i64 a0_4) := (blk_cell BK168.out 4).trans rfl; have hcz39_5 : w37.cell? ⟨gb168, 5, none⟩ = some (.int .i64 a0_5) := (blk_cell BK168.out 5).trans rfl; have hcz39_6 : w37.cell? ⟨gb168, 6, none⟩ = some (.int .i64 a0_6) := (blk_cell BK168.out 6).trans rfl; have hcz39_7 : w37.cell? ⟨gb168, 7, none⟩ = some (.slice A0_7 l0_7.length c0_7) := (blk_cell BK168.out 7).trans rfl; have hfz39_0 := blk_frozen BK168.out 0; have hfz39_1 := blk_frozen BK168.out 1; have hfz39_2 := blk_frozen BK168.out 2; have hfz39_3 := blk_frozen BK168.out 3; have hfz39_4 := blk_frozen BK168.out 4; have hfz39_5 := blk_frozen BK168.out 5; have hfz39_6 := blk_frozen BK168.out 6; have hfz39_7 := blk_frozen BK168.out 7; have hcz40_0 : w37.cell? ⟨gb169, 0, none⟩ = some (.int .i64 a1_0) := (blk_cell BK169.out 0).trans rfl; have hcz40_1 : w37.cell? ⟨gb169, 1, none⟩ = some (.int .i64 a1_1) := (blk_cell BK169.out 1).trans rfl; have hcz40_2 : w37.cell? ⟨gb169, 2, none⟩ = some (.int .i64 a1_2) := (blk_cell BK169.out 2).trans rfl; have hcz40_3 : w37.cell? ⟨gb169, 3, none⟩ = some (.int .i64 a1_3) := (blk_cell BK169.out 3).trans rfl; have hcz40_4 : w37.cell? ⟨gb169, 4, none⟩ = some (.int .i64 a1_4) := (blk_cell BK169.out 4).trans rfl; have hcz40_5 : w37.cell? ⟨gb169, 5, none⟩ = some (.int .i64 a1_5) := (blk_cell BK169.out 5).trans rfl; have hcz40_6 : w37.cell? ⟨gb169, 6, none⟩ = some (.int .i64 a1_6) := (blk_cell BK169.out 6).trans rfl; have hcz40_7 : w37.cell? ⟨gb169, 7, none⟩ = some (.slice A1_7 l1_7.length c1_7) := (blk_cell BK169.out 7).trans rfl; have hfz40_0 := blk_frozen BK169.out 0; have hfz40_1 := blk_frozen BK169.out 1; have hfz40_2 := blk_frozen BK169.out 2; have hfz40_3 := blk_frozen BK169.out 3; have hfz40_4 := blk_frozen BK169.out 4; have hfz40_5 := blk_frozen BK169.out 5; have hfz40_6 := blk_frozen BK169.out 6; have hfz40_7 := blk_frozen BK169.out 7))
        go_ret
        exact ⟨by first | rfl | (simp [errW_none, errW_some] <;> rfl) | (simp [*, errW_none, errW_some] <;> rfl), by repeat (first | (with_reducible first | exact HB.out | apply below_alloc | apply pw_below_drewN | apply below_drew1 | refine below_set ?_ GE168.out | refine below_set ?_ GE169.out) | exact HB.out)⟩
    · rw [if_neg c4] at H
      have c4b0 : (a0_1 == a1_1) = false := beq_eq_false_iff_ne.mpr c4
      have c4b1 : (a0_1 != a1_1) = true := bne_iff_ne.mpr c4
      obtain rfl := Option.some.inj H
      go_enter Try.func14, Try.ntmps14
      go_wp2_with (first | ((with_reducible refine gate_dst (N := 2) rfl ?_); refine box_event ?hg (N := 2) ?hd (cs := #[.int .i64 a0_0, .int .i64 a0_1, .int .i64 a0_2, .int .i64 a0_3, .int .i64 a0_4, .int .i64 a0_5, .int .i64 a0_6, .slice A0_7 l0_7.length c0_7]) (t := 40) ?hr ?_; (case hd => rfl); (case hg => rfl); (case hr => first | (go_simp; done) | (go_simp; rfl)); intro gb168 hg w41 hbox hb; have n0_ := Aside0.mk (below_step (by repeat (first | (with_reducible first | exact HB.out | apply below_alloc | apply pw_below_drewN | apply below_drew1) | exact HB.out)) hb); have n1_ := Aside0.mk (hbox); have n2_ := Aside0.mk ((by rw [hg]; exact (below_size (by repeat (first | (with_reducible first | exact HB.out | apply below_alloc | apply pw_below_drewN | apply below_drew1) | exact HB.out))) : w.heap.size ≤ gb168)); have n3_ := Aside0.mk ((by rw [hg]; exact (below_size (by repeat (first | (with_reducible first | exact HB.out | apply below_alloc | apply pw_below_drewN | apply below_drew1) | exact HB.out))) : w.heap.size ≤ gb168)); clear HB; have HB := n0_; have BK168 := n1_; have GW168 := n2_; have GE168 := n3_; clear n0_ n1_ n2_ n3_; clear hb hbox hg) | ((with_reducible refine gate_dst (N := 3) rfl ?_); refine box_event ?hg (N := 3) ?hd (cs := #[.int .i64 a1_0, .int .i64 a1_1, .int .i64 a1_2, .int .i64 a1_3, .int .i64 a1_4, .int .i64 a1_5, .int .i64 a1_6, .slice A1_7 l1_7.length c1_7]) (t := 40) ?hr ?_; (case hd => rfl); (case hg => rfl); (case hr => first | (go_simp; done) | (go_simp; rfl)); intro gb169 hg w42 hbox hb; have n0_ := Aside0.mk (blk_below (g := gb168) (o := .cells #[.int .i64 a0_0, .int .i64 a0_1, .int .i64 a0_2, .int .i64 a0_3, .int .i64 a0_4, .int .i64 a0_5, .int .i64 a0_6, .slice A0_7 l0_7.length c0_7] 40 (0, 0)) (by (with_reducible repeat (first | refine blk_drewN ?_ _ | refine blk_drew ?_ | refine blk_alloc ?_ _)); exact BK168.out) hb); have n1_ := Aside0.mk (below_step (by repeat (first | (with_reducible first | exact HB.out | apply below_alloc | apply pw_below_drewN | apply below_drew1 | refine below_set ?_ GE168.out) | exact HB.out)) hb); have n2_ := Aside0.mk (hbox); have n3_ := Aside0.mk ((by rw [hg]; exact (below_size (by repeat (first | (with_reducible first | exact HB.out | apply below_alloc | apply pw_below_drewN | apply below_drew1 | refine below_set ?_ GE168.out) | exact HB.out))) : w.heap.size ≤ gb169)); have n4_ := Aside0.mk ((by rw [hg]; exact (below_size (by repeat (first | (with_reducible first | exact HB.out | apply below_alloc | apply pw_below_drewN | apply below_drew1 | refine below_set ?_ GE168.out) | exact HB.out))) : w.heap.size ≤ gb169)); have n5_ := Aside0.mk ((by rw [hg]; exact Nat.ne_of_lt (blk_lt (g := gb168) (o := .cells #[.int .i64 a0_0, .int .i64 a0_1, .int .i64 a0_2, .int .i64 a0_3, .int .i64 a0_4, .int .i64 a0_5, .int .i64 a0_6, .slice A0_7 l0_7.length c0_7] 40 (0, 0)) (by (with_reducible repeat (first | refine blk_drewN ?_ _ | refine blk_drew ?_ | refine blk_alloc ?_ _)); exact BK168.out)) : gb168 ≠ gb169)); have n6_ := Aside0.mk ((by rw [hg]; exact Nat.ne_of_gt (blk_lt (g := gb168) (o := .cells #[.int .i64 a0_0, .int .i64 a0_1, .int .i64 a0_2, .int .i64 a0_3, .int .i64 a0_4, .int .i64 a0_5, .int .i64 a0_6, .slice A0_7 l0_7.length c0_7] 40 (0, 0)) (by (with_reducible repeat (first | refine blk_drewN ?_ _ | refine blk_drew ?_ | refine blk_alloc ?_ _)); exact BK168.out)) : gb169 ≠ gb168)); clear BK168; clear HB; have BK168 := n0_; have HB := n1_; have BK169 := n2_; have GW169 := n3_; have GE169 := n4_; have NB168_169 := n5_; have NB169_168 := n6_; clear n0_ n1_ n2_ n3_ n4_ n5_ n6_; clear hb hbox hg; have hnb43 := NB168_169.out; have hnc43 := NB169_168.out; have hcz44_0 : w42.cell? ⟨gb168, 0, none⟩ = some (.int .i64 a0_0) := (blk_cell BK168.out 0).trans rfl; have hcz44_1 : w42.cell? ⟨gb168, 1, none⟩ = some (.int .i64 a0_1) := (blk_cell BK168.out 1).trans rfl; have hcz44_2 : w42.cell? ⟨gb168, 2, none⟩ = some (.int .i64 a0_2) := (blk_cell BK168.out 2).trans rfl; have hcz44_3 : w42.cell? ⟨gb168, 3, none⟩ = some (.int .i64 a0_3) := (blk_cell BK168.out 3).trans rfl; have hcz44_4 : w42.cell? ⟨gb168, 4, none⟩ = some (.int .i64 a0_4) := (blk_cell BK168.out 4).trans rfl; have hcz44_5 : w42.cell? ⟨gb168, 5, none⟩ = some (.int .i64 a0_5) := (blk_cell BK168.out 5).trans rfl; have hcz44_6 : w42.cell? ⟨gb168, 6, none⟩ = some (.int .i64 a0_6) := (blk_cell BK168.out 6).trans rfl; have hcz44_7 : w42.cell? ⟨gb168, 7, none⟩ = some (.slice A0_7 l0_7.length c0_7) := (blk_cell BK168.out 7).trans rfl; have hfz44_0 := blk_frozen BK168.out 0; have hfz44_1 := blk_frozen BK168.out 1; have hfz44_2 := blk_frozen BK168.out 2; have hfz44_3 := blk_frozen BK168.out 3; have hfz44_4 := blk_frozen BK168.out 4; have hfz44_5 := blk_frozen BK168.out 5; have hfz44_6 := blk_frozen BK168.out 6; have hfz44_7 := blk_frozen BK168.out 7; have hcz45_0 : w42.cell? ⟨gb169, 0, none⟩ = some (.int .i64 a1_0) := (blk_cell BK169.out 0).trans rfl; have hcz45_1 : w42.cell? ⟨gb169, 1, none⟩ = some (.int .i64 a1_1) := (blk_cell BK169.out 1).trans rfl; have hcz45_2 : w42.cell? ⟨gb169, 2, none⟩ = some (.int .i64 a1_2) := (blk_cell BK169.out 2).trans rfl; have hcz45_3 : w42.cell? ⟨gb169, 3, none⟩ = some (.int .i64 a1_3) := (blk_cell BK169.out 3).trans rfl; have hcz45_4 : w42.cell? ⟨gb169, 4, none⟩ = some (.int .i64 a1_4) := (blk_cell BK169.out 4).trans rfl; have hcz45_5 : w42.cell? ⟨gb169, 5, none⟩ = some (.int .i64 a1_5) := (blk_cell BK169.out 5).trans rfl; have hcz45_6 : w42.cell? ⟨gb169, 6, none⟩ = some (.int .i64 a1_6) := (blk_cell BK169.out 6).trans rfl; have hcz45_7 : w42.cell? ⟨gb169, 7, none⟩ = some (.slice A1_7 l1_7.length c1_7) := (blk_cell BK169.out 7).trans rfl; have hfz45_0 := blk_frozen BK169.out 0; have hfz45_1 := blk_frozen BK169.out 1; have hfz45_2 := blk_frozen BK169.out 2; have hfz45_3 := blk_frozen BK169.out 3; have hfz45_4 := blk_frozen BK169.out 4; have hfz45_5 := blk_frozen BK169.out 5; have hfz45_6 := blk_frozen BK169.out 6; have hfz45_7 := blk_frozen BK169.out 7))
      go_ret
      exact ⟨by first | rfl | (simp [errW_none, errW_some] <;> rfl) | (simp [*, errW_none, errW_some] <;> rfl), by repeat (first | (with_reducible first | exact HB.out | apply below_alloc | apply pw_below_drewN | apply below_drew1 | refine below_set ?_ GE168.out | refine below_set ?_ GE169.out) | exact HB.out)⟩
  · rw [if_neg c3] at H
    have c3b0 : (a0_0 == a1_0) = false := beq_eq_false_iff_ne.mpr c3
    have c3b1 : (a0_0 != a1_0) = true := bne_iff_ne.mpr c3
    obtain rfl := Option.some.inj H
    go_enter Try.func14, Try.ntmps14
    go_wp2_with (first | ((with_reducible refine gate_dst (N := 2) rfl ?_); refine box_event ?hg (N := 2) ?hd (cs := #[.int .i64 a0_0, .int .i64 a0_1, .int .i64 a0_2, .int .i64 a0_3, .int .i64 a0_4, .int .i64 a0_5, .int .i64 a0_6, .slice A0_7 l0_7.length c0_7]) (t := 40) ?hr ?_; (case hd => rfl); (case hg => rfl); (case hr => first | (go_simp; done) | (go_simp; rfl)); intro gb168 hg w46 hbox hb; have n0_ := Aside0.mk (below_step (by repeat (first | (with_reducible first | exact HB.out | apply below_alloc | apply pw_below_drewN | apply below_drew1) | exact HB.out)) hb); have n1_ := Aside0.mk (hbox); have n2_ := Aside0.mk ((by rw [hg]; exact (below_size (by repeat (first | (with_reducible first | exact HB.out | apply below_alloc | apply pw_below_drewN | apply below_drew1) | exact HB.out))) : w.heap.size ≤ gb168)); have n3_ := Aside0.mk ((by rw [hg]; exact (below_size (by repeat (first | (with_reducible first | exact HB.out | apply below_alloc | apply pw_below_drewN | apply below_drew1) | exact HB.out))) : w.heap.size ≤ gb168)); clear HB; have HB := n0_; have BK168 := n1_; have GW168 := n2_; have GE168 := n3_; clear n0_ n1_ n2_ n3_; clear hb hbox hg) | ((with_reducible refine gate_dst (N := 3) rfl ?_); refine box_event ?hg (N := 3) ?hd (cs := #[.int .i64 a1_0, .int .i64 a1_1, .int .i64 a1_2, .int .i64 a1_3, .int .i64 a1_4, .int .i64 a1_5, .int .i64 a1_6, .slice A1_7 l1_7.length c1_7]) (t := 40) ?hr ?_; (case hd => rfl); (case hg => rfl); (case hr => first | (go_simp; done) | (go_simp; rfl)); intro gb169 hg w47 hbox hb; have n0_ := Aside0.mk (blk_below (g := gb168) (o := .cells #[.int .i64 a0_0, .int .i64 a0_1, .int .i64 a0_2, .int .i64 a0_3, .int .i64 a0_4, .int .i64 a0_5, .int .i64 a0_6, .slice A0_7 l0_7.length c0_7] 40 (0, 0)) (by (with_reducible repeat (first | refine blk_drewN ?_ _ | refine blk_drew ?_ | refine blk_alloc ?_ _)); exact BK168.out) hb); have n1_ := Aside0.mk (below_step (by repeat (first | (with_reducible first | exact HB.out | apply below_alloc | apply pw_below_drewN | apply below_drew1 | refine below_set ?_ GE168.out) | exact HB.out)) hb); have n2_ := Aside0.mk (hbox); have n3_ := Aside0.mk ((by rw [hg]; exact (below_size (by repeat (first | (with_reducible first | exact HB.out | apply below_alloc | apply pw_below_drewN | apply below_drew1 | refine below_set ?_ GE168.out) | exact HB.out))) : w.heap.size ≤ gb169)); have n4_ := Aside0.mk ((by rw [hg]; exact (below_size (by repeat (first | (with_reducible first | exact HB.out | apply below_alloc | apply pw_below_drewN | apply below_drew1 | refine below_set ?_ GE168.out) | exact HB.out))) : w.heap.size ≤ gb169)); have n5_ := Aside0.mk ((by rw [hg]; exact Nat.ne_of_lt (blk_lt (g := gb168) (o := .cells #[.int .i64 a0_0, .int .i64 a0_1, .int .i64 a0_2, .int .i64 a0_3, .int .i64 a0_4, .int .i64 a0_5, .int .i64 a0_6, .slice A0_7 l0_7.length c0_7] 40 (0, 0)) (by (with_reducible repeat (first | refine blk_drewN ?_ _ | refine blk_drew ?_ | refine blk_alloc ?_ _)); exact BK168.out)) : gb168 ≠ gb169)); have n6_ := Aside0.mk ((by rw [hg]; exact Nat.ne_of_gt (blk_lt (g := gb168) (o := .cells #[.int .i64 a0_0, .int .i64 a0_1, .int .i64 a0_2, .int .i64 a0_3, .int .i64 a0_4, .int .i64 a0_5, .int .i64 a0_6, .slice A0_7 l0_7.length c0_7] 40 (0, 0)) (by (with_reducible repeat (first | refine blk_drewN ?_ _ | refine blk_drew ?_ | refine blk_alloc ?_ _)); exact BK168.out)) : gb169 ≠ gb168)); clear BK168; clear HB; have BK168 := n0_; have HB := n1_; have BK169 := n2_; have GW169 := n3_; have GE169 := n4_; have NB168_169 := n5_; have NB169_168 := n6_; clear n0_ n1_ n2_ n3_ n4_ n5_ n6_; clear hb hbox hg; have hnb48 := NB168_169.out; have hnc48 := NB169_168.out; have hcz49_0 : w47.cell? ⟨gb168, 0, none⟩ = some (.int .i64 a0_0) := (blk_cell BK168.out 0).trans rfl; have hcz49_1 : w47.cell? ⟨gb168, 1, none⟩ = some (.int .i64 a0_1) := (blk_cell BK168.out 1).trans rfl; have hcz49_2 : w47.cell? ⟨gb168, 2, none⟩ = some (.int .i64 a0_2) := (blk_cell BK168.out 2).trans rfl; have hcz49_3 : w47.cell? ⟨gb168, 3, none⟩ = some (.int .i64 a0_3) := (blk_cell BK168.out 3).trans rfl; have hcz49_4 : w47.cell? ⟨gb168, 4, none⟩ = some (.int .i64 a0_4) := (blk_cell BK168.out 4).trans rfl; have hcz49_5 : w47.cell? ⟨gb168, 5, none⟩ = some (.int .i64 a0_5) := (blk_cell BK168.out 5).trans rfl; have hcz49_6 : w47.cell? ⟨gb168, 6, none⟩ = some (.int .i64 a0_6) := (blk_cell BK168.out 6).trans rfl; have hcz49_7 : w47.cell? ⟨gb168, 7, none⟩ = some (.slice A0_7 l0_7.length c0_7) := (blk_cell BK168.out 7).trans rfl; have hfz49_0 := blk_frozen BK168.out 0; have hfz49_1 := blk_frozen BK168.out 1; have hfz49_2 := blk_frozen BK168.out 2; have hfz49_3 := blk_frozen BK168.out 3; have hfz49_4 := blk_frozen BK168.out 4; have hfz49_5 := blk_frozen BK168.out 5; have hfz49_6 := blk_frozen BK168.out 6; have hfz49_7 := blk_frozen BK168.out 7; have hcz50_0 : w47.cell? ⟨gb169, 0, none⟩ = some (.int .i64 a1_0) := (blk_cell BK169.out 0).trans rfl; have hcz50_1 : w47.cell? ⟨gb169, 1, none⟩ = some (.int .i64 a1_1) := (blk_cell BK169.out 1).trans rfl; have hcz50_2 : w47.cell? ⟨gb169, 2, none⟩ = some (.int .i64 a1_2) := (blk_cell BK169.out 2).trans rfl; have hcz50_3 : w47.cell? ⟨gb169, 3, none⟩ = some (.int .i64 a1_3) := (blk_cell BK169.out 3).trans rfl; have hcz50_4 : w47.cell? ⟨gb169, 4, none⟩ = some (.int .i64 a1_4) := (blk_cell BK169.out 4).trans rfl; have hcz50_5 : w47.cell? ⟨gb169, 5, none⟩ = some (.int .i64 a1_5) := (blk_cell BK169.out 5).trans rfl; have hcz50_6 : w47.cell? ⟨gb169, 6, none⟩ = some (.int .i64 a1_6) := (blk_cell BK169.out 6).trans rfl; have hcz50_7 : w47.cell? ⟨gb169, 7, none⟩ = some (.slice A1_7 l1_7.length c1_7) := (blk_cell BK169.out 7).trans rfl; have hfz50_0 := blk_frozen BK169.out 0; have hfz50_1 := blk_frozen BK169.out 1; have hfz50_2 := blk_frozen BK169.out 2; have hfz50_3 := blk_frozen BK169.out 3; have hfz50_4 := blk_frozen BK169.out 4; have hfz50_5 := blk_frozen BK169.out 5; have hfz50_6 := blk_frozen BK169.out 6; have hfz50_7 := blk_frozen BK169.out 7))
    go_ret
    exact ⟨by first | rfl | (simp [errW_none, errW_some] <;> rfl) | (simp [*, errW_none, errW_some] <;> rfl), by repeat (first | (with_reducible first | exact HB.out | apply below_alloc | apply pw_below_drewN | apply below_drew1 | refine below_set ?_ GE168.out | refine below_set ?_ GE169.out) | exact HB.out)⟩

end Go.Proofs.Ytlmlkcobkmhmbaa.Q
end

section
-- written by hprint.py (a program of these sessions) out of the translation; Lean checks it
namespace Go.Proofs.Ytlmlkcobkmhmbaa.Q
open Go.RowKit Go.Proofs.YtlmlkcobkmhmbaaW.Hb Go.Proofs.YtlmlkcobkmhmbaaW.PrintWords Go.Proofs.YtlmlkcobkmhmbaaW.PrintLast Go.Proofs.YtlmlkcobkmhmbaaW.PrintMore
attribute [local go_sem] max2_int min2_int max_two min_two max_three min_three max_four min_four   -- for this text's walks alone
set_option linter.unusedVariables false
set_option linter.unusedSimpArgs false

/-! ### message_PutRecord: function 17, by hand -/
def message_PutRecord.f (a0_0 a0_1 a0_2 a0_3 : Int) (l0_4 : List S74) : Option (List Int × Int) := some (if rightR ⟨a0_0, a0_1, a0_2, a0_3, l0_4⟩ = true then wall [a0_0] [a0_1, a0_2, a0_3] l0_4 else ([], 1))
set_option maxRecDepth 100000 in
set_option maxHeartbeats 2000000 in
theorem message_PutRecord.calls (a0_0 a0_1 a0_2 a0_3 : Int) (A0_4 : Option Addr) (c0_4 : Nat) (l0_4 : List S74) (r1 : List Int) (r2 : Int) (w : World) (hr0 : Kd.C k74 w A0_4 l0_4.length l0_4) (hc0 : l0_4.length ≤ c0_4) (h : message_PutRecord.f a0_0 a0_1 a0_2 a0_3 l0_4 = some (r1, r2)) :
    Calls Try.prog 17 #[.agg #[.int .i64 a0_0, .int .i64 a0_1, .int .i64 a0_2, .int .i64 a0_3, .slice A0_4 l0_4.length c0_4]] w fun e w' => ∃ v0_ : Value, e = .returned (.tuple #[v0_, .int .i64 r2]) ∧ Kd.R (Kd.int .u8) 5 w' w.heap.size (fun _ => True) v0_ r1 ∧ Below w.heap.size w w' := by
  have h := Option.some.inj h
  have HR0 := Aside0.mk hr0
  have hm0 : l0_4.length ≤ 9223372036854775807 := hr0.2.1
  have HM1 := Aside0.mk (Blk.new w 49 #[.int .i64 a0_0, .int .i64 a0_1, .int .i64 a0_2, .int .i64 a0_3, .slice A0_4 l0_4.length c0_4])
  have HB1 := Aside0.mk ((Below.refl w.heap.size w).alloc (Nat.le_refl _) (.cells #[.int .i64 a0_0, .int .i64 a0_1, .int .i64 a0_2, .int .i64 a0_3, .slice A0_4 l0_4.length c0_4] 49))
  have HC1 := Aside0.mk (Kd.C_alloc hr0 (.cells #[.int .i64 a0_0, .int .i64 a0_1, .int .i64 a0_2, .int .i64 a0_3, .slice A0_4 l0_4.length c0_4] 49))
  clear hr0
  cases hrt : rightR ⟨a0_0, a0_1, a0_2, a0_3, l0_4⟩ with
  | false =>
    have HF := Aside0.mk (show message_RightRecord.f a0_0 a0_1 a0_2 a0_3 l0_4 = some false by rw [← hrt]; exact rightR_f ⟨a0_0, a0_1, a0_2, a0_3, l0_4⟩)
    rw [if_neg (by rw [hrt]; decide)] at h
    obtain ⟨rfl, rfl⟩ := Prod.mk.inj h
    clear hrt h
    go_enter Try.func17, Try.ntmps17
    go_wp2_with (go_at_call 21; (with_reducible refine (message_RightRecord.calls a0_0 a0_1 a0_2 a0_3 A0_4 c0_4 l0_4 false _ HC1.out hc0 HF.out).mono ?_); rintro e w2 ⟨rfl, hb2⟩; have HB2 := Aside0.mk (HB1.out.trans (hb2.mono HB1.out.size)); clear hb2)
    go_ret2
    exact ⟨_, rfl, Kd.R_nil _ _ _ _ _, HB2.out⟩
  | true =>
    have HF := Aside0.mk (show message_RightRecord.f a0_0 a0_1 a0_2 a0_3 l0_4 = some true by rw [← hrt]; exact rightR_f ⟨a0_0, a0_1, a0_2, a0_3, l0_4⟩)
    have hent : entB l0_4 = true := by have := hrt; simp [rightR] at this; simp [this]
    obtain ⟨hn, hs⟩ := entB_is hent
    rw [if_pos hrt] at h
    obtain ⟨l1, e1, hw1⟩ : ∃ l1 e1, wbytes [] [a0_0] = (l1, e1) := ⟨_, _, rfl⟩
    obtain ⟨l2, e2, hw2⟩ : ∃ l2 e2, wmore l1 (ints8 [a0_1, a0_2, a0_3]) = (l2, e2) := ⟨_, _, rfl⟩
    obtain ⟨l3, e3, hw3⟩ : ∃ l3 e3, wlog (l2, mustE e1 e2) l0_4 = (l3, e3) := ⟨_, _, rfl⟩
    rw [wall_is hw1 hw2 hw3] at h
    obtain ⟨rfl, rfl⟩ := Prod.mk.inj h
    have HW1 := Aside0.mk hw1
    have HW2 := Aside0.mk hw2
    have HW3 := Aside0.mk hw3
    have HS := Aside0.mk hs
    clear hrt h hent hs hw1 hw2 hw3
    go_enter Try.func17, Try.ntmps17
    go_wp2_with (first | (go_at_call 21; (with_reducible refine (message_RightRecord.calls a0_0 a0_1 a0_2 a0_3 A0_4 c0_4 l0_4 true _ HC1.out hc0 HF.out).mono ?_); rintro e w2 ⟨rfl, hb2⟩; have HB2 := Aside0.mk (HB1.out.trans (hb2.mono HB1.out.size)); have HM2 := Aside0.mk (HM1.out.after hb2); clear hb2) | (go_at_call 31; (with_reducible refine (wire_NewWriter.calls w2).mono ?_); rintro e w3 ⟨gw, rfl, hW3, hg3, hB3⟩; have HP3 := Aside0.mk (Pn.new hW3 hg3 hB3); clear hW3 hg3 hB3))
    have HR2 := Aside0.mk (Kd.C_below HR0.out (HB2.out.mono (Nat.le_refl _)))
    clear HR0 HC1 HM1
    generalize w3.alloc (.cells #[.pointer (some ⟨gw, 0, none⟩), .int .i64 0] 79) = W1 at HP3 ⊢
    generalize w3.heap.size = g at HP3 ⊢
    have HPd := Aside0.mk (HP3.out.below ((Below.refl _ _).drew))
    have HMd := Aside0.mk (HM2.out.after HPd.out.bel)
    refine start_ (n := 10) (S := fun w' => w'.cell? ⟨g, 0, none⟩ = some (.pointer (some ⟨gw, 0, none⟩)) ∧ w'.cell? ⟨w.heap.size, 0, none⟩ = some (.int .i64 a0_0)) (ds := [8, 9]) #[false, false, false, false, false, false, false, false, false, false] (by kernel_rfl) rfl rfl ⟨(HPd.out.blk.cell 0), (HMd.out.cell 0)⟩ (fun hHeld => ?_)
    generalize W1.drew = wd at HPd HMd hHeld ⊢
    refine pure_ (i := 0) (N := some 11) (v := ?_) (a' := ?_) #[true, false, false, false, false, false, false, false, false, false] rfl rfl (by kernel_rfl) (fun _ _ _ h => h) (Or.inl ⟨by rfl, ?_⟩) ?_ ?_
    rotate_left
    · intro w'
      go_simp
      with_reducible rfl
    rotate_left
    · simp only [Act.put, List.setIfInBounds_toArray, List.set_cons_zero, List.set_cons_succ, i64_w, i32_w]
      rfl
    refine pure_ (i := 1) (N := some 12) (v := ?_) (a' := ?_) #[true, true, false, false, false, false, false, false, false, false] rfl rfl (by kernel_rfl) (fun _ _ _ h => h) (Or.inl ⟨by rfl, ?_⟩) ?_ ?_
    rotate_left
    · intro w'
      go_simp
      with_reducible rfl
    rotate_left
    · simp only [Act.put, List.setIfInBounds_toArray, List.set_cons_zero, List.set_cons_succ, i64_w, i32_w]
      rfl
    refine pure_ (i := 2) (N := some 13) (v := ?_) (a' := ?_) #[true, true, true, false, false, false, false, false, false, false] rfl rfl (by kernel_rfl) (fun _ _ _ h => h) (Or.inl ⟨by rfl, ?_⟩) ?_ ?_
    rotate_left
    · intro w'
      go_simp
      with_reducible rfl
    rotate_left
    · simp only [Act.put, List.setIfInBounds_toArray, List.set_cons_zero, List.set_cons_succ, i64_w, i32_w]
      rfl
    refine pure_ (i := 3) (N := some 14) (v := ?_) (a' := ?_) #[true, true, true, true, false, false, false, false, false, false] rfl rfl (by kernel_rfl) (fun _ _ _ h => h) (Or.inl ⟨by rfl, ?_⟩) ?_ ?_
    rotate_left
    · intro w'
      go_simp
      with_reducible rfl
    rotate_left
    · simp only [Act.put, List.setIfInBounds_toArray, List.set_cons_zero, List.set_cons_succ, i64_w, i32_w]
      rfl
    refine pure_ (i := 5) (N := some 16) (v := ?_) (a' := ?_) #[true, true, true, true, false, true, false, false, false, false] rfl rfl (by kernel_rfl) (fun _ _ _ h => h) (Or.inl ⟨by rfl, ?_⟩) ?_ ?_
    rotate_left
    · intro w'
      go_simp
      with_reducible rfl
    rotate_left
    · simp only [Act.put, List.setIfInBounds_toArray, List.set_cons_zero, List.set_cons_succ, i64_w, i32_w]
      rfl
    refine take_ (i := 4) (N := some 15) (v := ?_) (a' := ?_) #[true, true, true, true, true, true, false, false, false, false] rfl rfl (by kernel_rfl) (fun _ _ _ h => h) (Or.inl ⟨by rfl, ?_⟩) hHeld ?_ ?_
    rotate_left
    · rintro w' ⟨s0, s1⟩
      go_simp
      with_reducible rfl
    rotate_left
    · simp only [Act.put, List.setIfInBounds_toArray, List.set_cons_zero, List.set_cons_succ, i64_w, i32_w]
      rfl
    refine take_ (i := 6) (N := some 17) (v := ?_) (a' := ?_) #[true, true, true, true, true, true, true, false, false, false] rfl rfl (by kernel_rfl) (fun _ _ _ h => h) (Or.inl ⟨by rfl, ?_⟩) hHeld ?_ ?_
    rotate_left
    · rintro w' ⟨s0, s1⟩
      go_simp
      with_reducible rfl
    rotate_left
    · simp only [Act.put, List.setIfInBounds_toArray, List.set_cons_zero, List.set_cons_succ, i64_w, i32_w]
      rfl
    refine one_ (i := 7) (N := some 18) #[true, true, true, true, true, true, true, true, false, false] rfl rfl (by kernel_rfl) (by decide) (fun K hK => ?_)
    refine value_ (w1 := ?_) (v := ?_) (by rfl) rfl ?_ ?_
    rotate_left 2
    · go_simp
      constructor
      · rfl
      · rfl
    have HC2 := Aside0.mk (C_lit_int wd wd.heap.size rfl .i64 [a0_0] #[.int .i64 a0_0] rfl 3 (by simp))
    have HA2 := Aside0.mk ((Below.refl _ wd).alloc (Nat.le_refl _) (.cells #[.int .i64 a0_0] 3))
    have HP4 := Aside0.mk (HPd.out.below HA2.out)
    have HM4 := Aside0.mk (HMd.out.after HA2.out)
    refine hK.out _ _ ⟨(HP4.out.blk.cell 0), (HM4.out.cell 0)⟩ (fun hHeld => ?_)
    clear hK K
    refine norm_ (a' := ?_) ?_ ?_
    rotate_left
    · show Act.put _ (some 18) _ = _
      simp only [Act.put, List.setIfInBounds_toArray, List.set_cons_zero, List.set_cons_succ, i64_w, i32_w]
      rfl
    refine last_ (i := 8) (N := some 19) #[true, true, true, true, true, true, true, true, true, false] rfl rfl (by kernel_rfl) (by decide) (fun K hK => ?_)
    refine goes_ Try.func33 (by kernel_rfl) rfl #[.pointer (some ⟨gw, 0, none⟩), .slice (some ⟨wd.heap.size, 0, none⟩) 1 1] (by rfl) rfl rfl (by simp only [List.map_toArray, List.map_cons, List.map_nil]; rfl) ?_
    with_reducible refine (byteP 1 1 _ HW1.out HP4.out rfl HC2.out (Nat.le_refl 1) (by simp)).mono ?_
    rintro e5 w5 ⟨rfl, hP5, hS5⟩
    refine ⟨_, rfl, ?_⟩
    have HP5 := Aside0.mk hP5
    clear hP5 hS5
    refine hK.out _ _ ?_
    clear hK K
    refine norm_ (a' := ?_) ?_ ?_
    rotate_left
    · show Act.put _ (some 19) _ = _
      simp only [Act.put, List.setIfInBounds_toArray, List.set_cons_zero, List.set_cons_succ, i64_w, i32_w]
      rfl
    refine last_ (i := 9) (N := some 20) #[true, true, true, true, true, true, true, true, true, true] rfl rfl (by kernel_rfl) (by decide) (fun K hK => ?_)
    refine goes_ Try.func32 (by kernel_rfl) rfl #[.pointer (some ⟨g, 0, none⟩), .int .i64 e1] (by rfl) rfl rfl (by simp only [List.map_toArray, List.map_cons, List.map_nil]; rfl) ?_
    with_reducible refine (message_pen_must.calls w2 _ g gw l1 0 e1 _ HP5.out).mono ?_
    rintro e6 w6 ⟨rfl, hP6, hS6⟩
    refine ⟨_, rfl, ?_⟩
    have HP6 := Aside0.mk hP6
    clear hP6 hS6
    refine hK.out _ _ ?_
    clear hK K
    refine norm_ (a' := ?_) ?_ ?_
    rotate_left
    · show Act.put _ (some 20) _ = _
      simp only [Act.put, List.setIfInBounds_toArray, List.set_cons_zero, List.set_cons_succ, i64_w, i32_w]
      rfl
    refine done_ (by kernel_rfl) ?_
    rw [mustE_0] at HP6
    clear hHeld HPd HMd HC2 HA2 HP4 HM4 HP5 HP3
    go_wp2
    have HPe := Aside0.mk (HP6.out.below ((Below.refl _ _).drew))
    have HMe := Aside0.mk (HM2.out.after HPe.out.bel)
    refine start_ (n := 14) (S := fun w' => w'.cell? ⟨g, 0, none⟩ = some (.pointer (some ⟨gw, 0, none⟩)) ∧ w'.cell? ⟨w.heap.size, 1, none⟩ = some (.int .i64 a0_1) ∧ w'.cell? ⟨w.heap.size, 2, none⟩ = some (.int .i64 a0_2) ∧ w'.cell? ⟨w.heap.size, 3, none⟩ = some (.int .i64 a0_3)) (ds := [12, 13]) #[false, false, false, false, false, false, false, false, false, false, false, false, false, false] (by kernel_rfl) rfl rfl ⟨(HPe.out.blk.cell 0), (HMe.out.cell 1), (HMe.out.cell 2), (HMe.out.cell 3)⟩ (fun hHeld => ?_)
    generalize w6.drew = we at HPe HMe hHeld ⊢
    refine pure_ (i := 0) (N := some 21) (v := ?_) (a' := ?_) #[true, false, false, false, false, false, false, false, false, false, false, false, false, false] rfl rfl (by kernel_rfl) (fun _ _ _ h => h) (Or.inl ⟨by rfl, ?_⟩) ?_ ?_
    rotate_left
    · intro w'
      go_simp
      with_reducible rfl
    rotate_left
    · simp only [Act.put, List.setIfInBounds_toArray, List.set_cons_zero, List.set_cons_succ, i64_w, i32_w]
      rfl
    refine pure_ (i := 1) (N := some 22) (v := ?_) (a' := ?_) #[true, true, false, false, false, false, false, false, false, false, false, false, false, false] rfl rfl (by kernel_rfl) (fun _ _ _ h => h) (Or.inl ⟨by rfl, ?_⟩) ?_ ?_
    rotate_left
    · intro w'
      go_simp
      with_reducible rfl
    rotate_left
    · simp only [Act.put, List.setIfInBounds_toArray, List.set_cons_zero, List.set_cons_succ, i64_w, i32_w]
      rfl
    refine pure_ (i := 2) (N := some 23) (v := ?_) (a' := ?_) #[true, true, true, false, false, false, false, false, false, false, false, false, false, false] rfl rfl (by kernel_rfl) (fun _ _ _ h => h) (Or.inl ⟨by rfl, ?_⟩) ?_ ?_
    rotate_left
    · intro w'
      go_simp
      with_reducible rfl
    rotate_left
    · simp only [Act.put, List.setIfInBounds_toArray, List.set_cons_zero, List.set_cons_succ, i64_w, i32_w]
      rfl
    refine pure_ (i := 3) (N := some 24) (v := ?_) (a' := ?_) #[true, true, true, true, false, false, false, false, false, false, false, false, false, false] rfl rfl (by kernel_rfl) (fun _ _ _ h => h) (Or.inl ⟨by rfl, ?_⟩) ?_ ?_
    rotate_left
    · intro w'
      go_simp
      with_reducible rfl
    rotate_left
    · simp only [Act.put, List.setIfInBounds_toArray, List.set_cons_zero, List.set_cons_succ, i64_w, i32_w]
      rfl
    refine pure_ (i := 5) (N := some 26) (v := ?_) (a' := ?_) #[true, true, true, true, false, true, false, false, false, false, false, false, false, false] rfl rfl (by kernel_rfl) (fun _ _ _ h => h) (Or.inl ⟨by rfl, ?_⟩) ?_ ?_
    rotate_left
    · intro w'
      go_simp
      with_reducible rfl
    rotate_left
    · simp only [Act.put, List.setIfInBounds_toArray, List.set_cons_zero, List.set_cons_succ, i64_w, i32_w]
      rfl
    refine pure_ (i := 7) (N := some 28) (v := ?_) (a' := ?_) #[true, true, true, true, false, true, false, true, false, false, false, false, false, false] rfl rfl (by kernel_rfl) (fun _ _ _ h => h) (Or.inl ⟨by rfl, ?_⟩) ?_ ?_
    rotate_left
    · intro w'
      go_simp
      with_reducible rfl
    rotate_left
    · simp only [Act.put, List.setIfInBounds_toArray, List.set_cons_zero, List.set_cons_succ, i64_w, i32_w]
      rfl
    refine pure_ (i := 9) (N := some 30) (v := ?_) (a' := ?_) #[true, true, true, true, false, true, false, true, false, true, false, false, false, false] rfl rfl (by kernel_rfl) (fun _ _ _ h => h) (Or.inl ⟨by rfl, ?_⟩) ?_ ?_
    rotate_left
    · intro w'
      go_simp
      with_reducible rfl
    rotate_left
    · simp only [Act.put, List.setIfInBounds_toArray, List.set_cons_zero, List.set_cons_succ, i64_w, i32_w]
      rfl
    refine take_ (i := 4) (N := some 25) (v := ?_) (a' := ?_) #[true, true, true, true, true, true, false, true, false, true, false, false, false, false] rfl rfl (by kernel_rfl) (fun _ _ _ h => h) (Or.inl ⟨by rfl, ?_⟩) hHeld ?_ ?_
    rotate_left
    · rintro w' ⟨s0, s1, s2, s3⟩
      go_simp
      with_reducible rfl
    rotate_left
    · simp only [Act.put, List.setIfInBounds_toArray, List.set_cons_zero, List.set_cons_succ, i64_w, i32_w]
      rfl
    refine take_ (i := 6) (N := some 27) (v := ?_) (a' := ?_) #[true, true, true, true, true, true, true, true, false, true, false, false, false, false] rfl rfl (by kernel_rfl) (fun _ _ _ h => h) (Or.inl ⟨by rfl, ?_⟩) hHeld ?_ ?_
    rotate_left
    · rintro w' ⟨s0, s1, s2, s3⟩
      go_simp
      with_reducible rfl
    rotate_left
    · simp only [Act.put, List.setIfInBounds_toArray, List.set_cons_zero, List.set_cons_succ, i64_w, i32_w]
      rfl
    refine take_ (i := 8) (N := some 29) (v := ?_) (a' := ?_) #[true, true, true, true, true, true, true, true, true, true, false, false, false, false] rfl rfl (by kernel_rfl) (fun _ _ _ h => h) (Or.inl ⟨by rfl, ?_⟩) hHeld ?_ ?_
    rotate_left
    · rintro w' ⟨s0, s1, s2, s3⟩
      go_simp
      with_reducible rfl
    rotate_left
    · simp only [Act.put, List.setIfInBounds_toArray, List.set_cons_zero, List.set_cons_succ, i64_w, i32_w]
      rfl
    refine take_ (i := 10) (N := some 31) (v := ?_) (a' := ?_) #[true, true, true, true, true, true, true, true, true, true, true, false, false, false] rfl rfl (by kernel_rfl) (fun _ _ _ h => h) (Or.inl ⟨by rfl, ?_⟩) hHeld ?_ ?_
    rotate_left
    · rintro w' ⟨s0, s1, s2, s3⟩
      go_simp
      with_reducible rfl
    rotate_left
    · simp only [Act.put, List.setIfInBounds_toArray, List.set_cons_zero, List.set_cons_succ, i64_w, i32_w]
      rfl
    refine one_ (i := 11) (N := some 32) #[true, true, true, true, true, true, true, true, true, true, true, true, false, false] rfl rfl (by kernel_rfl) (by decide) (fun K hK => ?_)
    refine value_ (w1 := ?_) (v := ?_) (by rfl) rfl ?_ ?_
    rotate_left 2
    · go_simp
      constructor
      · rfl
      · rfl
    have HC2 := Aside0.mk (C_lit_int we we.heap.size rfl .i64 [a0_1, a0_2, a0_3] #[.int .i64 a0_1, .int .i64 a0_2, .int .i64 a0_3] rfl 3 (by simp))
    have HA2 := Aside0.mk ((Below.refl _ we).alloc (Nat.le_refl _) (.cells #[.int .i64 a0_1, .int .i64 a0_2, .int .i64 a0_3] 3))
    have HP4 := Aside0.mk (HPe.out.below HA2.out)
    have HM4 := Aside0.mk (HMe.out.after HA2.out)
    refine hK.out _ _ ⟨(HP4.out.blk.cell 0), (HM4.out.cell 1), (HM4.out.cell 2), (HM4.out.cell 3)⟩ (fun hHeld => ?_)
    clear hK K
    refine norm_ (a' := ?_) ?_ ?_
    rotate_left
    · show Act.put _ (some 32) _ = _
      simp only [Act.put, List.setIfInBounds_toArray, List.set_cons_zero, List.set_cons_succ, i64_w, i32_w]
      rfl
    refine last_ (i := 12) (N := some 33) #[true, true, true, true, true, true, true, true, true, true, true, true, true, false] rfl rfl (by kernel_rfl) (by decide) (fun K hK => ?_)
    refine goes_ Try.func34 (by kernel_rfl) rfl #[.pointer (some ⟨gw, 0, none⟩), .slice (some ⟨we.heap.size, 0, none⟩) 3 3] (by rfl) rfl rfl (by simp only [List.map_toArray, List.map_cons, List.map_nil]; rfl) ?_
    with_reducible refine (intP 3 3 _ HW2.out HP4.out rfl HC2.out (Nat.le_refl 3) (by simp)).mono ?_
    rintro e5 w5 ⟨rfl, hP5, hS5⟩
    refine ⟨_, rfl, ?_⟩
    have HP5 := Aside0.mk hP5
    clear hP5 hS5
    refine hK.out _ _ ?_
    clear hK K
    refine norm_ (a' := ?_) ?_ ?_
    rotate_left
    · show Act.put _ (some 33) _ = _
      simp only [Act.put, List.setIfInBounds_toArray, List.set_cons_zero, List.set_cons_succ, i64_w, i32_w]
      rfl
    refine last_ (i := 13) (N := some 34) #[true, true, true, true, true, true, true, true, true, true, true, true, true, true] rfl rfl (by kernel_rfl) (by decide) (fun K hK => ?_)
    refine goes_ Try.func32 (by kernel_rfl) rfl #[.pointer (some ⟨g, 0, none⟩), .int .i64 e2] (by rfl) rfl rfl (by simp only [List.map_toArray, List.map_cons, List.map_nil]; rfl) ?_
    with_reducible refine (message_pen_must.calls w2 _ g gw l2 e1 e2 _ HP5.out).mono ?_
    rintro e7 w7 ⟨rfl, hP7, hS7⟩
    refine ⟨_, rfl, ?_⟩
    have HP7 := Aside0.mk hP7
    clear hP7 hS7
    refine hK.out _ _ ?_
    clear hK K
    refine norm_ (a' := ?_) ?_ ?_
    rotate_left
    · show Act.put _ (some 34) _ = _
      simp only [Act.put, List.setIfInBounds_toArray, List.set_cons_zero, List.set_cons_succ, i64_w, i32_w]
      rfl
    refine done_ (by kernel_rfl) ?_
    clear hHeld HPe HMe HC2 HA2 HP4 HM4 HP5 HP6
    have HM7 := (HM2.out.after HP7.out.bel).cell 4
    have hm7 : w7.cell? ⟨w.heap.size, 4, none⟩ = some (.slice A0_4 l0_4.length c0_4) := HM7
    clear HM7
    go_wp2_with (first | (go_at_call 35; (with_reducible refine (message_pen_log.calls w2 _ g gw l2 (mustE e1 e2) A0_4 c0_4 l0_4 HP7.out HR2.out hc0 hn HS.out).mono ?_); rintro e w8 ⟨rfl, hP8⟩; rw [HW3.out] at hP8; have HP8 := Aside0.mk hP8; clear hP8) | (go_at_call 36; (with_reducible refine (message_pen_all.calls w2 _ g gw l3 e3 _ HP8.out).mono ?_); rintro e w9 ⟨v9, rfl, hR9, hB9⟩; have HR9 := Aside0.mk hR9; have HB9 := Aside0.mk hB9; clear hR9 hB9))
    go_ret2
    have hb8 : Below w.heap.size w w8 := HB2.out.trans (HP8.out.bel.mono HB2.out.size)
    exact ⟨_, rfl, Kd.R_lower HR9.out hb8.size, hb8.trans (HB9.out.mono hb8.size)⟩


end Go.Proofs.Ytlmlkcobkmhmbaa.Q
end

section
-- written by hprint.py (a program of these sessions) out of the translation; Lean checks it
namespace Go.Proofs.Ytlmlkcobkmhmbaa.Q
open Go.RowKit Go.Proofs.YtlmlkcobkmhmbaaW.Hb Go.Proofs.YtlmlkcobkmhmbaaW.PrintWords Go.Proofs.YtlmlkcobkmhmbaaW.PrintLast Go.Proofs.YtlmlkcobkmhmbaaW.PrintMore
attribute [local go_sem] max2_int min2_int max_two min_two max_three min_three max_four min_four   -- for this text's walks alone
set_option linter.unusedVariables false
set_option linter.unusedSimpArgs false

/-! ### wire_Reader_Left: function 69, by hand -/
set_option maxRecDepth 100000 in
theorem wire_Reader_Left.calls (S : Nat → Prop) (g : Nat) (xs : List Int) (ev : Int) (w : World) (hR : Rd w S g xs ev) :
    Calls Try.prog 69 #[.pointer (some ⟨g, 0, none⟩)] w fun e w' => e = .returned (.int .i64 (xs.length : Int)) ∧ w' = w := by
  obtain ⟨A, c, hb, hc, hS, hA, hC, hx⟩ := hR
  have HB := Aside0.mk hb
  clear hb hC hx hA
  go_enter Try.func69, Try.ntmps69
  go_wp2_with (first | (go_at_call 78; (with_reducible refine (wire_Reader_none.calls g _ _ true _ HB.out).mono ?_); rintro e2 w2 ⟨rfl, hw2⟩; subst w2) | (go_at_call 79; (with_reducible refine (wire_bytes_Left.calls g A xs.length c _ (HB.out.cell 0)).mono ?_); rintro e2 w2 ⟨rfl, hw2⟩; subst w2))
  go_ret
  exact ⟨rfl, rfl⟩


end Go.Proofs.Ytlmlkcobkmhmbaa.Q
end

section
-- written by hprint.py (a program of these sessions) out of the translation; Lean checks it
namespace Go.Proofs.Ytlmlkcobkmhmbaa.Q
open Go.RowKit Go.Proofs.YtlmlkcobkmhmbaaW.Hb Go.Proofs.YtlmlkcobkmhmbaaW.PrintWords Go.Proofs.YtlmlkcobkmhmbaaW.PrintLast Go.Proofs.YtlmlkcobkmhmbaaW.PrintMore
attribute [local go_sem] max2_int min2_int max_two min_two max_three min_three max_four min_four   -- for this text's walks alone
set_option linter.unusedVariables false
set_option linter.unusedSimpArgs false

/-! ### wire_Reader_Err: function 67, by hand -/
set_option maxRecDepth 100000 in
theorem wire_Reader_Err.calls (S : Nat → Prop) (g : Nat) (xs : List Int) (ev : Int) (w : World) (hR : Rd w S g xs ev) :
    Calls Try.prog 67 #[.pointer (some ⟨g, 0, none⟩)] w fun e w' => e = .returned (.int .i64 ev) ∧ w' = w := by
  obtain ⟨A, c, hb, hc, hS, hA, hC, hx⟩ := hR
  have HB := Aside0.mk hb
  have h2 : w.cell? ⟨g, 2, none⟩ = some (.int .i64 ev) := hb.cell 2
  clear hb hC hx hA
  go_enter Try.func67, Try.ntmps67
  go_wp2_with (go_at_call 78; (with_reducible refine (wire_Reader_none.calls g _ _ true _ HB.out).mono ?_); rintro e2 w2 ⟨rfl, hw2⟩; subst w2)
  go_ret
  exact ⟨rfl, rfl⟩


end Go.Proofs.Ytlmlkcobkmhmbaa.Q
end

section
-- written by hprint.py (a program of these sessions) out of the translation; Lean checks it
namespace Go.Proofs.Ytlmlkcobkmhmbaa.Q
open Go.RowKit Go.Proofs.YtlmlkcobkmhmbaaW.Hb Go.Proofs.YtlmlkcobkmhmbaaW.PrintWords Go.Proofs.YtlmlkcobkmhmbaaW.PrintLast Go.Proofs.YtlmlkcobkmhmbaaW.PrintMore
attribute [local go_sem] max2_int min2_int max_two min_two max_three min_three max_four min_four   -- for this text's walks alone
set_option linter.unusedVariables false
set_option linter.unusedSimpArgs false

/-! ### wire_Reader_Done: function 45, by hand -/
def rDone (xs : List Int) (e : Int) : Int := if e ≠ 0 then e else if 0 < xs.length then 21 else 0
set_option maxRecDepth 100000 in
theorem wire_Reader_Done.calls (S : Nat → Prop) (g : Nat) (xs : List Int) (ev : Int) (w : World) (hR : Rd w S g xs ev) :
    Calls Try.prog 45 #[.pointer (some ⟨g, 0, none⟩)] w fun e w' => e = .returned (.int .i64 (rDone xs ev)) ∧ w' = w := by
  have HR := Aside0.mk hR
  clear hR
  by_cases he : ev ≠ 0
  · have HS := Aside0.mk (show rDone xs ev = ev from if_pos he)
    have d1 : (ev == 0) = false := by simp [he]
    have d2 : (ev != 0) = true := by simp [he]
    clear he
    go_enter Try.func45, Try.ntmps45
    go_wp2_with (go_at_call 67; (with_reducible refine (wire_Reader_Err.calls S g xs ev _ HR.out).mono ?_); rintro e2 w2 ⟨rfl, hw2⟩; subst w2)
    go_ret
    rw [HS.out]
    exact ⟨rfl, rfl⟩
  · obtain rfl : ev = 0 := by omega
    by_cases h1 : 0 < xs.length
    · have HS := Aside0.mk (show rDone xs 0 = 21 by unfold rDone; rw [if_neg (by decide), if_pos h1])
      clear he
      go_enter Try.func45, Try.ntmps45
      go_wp2_with (first | (go_at_call 67; (with_reducible refine (wire_Reader_Err.calls S g xs 0 _ HR.out).mono ?_); rintro e2 w2 ⟨rfl, hw2⟩; subst w2) | (go_at_call 69; (with_reducible refine (wire_Reader_Left.calls S g xs 0 _ HR.out).mono ?_); rintro e2 w2 ⟨rfl, hw2⟩; subst w2))
      go_ret
      rw [HS.out]
      exact ⟨rfl, rfl⟩
    · have HS := Aside0.mk (show rDone xs 0 = 0 by unfold rDone; rw [if_neg (by decide), if_neg h1])
      have h2 : xs.length ≤ 0 := by omega
      obtain rfl : xs = [] := List.eq_nil_of_length_eq_zero (by omega)
      clear he h1
      go_enter Try.func45, Try.ntmps45
      go_wp2_with (first | (go_at_call 67; (with_reducible refine (wire_Reader_Err.calls S g [] 0 _ HR.out).mono ?_); rintro e2 w2 ⟨rfl, hw2⟩; subst w2) | (go_at_call 69; (with_reducible refine (wire_Reader_Left.calls S g [] 0 _ HR.out).mono ?_); rintro e2 w2 ⟨rfl, hw2⟩; subst w2))
      go_ret
      rw [HS.out]
      exact ⟨rfl, rfl⟩


end Go.Proofs.Ytlmlkcobkmhmbaa.Q
end

section
-- written by hprint.py (a program of these sessions) out of the translation; Lean checks it
namespace Go.Proofs.Ytlmlkcobkmhmbaa.Q
open Go.RowKit Go.Proofs.YtlmlkcobkmhmbaaW.Hb Go.Proofs.YtlmlkcobkmhmbaaW.PrintWords Go.Proofs.YtlmlkcobkmhmbaaW.PrintLast Go.Proofs.YtlmlkcobkmhmbaaW.PrintMore
attribute [local go_sem] max2_int min2_int max_two min_two max_three min_three max_four min_four   -- for this text's walks alone
set_option linter.unusedVariables false
set_option linter.unusedSimpArgs false

/-! ### wire_NewReader: function 41, by hand -/
set_option maxRecDepth 100000 in
theorem wire_NewReader.calls (A : Option Addr) (c : Nat) (l : List Int) (w : World) (hr : (Kd.int .u8).C w A l.length l) (hc : l.length ≤ c) (hl : l.length * 1 ≤ 140737488355328) (hx : ∀ x ∈ l, 0 ≤ x ∧ x ≤ 255) :
    Calls Try.prog 41 #[.slice A l.length c] w fun e w' => ∃ g, e = .returned (.pointer (some ⟨g, 0, none⟩)) ∧ Rd w' (fun k => w.heap.size ≤ k ∧ k < w'.heap.size) g l 0 ∧ w.heap.size ≤ g ∧ Below w.heap.size w w' := by
  have HC := Aside0.mk (slices_Clone_byte_byte.walk A l.length c l w rfl hr hc hl)
  have HX := Aside0.mk hx
  clear hr hx
  go_enter Try.func41, Try.ntmps41
  go_wp2_with (go_at_call 64; (with_reducible refine HC.out.mono ?_); rintro e2 w2 ⟨v2, rfl, hR2, hB2⟩; obtain ⟨A2, c2, rfl, hc2, hC2⟩ := Kd.R_reads hR2; have HR2 := Aside0.mk (Kd.R_bound hR2); have HB2 := Aside0.mk hB2; have HC2 := Aside0.mk hC2; clear hR2 hB2 hC2)
  go_ret
  have hs := HB2.out.size
  refine ⟨w2.heap.size, rfl, ⟨A2, c2, Blk.new w2 _ _, hc2, ⟨hs, by simp⟩, fun ad e => ?_, Kd.C_alloc HC2.out _, HX.out⟩, hs, HB2.out.alloc hs _⟩
  subst e
  have hb := HR2.out.1 ad.block rfl
  have h1 := hb.2.1
  have h2 := hb.2.2.1
  refine ⟨⟨h1, ?_⟩, by omega, ?_⟩ <;> (simp; omega)


end Go.Proofs.Ytlmlkcobkmhmbaa.Q
end

section
-- written by hprint.py (a program of these sessions) out of the translation; Lean checks it
namespace Go.Proofs.Ytlmlkcobkmhmbaa.Q
open Go.RowKit Go.Proofs.YtlmlkcobkmhmbaaW.Hb Go.Proofs.YtlmlkcobkmhmbaaW.PrintWords Go.Proofs.YtlmlkcobkmhmbaaW.PrintLast Go.Proofs.YtlmlkcobkmhmbaaW.PrintMore
attribute [local go_sem] max2_int min2_int max_two min_two max_three min_three max_four min_four   -- for this text's walks alone
set_option linter.unusedVariables false
set_option linter.unusedSimpArgs false

/-! ### wire_Reader_Text: function 68, by hand -/
theorem or_i64 (a b : Nat) (ha : a < 256) (hb : b < 256) : Go.bits .or .i64 ((a : Int) * 256) (b : Int) = ((a * 256 + b : Nat) : Int) := by
  have h1 : (BitVec.ofInt 64 (((a * 256 : Nat) : Int))).toNat = a * 256 := by
    rw [BitVec.ofInt_natCast, BitVec.toNat_ofNat]; exact Nat.mod_eq_of_lt (by omega)
  have h2 : (BitVec.ofInt 64 (b : Int)).toNat = b := by
    rw [BitVec.ofInt_natCast, BitVec.toNat_ofNat]; exact Nat.mod_eq_of_lt (by omega)
  have h3 := orB a b hb
  show IntKind.i64.wrap ((BitVec.ofInt 64 ((a : Int) * 256) ||| BitVec.ofInt 64 (b : Int)).toNat : Int) = _
  rw [show ((a : Int) * 256) = ((a * 256 : Nat) : Int) by omega, BitVec.toNat_or, h1, h2, h3]
  rw [i64_w]
  exact wrapI (n := ((a * 256 + b : Nat) : Int)) (by omega) (by omega)
def tlen (xs : List Int) : Nat := (rd xs (0 : Nat) * 256 + rd xs (1 : Nat)).toNat
def rText (xs : List Int) (e : Int) : ByteArray × List Int × Int := if e ≠ 0 then (ByteArray.empty, xs, e) else if xs.length < 2 then (ByteArray.empty, xs, 20) else if xs.length < 2 + tlen xs then (ByteArray.empty, xs, 20) else (strOfNums ((xs.drop 2).take (tlen xs)), xs.drop (2 + tlen xs), 0)
theorem add1 (ad : Addr) : ad.add 1 = ⟨ad.block, ad.off + 1, none⟩ := by simp [Addr.add]
theorem add0 (ad : Addr) : ad.add ((0 : Nat) : Int).toNat = ad := by cases ad; simp [Addr.add]
set_option maxRecDepth 100000 in
set_option maxHeartbeats 2000000 in
theorem wire_Reader_Text.calls (S : Nat → Prop) (g : Nat) (xs : List Int) (ev : Int) (w : World) (hR : Rd w S g xs ev) :
    Calls Try.prog 68 #[.pointer (some ⟨g, 0, none⟩)] w fun e w' => e = .returned (.string (rText xs ev).1) ∧ Rd w' S g (rText xs ev).2.1 (rText xs ev).2.2 ∧ Fr w w' (fun k => k = g) := by
  have qT : ∀ (w : World) (a : Option Addr) (n c n' c' : Nat), (binOp .eql 35 (.slice a n c) (.slice none n' c')).run Try.prog w = .ok (.bool a.isNone) w := fun w a n c n' c' => Lib.run_eql_slice_nil w _ _ a n c n' c' Try.underlying35
  have HR := Aside0.mk hR
  obtain ⟨A0, c0, hb, hc, hS, hA, hC, hx⟩ := hR
  have HB := Aside0.mk hb
  have h0 : w.cell? ⟨g, 0, none⟩ = some (.slice A0 xs.length c0) := hb.cell 0
  have HC := Aside0.mk hC
  have HA := Aside0.mk hA
  have HX := Aside0.mk hx
  have hm : xs.length ≤ 9223372036854775807 := hC.2.1
  clear hb hC hA hx
  by_cases he : ev ≠ 0
  · have HS := Aside0.mk (show rText xs ev = (ByteArray.empty, xs, ev) from if_pos he)
    have HE := Aside0.mk he
    clear he
    go_enter Try.func68, Try.ntmps68
    go_wp2_with (first | (go_at_call 78; (with_reducible refine (wire_Reader_none.calls g _ _ true _ HB.out).mono ?_); rintro e2 w2 ⟨rfl, hw2⟩; subst w2) | (go_at_call 65; (with_reducible refine (wire_Reader_take.calls_err S g xs ev 2 _ HR.out HE.out).mono ?_); rintro e2 w2 ⟨rfl, hw2⟩; subst w2))
    go_ret
    rw [HS.out]
    exact ⟨rfl, HR.out, Fr.of_below (Below.refl _ _) _⟩
  obtain rfl : ev = 0 := by omega
  by_cases h1 : xs.length < 2
  · have HS := Aside0.mk (show rText xs 0 = (ByteArray.empty, xs, 20) by unfold rText; rw [if_neg (by decide), if_pos h1])
    have HL := Aside0.mk (show (xs.length : Int) < 2 by omega)
    clear he h1
    go_enter Try.func68, Try.ntmps68
    go_wp2_with (first | (go_at_call 78; (with_reducible refine (wire_Reader_none.calls g _ _ true _ HB.out).mono ?_); rintro e2 w2 ⟨rfl, hw2⟩; subst w2) | (go_at_call 65; (with_reducible refine (wire_Reader_take.calls_end S g xs 2 _ HR.out HL.out).mono ?_); rintro e2 w2 ⟨rfl, hR2, hF2⟩; have HR2 := Aside0.mk hR2; have HF2 := Aside0.mk hF2; clear hR2 hF2))
    go_ret
    rw [HS.out]
    exact ⟨rfl, HR2.out, HF2.out⟩
  have hz0 := rd_in HX.out 0 (by omega)
  have hz1 := rd_in HX.out 1 (by omega)
  have hr0 := rd_take (xs := xs) (n := 2) (i := 0) (by omega)
  have hr1 := rd_take (xs := xs) (n := 2) (i := 1) (by omega)
  have hyl : (xs.take 2).length = 2 := by rw [List.length_take]; omega
  have hzl : (xs.drop 2).length = xs.length - 2 := by rw [List.length_drop]
  have HL := Aside0.mk (show 2 ≤ xs.length by omega)
  have hn : tlen xs = (rd xs (0 : Nat) * 256 + rd xs (1 : Nat)).toNat := rfl
  have HS1 := Aside0.mk (show xs.length < 2 + tlen xs → rText xs 0 = (ByteArray.empty, xs, 20) from fun h => by unfold rText; rw [if_neg (by decide), if_neg h1, if_pos h])
  have HS2 := Aside0.mk (show ¬ xs.length < 2 + tlen xs → rText xs 0 = (strOfNums ((xs.drop 2).take (tlen xs)), (xs.drop 2).drop (tlen xs), 0) from fun h => by unfold rText; rw [if_neg (by decide), if_neg h1, if_neg h, List.drop_drop])
  obtain ⟨x0, hx0⟩ : ∃ x0, rd xs (0 : Nat) = x0 := ⟨_, rfl⟩
  obtain ⟨x1, hx1⟩ : ∃ x1, rd xs (1 : Nat) = x1 := ⟨_, rfl⟩
  obtain ⟨y, hy⟩ : ∃ y, xs.take 2 = y := ⟨_, rfl⟩
  obtain ⟨z, hz⟩ : ∃ z, xs.drop 2 = z := ⟨_, rfl⟩
  obtain ⟨n, hnn⟩ : ∃ n, tlen xs = n := ⟨_, rfl⟩
  have HY := Aside0.mk hy
  have HZ := Aside0.mk hz
  rw [hx0] at hz0 hr0 hn
  rw [hx1] at hz1 hr1 hn
  rw [hy] at hr0 hr1 hyl
  rw [hz] at hzl HS2
  rw [hnn] at hn HS1 HS2
  obtain ⟨p1, p2⟩ := hz0
  obtain ⟨p3, p4⟩ := hz1
  have hy2 : 2 ≤ y.length := by omega
  have HR0 := Aside0.mk hr0
  have HR1 := Aside0.mk hr1
  have HZL := Aside0.mk hzl
  obtain ⟨a, rfl⟩ := Int.eq_ofNat_of_zero_le p1
  obtain ⟨b, rfl⟩ := Int.eq_ofNat_of_zero_le p3
  have hor := or_i64 a b (by omega) (by omega)
  have hn' : a * 256 + b = n := by omega
  rw [hn'] at hor
  have HOR := Aside0.mk hor
  clear he h1 hx0 hx1 hy hz hnn hr0 hr1 hyl hzl hor hn hn'
  by_cases h3 : xs.length < 2 + n
  · have HS := Aside0.mk (HS1.out h3)
    have HL3 := Aside0.mk (show (z.length : Int) < (n : Int) by have := HZL.out; have := HL.out; omega)
    clear HS1 HS2 h3
    go_enter Try.func68, Try.ntmps68
    go_upto_region 5 with (first | (go_at_call 78; (with_reducible refine (wire_Reader_none.calls g _ _ true _ HB.out).mono ?_); rintro e2 w2 ⟨rfl, hw2⟩; subst w2) | (go_at_call 65; (with_reducible refine (wire_Reader_take.calls_ok S g xs 2 2 rfl y z HY.out HZ.out _ HR.out HL.out).mono ?_); rintro e2 w2 ⟨A2, c2, rfl, hc2, hC2, hA2, hR2, hF2⟩; have HR2 := Aside0.mk hR2; have HF2 := Aside0.mk hF2; have HC2 := Aside0.mk hC2; clear hR2 hF2 hC2 hA2))
    obtain ⟨ad, e, hcd0⟩ := Kd.at_int HC2.out (0 : Nat) (by omega) (by omega)
    subst e
    obtain ⟨ad', e, hcd1⟩ := Kd.at_int HC2.out (1 : Nat) (by omega) (by omega)
    cases e
    rw [HR0.out, add0] at hcd0
    rw [HR1.out, Int.toNat_natCast, add1] at hcd1
    have q0 : 0 < y.length := by omega
    have q1 : 1 < (y.length : Int) := by omega
    replace hcd0 : w2.drew.cell? ad = some (.int .u8 a) := hcd0
    replace hcd1 : w2.drew.cell? ⟨ad.block, ad.off + 1, none⟩ = some (.int .u8 b) := hcd1
    have HRd2 := Aside0.mk (HR2.out.below ((Below.refl _ _).drew))
    have HFd2 := Aside0.mk (HF2.out.then_ (Fr.of_below ((Below.refl _ _).drew) (fun k => k = g)) (fun _ h => .inl h))
    have hor := HOR.out
    have hw1 : wrap64 (a : Int) = (a : Int) := wrapI (by omega) (by omega)
    have hw2 : wrap64 ((a : Int) * 256) = (a : Int) * 256 := wrapI (by omega) (by omega)
    have hw3 : wrap64 (b : Int) = (b : Int) := wrapI (by omega) (by omega)
    clear HC2 HR2 HF2
    go_upto_region 7 with (fail)
    refine start_ (n := 13) (S := fun w' => w'.cell? ad = some (.int .u8 a) ∧ w'.cell? ⟨ad.block, ad.off + 1, none⟩ = some (.int .u8 b)) (ds := [11]) #[false, false, false, false, false, false, false, false, false, false, false, false, false] (by kernel_rfl) rfl rfl ⟨hcd0, hcd1⟩ (fun hHeld => ?_)
    generalize w2.drew = wd at HRd2 HFd2 hcd0 hcd1 hHeld ⊢
    refine pure_ (i := 0) (N := some 17) (v := ?_) (a' := ?_) #[true, false, false, false, false, false, false, false, false, false, false, false, false] rfl rfl (by kernel_rfl) (fun _ _ _ h => h) (Or.inl ⟨by rfl, ?_⟩) ?_ ?_
    rotate_left
    · intro w'
      go_simp
      with_reducible rfl
    rotate_left
    · simp only [Act.put, List.setIfInBounds_toArray, List.set_cons_zero, List.set_cons_succ, i64_w, i32_w]
      rfl
    refine pure_ (i := 1) (N := some 18) (v := ?_) (a' := ?_) #[true, true, false, false, false, false, false, false, false, false, false, false, false] rfl rfl (by kernel_rfl) (fun _ _ _ h => h) (Or.inl ⟨by rfl, ?_⟩) ?_ ?_
    rotate_left
    · intro w'
      go_simp
      with_reducible rfl
    rotate_left
    · simp only [Act.put, List.setIfInBounds_toArray, List.set_cons_zero, List.set_cons_succ, i64_w, i32_w]
      rfl
    refine pure_ (i := 2) (N := some 19) (v := ?_) (a' := ?_) #[true, true, true, false, false, false, false, false, false, false, false, false, false] rfl rfl (by kernel_rfl) (fun _ _ _ h => h) (Or.inl ⟨by rfl, ?_⟩) ?_ ?_
    rotate_left
    · intro w'
      go_simp
      with_reducible rfl
    rotate_left
    · simp only [Act.put, List.setIfInBounds_toArray, List.set_cons_zero, List.set_cons_succ, i64_w, i32_w]
      rfl
    refine pure_ (i := 6) (N := some 23) (v := ?_) (a' := ?_) #[true, true, true, false, false, false, true, false, false, false, false, false, false] rfl rfl (by kernel_rfl) (fun _ _ _ h => h) (Or.inl ⟨by rfl, ?_⟩) ?_ ?_
    rotate_left
    · intro w'
      go_simp
      with_reducible rfl
    rotate_left
    · simp only [Act.put, List.setIfInBounds_toArray, List.set_cons_zero, List.set_cons_succ, i64_w, i32_w]
      rfl
    refine pure_ (i := 7) (N := some 24) (v := ?_) (a' := ?_) #[true, true, true, false, false, false, true, true, false, false, false, false, false] rfl rfl (by kernel_rfl) (fun _ _ _ h => h) (Or.inl ⟨by rfl, ?_⟩) ?_ ?_
    rotate_left
    · intro w'
      go_simp
      with_reducible rfl
    rotate_left
    · simp only [Act.put, List.setIfInBounds_toArray, List.set_cons_zero, List.set_cons_succ, i64_w, i32_w]
      rfl
    refine take_ (i := 3) (N := some 20) (v := ?_) (a' := ?_) #[true, true, true, true, false, false, true, true, false, false, false, false, false] rfl rfl (by kernel_rfl) (fun _ _ _ h => h) (Or.inl ⟨by rfl, ?_⟩) hHeld ?_ ?_
    rotate_left
    · rintro w' ⟨s0, s1⟩
      go_simp
      with_reducible rfl
    rotate_left
    · simp only [Act.put, List.setIfInBounds_toArray, List.set_cons_zero, List.set_cons_succ, i64_w, i32_w]
      rfl
    refine pure_ (i := 4) (N := some 21) (v := ?_) (a' := ?_) #[true, true, true, true, true, false, true, true, false, false, false, false, false] rfl rfl (by kernel_rfl) (fun _ _ _ h => h) (Or.inl ⟨by rfl, ?_⟩) ?_ ?_
    rotate_left
    · intro w'
      go_simp
      with_reducible rfl
    rotate_left
    · simp only [Act.put, List.setIfInBounds_toArray, List.set_cons_zero, List.set_cons_succ, i64_w, i32_w]
      rfl
    refine pure_ (i := 5) (N := some 22) (v := ?_) (a' := ?_) #[true, true, true, true, true, true, true, true, false, false, false, false, false] rfl rfl (by kernel_rfl) (fun _ _ _ h => h) (Or.inl ⟨by rfl, ?_⟩) ?_ ?_
    rotate_left
    · intro w'
      go_simp
      with_reducible rfl
    rotate_left
    · simp only [Act.put, List.setIfInBounds_toArray, List.set_cons_zero, List.set_cons_succ, i64_w, i32_w]
      rfl
    refine take_ (i := 8) (N := some 25) (v := ?_) (a' := ?_) #[true, true, true, true, true, true, true, true, true, false, false, false, false] rfl rfl (by kernel_rfl) (fun _ _ _ h => h) (Or.inl ⟨by rfl, ?_⟩) hHeld ?_ ?_
    rotate_left
    · rintro w' ⟨s0, s1⟩
      go_simp
      with_reducible rfl
    rotate_left
    · simp only [Act.put, List.setIfInBounds_toArray, List.set_cons_zero, List.set_cons_succ, i64_w, i32_w]
      rfl
    refine pure_ (i := 9) (N := some 26) (v := ?_) (a' := ?_) #[true, true, true, true, true, true, true, true, true, true, false, false, false] rfl rfl (by kernel_rfl) (fun _ _ _ h => h) (Or.inl ⟨by rfl, ?_⟩) ?_ ?_
    rotate_left
    · intro w'
      go_simp
      with_reducible rfl
    rotate_left
    · simp only [Act.put, List.setIfInBounds_toArray, List.set_cons_zero, List.set_cons_succ, i64_w, i32_w]
      rfl
    refine pure_ (i := 10) (N := some 27) (v := ?_) (a' := ?_) #[true, true, true, true, true, true, true, true, true, true, true, false, false] rfl rfl (by kernel_rfl) (fun _ _ _ h => h) (Or.inl ⟨by rfl, ?_⟩) ?_ ?_
    rotate_left
    · intro w'
      go_simp
      with_reducible rfl
    rotate_left
    · simp only [Act.put, List.setIfInBounds_toArray, List.set_cons_zero, List.set_cons_succ, i64_w, i32_w]
      rfl
    refine last_ (i := 11) (N := some 28) #[true, true, true, true, true, true, true, true, true, true, true, true, false] rfl rfl (by kernel_rfl) (by decide) (fun K hK => ?_)
    refine goes_ Try.func65 (by kernel_rfl) rfl #[.pointer (some ⟨g, 0, none⟩), .int .i64 (n : Int)] (by rfl) rfl rfl (by simp only [List.map_toArray, List.map_cons, List.map_nil]; rfl) ?_
    with_reducible refine (wire_Reader_take.calls_end S g z n _ HRd2.out HL3.out).mono ?_
    rintro e w4 ⟨rfl, hR4, hF4⟩
    refine ⟨_, rfl, ?_⟩
    have HR4 := Aside0.mk hR4
    have HF4 := Aside0.mk (HFd2.out.then_ hF4 (fun _ h => .inl h))
    clear hR4 hF4
    refine hK.out _ _ ?_
    clear hK K
    refine norm_ (a' := ?_) ?_ ?_
    rotate_left
    · show Act.put _ (some 28) _ = _
      simp only [Act.put, List.setIfInBounds_toArray, List.set_cons_zero, List.set_cons_succ, i64_w, i32_w]
      rfl
    refine pure_ (i := 12) (N := some 5) (v := ?_) (a' := ?_) #[true, true, true, true, true, true, true, true, true, true, true, true, true] rfl rfl (by kernel_rfl) (fun _ _ _ h => h) (Or.inl ⟨by rfl, ?_⟩) ?_ ?_
    rotate_left
    · intro w'
      go_simp
      with_reducible rfl
    rotate_left
    · simp only [Act.put, List.setIfInBounds_toArray, List.set_cons_zero, List.set_cons_succ, i64_w, i32_w]
      rfl
    refine done_ (by kernel_rfl) ?_
    clear hHeld hcd0 hcd1 hor hw1 hw2 hw3 HRd2
    obtain ⟨A4, c4, hb4, _, _, _, _, _⟩ := HR4.out
    have HB4 := Aside0.mk hb4
    have k0 : w4.cell? ⟨g, 0, none⟩ = some (.slice A4 z.length c4) := hb4.cell 0
    have k2 : w4.cell? ⟨g, 2, none⟩ = some (.int .i64 20) := hb4.cell 2
    have f0 : w4.frozen? ⟨g, 0, none⟩ = false := hb4.frozen 0
    have hcvn : ∀ (W : World) (c : Nat), (convert 35 9 (.slice none 0 c)).run Try.prog W = .ok (.string ByteArray.empty) W := fun W c => Kd.C_string (P := Try.prog) (src := 35) (dst := 9) (e := 5) (c := c) Try.underlying35 Try.underlying5 Try.underlying9 (Kd.C_nil (Kd.int .u8) W)
    clear hb4
    go_wp2
    go_ret
    rw [HS.out]
    have hA4 : ∀ ad, A0 = some ad → ad.block ≠ g ∧ ad.block < w4.heap.size := fun ad e => ⟨(HA.out ad e).2.1, Nat.lt_of_lt_of_le (HA.out ad e).2.2 HF4.out.1.size⟩
    have hC4 : (Kd.int .u8).C w4 A0 xs.length xs := C_keptb HC.out HF4.out.2 (fun ad e => ⟨(HA.out ad e).2.1, (HA.out ad e).2.2⟩)
    exact ⟨rfl, ⟨A0, c0, by simpa using HB4.out.set_ 0 (.slice A0 xs.length c0), hc, hS, fun ad e => ⟨(HA.out ad e).1, (hA4 ad e).1, by simpa [World.setCell] using (hA4 ad e).2⟩, Rd.far hC4 hA4 0 _, HX.out⟩, HF4.out.then_ (Fr.set_ w4 g 0 _) (fun _ h => .inl h)⟩
  · have HS := HS2.out h3
    have HL5 := Aside0.mk (show n ≤ z.length by have := HZL.out; omega)
    obtain ⟨y5, hy5⟩ : ∃ y5, z.take n = y5 := ⟨_, rfl⟩
    obtain ⟨z5, hz5⟩ : ∃ z5, z.drop n = z5 := ⟨_, rfl⟩
    rw [hy5, hz5] at HS
    have HY5 := Aside0.mk hy5
    have HZ5 := Aside0.mk hz5
    replace HS := Aside0.mk HS
    clear HS1 HS2 h3 hy5 hz5
    go_enter Try.func68, Try.ntmps68
    go_upto_region 5 with (first | (go_at_call 78; (with_reducible refine (wire_Reader_none.calls g _ _ true _ HB.out).mono ?_); rintro e2 w2 ⟨rfl, hw2⟩; subst w2) | (go_at_call 65; (with_reducible refine (wire_Reader_take.calls_ok S g xs 2 2 rfl y z HY.out HZ.out _ HR.out HL.out).mono ?_); rintro e2 w2 ⟨A2, c2, rfl, hc2, hC2, hA2, hR2, hF2⟩; have HR2 := Aside0.mk hR2; have HF2 := Aside0.mk hF2; have HC2 := Aside0.mk hC2; clear hR2 hF2 hC2 hA2))
    obtain ⟨ad, e, hcd0⟩ := Kd.at_int HC2.out (0 : Nat) (by omega) (by omega)
    subst e
    obtain ⟨ad', e, hcd1⟩ := Kd.at_int HC2.out (1 : Nat) (by omega) (by omega)
    cases e
    rw [HR0.out, add0] at hcd0
    rw [HR1.out, Int.toNat_natCast, add1] at hcd1
    have q0 : 0 < y.length := by omega
    have q1 : 1 < (y.length : Int) := by omega
    replace hcd0 : w2.drew.cell? ad = some (.int .u8 a) := hcd0
    replace hcd1 : w2.drew.cell? ⟨ad.block, ad.off + 1, none⟩ = some (.int .u8 b) := hcd1
    have HRd2 := Aside0.mk (HR2.out.below ((Below.refl _ _).drew))
    have HFd2 := Aside0.mk (HF2.out.then_ (Fr.of_below ((Below.refl _ _).drew) (fun k => k = g)) (fun _ h => .inl h))
    have hor := HOR.out
    have hw1 : wrap64 (a : Int) = (a : Int) := wrapI (by omega) (by omega)
    have hw2 : wrap64 ((a : Int) * 256) = (a : Int) * 256 := wrapI (by omega) (by omega)
    have hw3 : wrap64 (b : Int) = (b : Int) := wrapI (by omega) (by omega)
    clear HC2 HR2 HF2
    go_upto_region 7 with (fail)
    refine start_ (n := 13) (S := fun w' => w'.cell? ad = some (.int .u8 a) ∧ w'.cell? ⟨ad.block, ad.off + 1, none⟩ = some (.int .u8 b)) (ds := [11]) #[false, false, false, false, false, false, false, false, false, false, false, false, false] (by kernel_rfl) rfl rfl ⟨hcd0, hcd1⟩ (fun hHeld => ?_)
    generalize w2.drew = wd at HRd2 HFd2 hcd0 hcd1 hHeld ⊢
    refine pure_ (i := 0) (N := some 17) (v := ?_) (a' := ?_) #[true, false, false, false, false, false, false, false, false, false, false, false, false] rfl rfl (by kernel_rfl) (fun _ _ _ h => h) (Or.inl ⟨by rfl, ?_⟩) ?_ ?_
    rotate_left
    · intro w'
      go_simp
      with_reducible rfl
    rotate_left
    · simp only [Act.put, List.setIfInBounds_toArray, List.set_cons_zero, List.set_cons_succ, i64_w, i32_w]
      rfl
    refine pure_ (i := 1) (N := some 18) (v := ?_) (a' := ?_) #[true, true, false, false, false, false, false, false, false, false, false, false, false] rfl rfl (by kernel_rfl) (fun _ _ _ h => h) (Or.inl ⟨by rfl, ?_⟩) ?_ ?_
    rotate_left
    · intro w'
      go_simp
      with_reducible rfl
    rotate_left
    · simp only [Act.put, List.setIfInBounds_toArray, List.set_cons_zero, List.set_cons_succ, i64_w, i32_w]
      rfl
    refine pure_ (i := 2) (N := some 19) (v := ?_) (a' := ?_) #[true, true, true, false, false, false, false, false, false, false, false, false, false] rfl rfl (by kernel_rfl) (fun _ _ _ h => h) (Or.inl ⟨by rfl, ?_⟩) ?_ ?_
    rotate_left
    · intro w'
      go_simp
      with_reducible rfl
    rotate_left
    · simp only [Act.put, List.setIfInBounds_toArray, List.set_cons_zero, List.set_cons_succ, i64_w, i32_w]
      rfl
    refine pure_ (i := 6) (N := some 23) (v := ?_) (a' := ?_) #[true, true, true, false, false, false, true, false, false, false, false, false, false] rfl rfl (by kernel_rfl) (fun _ _ _ h => h) (Or.inl ⟨by rfl, ?_⟩) ?_ ?_
    rotate_left
    · intro w'
      go_simp
      with_reducible rfl
    rotate_left
    · simp only [Act.put, List.setIfInBounds_toArray, List.set_cons_zero, List.set_cons_succ, i64_w, i32_w]
      rfl
    refine pure_ (i := 7) (N := some 24) (v := ?_) (a' := ?_) #[true, true, true, false, false, false, true, true, false, false, false, false, false] rfl rfl (by kernel_rfl) (fun _ _ _ h => h) (Or.inl ⟨by rfl, ?_⟩) ?_ ?_
    rotate_left
    · intro w'
      go_simp
      with_reducible rfl
    rotate_left
    · simp only [Act.put, List.setIfInBounds_toArray, List.set_cons_zero, List.set_cons_succ, i64_w, i32_w]
      rfl
    refine take_ (i := 3) (N := some 20) (v := ?_) (a' := ?_) #[true, true, true, true, false, false, true, true, false, false, false, false, false] rfl rfl (by kernel_rfl) (fun _ _ _ h => h) (Or.inl ⟨by rfl, ?_⟩) hHeld ?_ ?_
    rotate_left
    · rintro w' ⟨s0, s1⟩
      go_simp
      with_reducible rfl
    rotate_left
    · simp only [Act.put, List.setIfInBounds_toArray, List.set_cons_zero, List.set_cons_succ, i64_w, i32_w]
      rfl
    refine pure_ (i := 4) (N := some 21) (v := ?_) (a' := ?_) #[true, true, true, true, true, false, true, true, false, false, false, false, false] rfl rfl (by kernel_rfl) (fun _ _ _ h => h) (Or.inl ⟨by rfl, ?_⟩) ?_ ?_
    rotate_left
    · intro w'
      go_simp
      with_reducible rfl
    rotate_left
    · simp only [Act.put, List.setIfInBounds_toArray, List.set_cons_zero, List.set_cons_succ, i64_w, i32_w]
      rfl
    refine pure_ (i := 5) (N := some 22) (v := ?_) (a' := ?_) #[true, true, true, true, true, true, true, true, false, false, false, false, false] rfl rfl (by kernel_rfl) (fun _ _ _ h => h) (Or.inl ⟨by rfl, ?_⟩) ?_ ?_
    rotate_left
    · intro w'
      go_simp
      with_reducible rfl
    rotate_left
    · simp only [Act.put, List.setIfInBounds_toArray, List.set_cons_zero, List.set_cons_succ, i64_w, i32_w]
      rfl
    refine take_ (i := 8) (N := some 25) (v := ?_) (a' := ?_) #[true, true, true, true, true, true, true, true, true, false, false, false, false] rfl rfl (by kernel_rfl) (fun _ _ _ h => h) (Or.inl ⟨by rfl, ?_⟩) hHeld ?_ ?_
    rotate_left
    · rintro w' ⟨s0, s1⟩
      go_simp
      with_reducible rfl
    rotate_left
    · simp only [Act.put, List.setIfInBounds_toArray, List.set_cons_zero, List.set_cons_succ, i64_w, i32_w]
      rfl
    refine pure_ (i := 9) (N := some 26) (v := ?_) (a' := ?_) #[true, true, true, true, true, true, true, true, true, true, false, false, false] rfl rfl (by kernel_rfl) (fun _ _ _ h => h) (Or.inl ⟨by rfl, ?_⟩) ?_ ?_
    rotate_left
    · intro w'
      go_simp
      with_reducible rfl
    rotate_left
    · simp only [Act.put, List.setIfInBounds_toArray, List.set_cons_zero, List.set_cons_succ, i64_w, i32_w]
      rfl
    refine pure_ (i := 10) (N := some 27) (v := ?_) (a' := ?_) #[true, true, true, true, true, true, true, true, true, true, true, false, false] rfl rfl (by kernel_rfl) (fun _ _ _ h => h) (Or.inl ⟨by rfl, ?_⟩) ?_ ?_
    rotate_left
    · intro w'
      go_simp
      with_reducible rfl
    rotate_left
    · simp only [Act.put, List.setIfInBounds_toArray, List.set_cons_zero, List.set_cons_succ, i64_w, i32_w]
      rfl
    refine last_ (i := 11) (N := some 28) #[true, true, true, true, true, true, true, true, true, true, true, true, false] rfl rfl (by kernel_rfl) (by decide) (fun K hK => ?_)
    refine goes_ Try.func65 (by kernel_rfl) rfl #[.pointer (some ⟨g, 0, none⟩), .int .i64 (n : Int)] (by rfl) rfl rfl (by simp only [List.map_toArray, List.map_cons, List.map_nil]; rfl) ?_
    with_reducible refine (wire_Reader_take.calls_ok S g z n n rfl y5 z5 HY5.out HZ5.out _ HRd2.out HL5.out).mono ?_
    rintro e w4 ⟨A5, c5, rfl, hc5, hC5, hA5, hR4, hF4⟩
    refine ⟨_, rfl, ?_⟩
    have HR4 := Aside0.mk hR4
    have HC5 := Aside0.mk hC5
    have HF4 := Aside0.mk (HFd2.out.then_ hF4 (fun _ h => .inl h))
    clear hR4 hF4 hC5 hA5
    refine hK.out _ _ ?_
    clear hK K
    refine norm_ (a' := ?_) ?_ ?_
    rotate_left
    · show Act.put _ (some 28) _ = _
      simp only [Act.put, List.setIfInBounds_toArray, List.set_cons_zero, List.set_cons_succ, i64_w, i32_w]
      rfl
    refine pure_ (i := 12) (N := some 5) (v := ?_) (a' := ?_) #[true, true, true, true, true, true, true, true, true, true, true, true, true] rfl rfl (by kernel_rfl) (fun _ _ _ h => h) (Or.inl ⟨by rfl, ?_⟩) ?_ ?_
    rotate_left
    · intro w'
      go_simp
      with_reducible rfl
    rotate_left
    · simp only [Act.put, List.setIfInBounds_toArray, List.set_cons_zero, List.set_cons_succ, i64_w, i32_w]
      rfl
    refine done_ (by kernel_rfl) ?_
    clear hHeld hcd0 hcd1 hor hw1 hw2 hw3 HRd2
    obtain ⟨A4, c4, hb4, _, _, _, _, _⟩ := HR4.out
    have k2 : w4.cell? ⟨g, 2, none⟩ = some (.int .i64 0) := hb4.cell 2
    have hcv := Kd.C_string (P := Try.prog) (src := 35) (dst := 9) (e := 5) (c := c5) Try.underlying35 Try.underlying5 Try.underlying9 HC5.out
    clear hb4
    go_wp2
    go_ret
    rw [HS.out]
    exact ⟨rfl, HR4.out, HF4.out⟩
theorem rByte_err {xs : List Int} {e : Int} (h : e ≠ 0) : rByte xs e = (0, xs, e) := if_pos h
theorem rByte_end {xs : List Int} (h : xs.length < 1) : rByte xs 0 = (0, xs, 20) := by unfold rByte; rw [if_neg (by decide), if_pos h]
theorem rByte_ok {xs : List Int} (h : ¬ xs.length < 1) : rByte xs 0 = (rd xs 0, xs.drop 1, 0) := by unfold rByte; rw [if_neg (by decide), if_neg h]
theorem rInt_err {xs : List Int} {e : Int} (h : e ≠ 0) : rInt xs e = (0, xs, e) := if_pos h
theorem rInt_end {xs : List Int} (h : xs.length < 8) : rInt xs 0 = (0, xs, 20) := by unfold rInt; rw [if_neg (by decide), if_pos h]
theorem rInt_ok {xs : List Int} (h : ¬ xs.length < 8) : rInt xs 0 = (wrap64 (numB 0 (xs.take 8) : Int), xs.drop 8, 0) := by unfold rInt; rw [if_neg (by decide), if_neg h]
theorem rText_err {xs : List Int} {e : Int} (h : e ≠ 0) : rText xs e = (ByteArray.empty, xs, e) := if_pos h
theorem rText_end {xs : List Int} (h : xs.length < 2) : rText xs 0 = (ByteArray.empty, xs, 20) := by unfold rText; rw [if_neg (by decide), if_pos h]
theorem rText_end2 {xs : List Int} (h : ¬ xs.length < 2) (h2 : xs.length < 2 + tlen xs) : rText xs 0 = (ByteArray.empty, xs, 20) := by unfold rText; rw [if_neg (by decide), if_neg h, if_pos h2]
theorem rText_ok {xs : List Int} (h : ¬ xs.length < 2) (h2 : ¬ xs.length < 2 + tlen xs) : rText xs 0 = (strOfNums ((xs.drop 2).take (tlen xs)), xs.drop (2 + tlen xs), 0) := by unfold rText; rw [if_neg (by decide), if_neg h, if_neg h2]
theorem str_bytes (s : ByteArray) : strOfNums (bytesOf s) = s := by
  cases s with
  | mk d =>
    unfold strOfNums bytesOf
    congr 1
    rw [List.map_map]
    have : d.toList.map ((fun n : Int => UInt8.ofNat n.toNat) ∘ fun b : UInt8 => (b.toNat : Int)) = d.toList := by
      conv => rhs; rw [← List.map_id d.toList]
      refine List.map_congr_left (fun b _ => ?_)
      simp
    rw [this]
theorem big8 (n : Int) : bigL n 8 = [n / 2 ^ 56 % 256, n / 2 ^ 48 % 256, n / 2 ^ 40 % 256, n / 2 ^ 32 % 256, n / 2 ^ 24 % 256, n / 2 ^ 16 % 256, n / 2 ^ 8 % 256, n % 256] := by
  simp [bigL, bigB, List.range_succ]
theorem bigL_B (n : Int) (m : Nat) : ∀ x ∈ bigL n m, 0 ≤ x ∧ x ≤ 255 := by
  intro x hx
  obtain ⟨i, _, rfl⟩ := List.mem_map.1 hx
  unfold bigB
  omega
theorem bytesOf_B (s : ByteArray) : ∀ x ∈ bytesOf s, 0 ≤ x ∧ x ≤ 255 := by
  intro x hx
  obtain ⟨b, _, rfl⟩ := List.mem_map.1 hx
  have := b.toNat_lt
  omega
theorem ints8_B (l : List Int) : ∀ x ∈ ints8 l, 0 ≤ x ∧ x ≤ 255 := by
  intro x hx
  obtain ⟨y, _, hy⟩ := List.mem_flatMap.1 hx
  exact bigL_B _ _ x hy
theorem textsB_B (l : List ByteArray) : ∀ x ∈ textsB l, 0 ≤ x ∧ x ≤ 255 := by
  intro x hx
  obtain ⟨y, _, hy⟩ := List.mem_flatMap.1 hx
  rcases List.mem_append.1 hy with h | h
  · exact bigL_B _ _ x h
  · exact bytesOf_B _ x h
theorem numB_eight (x : Int) (h0 : 0 ≤ x) (h1 : x < 18446744073709551616) : (numB 0 (bigL x 8) : Int) = x := by
  obtain ⟨n, rfl⟩ := Int.eq_ofNat_of_zero_le h0
  rw [big8]
  have e : ∀ k : Nat, ((n : Int) / 2 ^ k % 256).toNat = n / 2 ^ k % 256 := fun k => by
    have : ((n : Int) / 2 ^ k % 256) = ((n / 2 ^ k % 256 : Nat) : Int) := by
      rw [Int.natCast_emod, Int.natCast_ediv, Int.natCast_pow]
      rfl
    rw [this, Int.toNat_natCast]
  have e0 : ((n : Int) % 256).toNat = n % 256 := by omega
  simp only [numB, List.foldl_cons, List.foldl_nil, e, e0]
  omega
theorem rInt_back (x : Int) (rest : List Int) (h0 : -9223372036854775808 ≤ x) (h1 : x ≤ 9223372036854775807) : rInt (bigL (IntKind.u64.wrap x) 8 ++ rest) 0 = (x, rest, 0) := by
  have hl := bigL_len' (IntKind.u64.wrap x) 8
  rw [rInt_ok (by rw [List.length_append]; omega), List.take_append_of_le_length (by omega), List.take_of_length_le (by omega), List.drop_append_of_le_length (by omega), List.drop_eq_nil_of_le (by omega), List.nil_append]
  have hn := numB_eight (IntKind.u64.wrap x) (u64_wrap_lo x) (by rw [wrapU64]; omega)
  rw [hn, wrapU64]
  congr 1
  unfold wrap64
  omega
theorem tlen_back (s : ByteArray) (rest : List Int) (h : s.size ≤ 65535) : tlen (textB s ++ rest) = s.size := by
  have h2 : bigL (s.size : Int) 2 = [(s.size : Int) / 256 % 256, (s.size : Int) % 256] := by simp [bigL, bigB, List.range_succ]
  unfold tlen textB
  rw [h2]
  simp only [List.cons_append, List.nil_append, rd, Int.toNat_natCast, List.getD_cons_zero, List.getD_cons_succ]
  omega
theorem rText_back (s : ByteArray) (rest : List Int) (h : s.size ≤ 65535) : rText (textB s ++ rest) 0 = (s, rest, 0) := by
  have hb := bigL_len' (s.size : Int) 2
  have hs := bytesOf_length s
  have ht := tlen_back s rest h
  have hl : (textB s ++ rest).length = 2 + s.size + rest.length := by unfold textB; rw [List.length_append, List.length_append, hb, hs]
  have hd : (textB s ++ rest).drop 2 = bytesOf s ++ rest := by
    unfold textB
    rw [List.append_assoc, List.drop_append_of_le_length (by omega), List.drop_eq_nil_of_le (by omega), List.nil_append]
  rw [rText_ok (by omega) (by rw [ht]; omega), ht, ← List.drop_drop, hd, List.take_append_of_le_length (by omega), List.take_of_length_le (by omega), List.drop_append_of_le_length (by omega), List.drop_eq_nil_of_le (by omega), List.nil_append, str_bytes]
theorem rByte_back (b : Int) (rest : List Int) : rByte (b :: rest) 0 = (b, rest, 0) := by
  rw [rByte_ok (by simp)]
  rfl
theorem ints8_cons (x : Int) (l : List Int) : ints8 (x :: l) = bigL (IntKind.u64.wrap x) 8 ++ ints8 l := rfl
theorem textsB_cons (x : ByteArray) (l : List ByteArray) : textsB (x :: l) = textB x ++ textsB l := rfl
theorem drop_cons_ {α : Type} (l : List α) (j : Nat) (h : j < l.length) : l.drop j = l[j] :: l.drop (j + 1) := List.drop_eq_getElem_cons h
/-- One reader. -/
def OneR (w0 w : World) (g : Nat) (xs : List Int) (e : Int) : Prop := ∃ S, Rd w S g xs e ∧ (∀ k, S k → w0.heap.size ≤ k) ∧ Below w0.heap.size w0 w
section
variable {w0 w w' : World} {g : Nat} {l xs : List Int} {e : Int}
theorem OneR.bel (h : OneR w0 w g xs e) : Below w0.heap.size w0 w := by
  obtain ⟨_, _, _, h⟩ := h
  exact h
theorem OneR.below (h : OneR w0 w g xs e) (hb : Below w.heap.size w w') : OneR w0 w' g xs e := by
  obtain ⟨S, h1, h2, h4⟩ := h
  exact ⟨S, h1.below hb, h2, h4.trans (hb.mono h4.size)⟩
theorem OneR.step {S : Nat → Prop} {xs' : List Int} {e' : Int} (hg : S g) (h2 : ∀ k, S k → w0.heap.size ≤ k) (h4 : Below w0.heap.size w0 w) (h1 : Rd w' S g xs' e') (hf : Fr w w' (fun k => k = g)) : OneR w0 w' g xs' e' := ⟨S, h1, h2, h4.trans (hf.below h4.size (fun k hk => by subst hk; exact h2 _ hg))⟩
theorem Rd.own {S : Nat → Prop} (h : Rd w S g xs e) : S g := by
  obtain ⟨_, _, _, _, h, _⟩ := h
  exact h
theorem intR1 {v : Int} {xs' : List Int} (hx : rInt xs 0 = (v, xs', 0)) (h : OneR w0 w g xs 0) : Calls Try.prog 43 #[.pointer (some ⟨g, 0, none⟩)] w fun en w' => en = .returned (.int .i64 v) ∧ OneR w0 w' g xs' 0 := by
  obtain ⟨S, h1, h2, h4⟩ := h
  have := wire_Reader_Int.calls S g xs 0 w h1
  rw [hx] at this
  exact this.mono fun en w' ⟨he, hr, hf⟩ => ⟨he, OneR.step h1.own h2 h4 hr hf⟩
theorem textR1 {v : ByteArray} {xs' : List Int} (hx : rText xs 0 = (v, xs', 0)) (h : OneR w0 w g xs 0) : Calls Try.prog 68 #[.pointer (some ⟨g, 0, none⟩)] w fun en w' => en = .returned (.string v) ∧ OneR w0 w' g xs' 0 := by
  obtain ⟨S, h1, h2, h4⟩ := h
  have := wire_Reader_Text.calls S g xs 0 w h1
  rw [hx] at this
  exact this.mono fun en w' ⟨he, hr, hf⟩ => ⟨he, OneR.step h1.own h2 h4 hr hf⟩
theorem byteR1 {v : Int} {xs' : List Int} (hx : rByte xs 0 = (v, xs', 0)) (h : OneR w0 w g xs 0) : Calls Try.prog 42 #[.pointer (some ⟨g, 0, none⟩)] w fun en w' => en = .returned (.int .i64 v) ∧ OneR w0 w' g xs' 0 := by
  obtain ⟨S, h1, h2, h4⟩ := h
  have := wire_Reader_Byte.calls S g xs 0 w h1
  rw [hx] at this
  exact this.mono fun en w' ⟨he, hr, hf⟩ => ⟨he, OneR.step h1.own h2 h4 hr hf⟩
theorem doneR1 (h : OneR w0 w g xs e) : Calls Try.prog 45 #[.pointer (some ⟨g, 0, none⟩)] w fun en w' => en = .returned (.int .i64 (rDone xs e)) ∧ OneR w0 w' g xs e := by
  obtain ⟨S, h1, h2, h4⟩ := h
  exact (wire_Reader_Done.calls S g xs e w h1).mono fun en w' ⟨he, hb⟩ => ⟨he, hb ▸ ⟨S, h1, h2, h4⟩⟩
end
def isBb (x : Int) : Bool := decide (0 ≤ x) && decide (x ≤ 255)
theorem isBb_all {l : List Int} (h : l.all isBb = true) : ∀ x ∈ l, 0 ≤ x ∧ x ≤ 255 := fun x hx => by
  have := List.all_eq_true.1 h x hx
  simpa [isBb] using this


end Go.Proofs.Ytlmlkcobkmhmbaa.Q
end

section
-- written by hprint.py (a program of these sessions) out of the translation; Lean checks it
namespace Go.Proofs.Ytlmlkcobkmhmbaa.Q
open Go.RowKit Go.Proofs.YtlmlkcobkmhmbaaW.Hb Go.Proofs.YtlmlkcobkmhmbaaW.PrintWords Go.Proofs.YtlmlkcobkmhmbaaW.PrintLast Go.Proofs.YtlmlkcobkmhmbaaW.PrintMore
attribute [local go_sem] max2_int min2_int max_two min_two max_three min_three max_four min_four   -- for this text's walks alone
set_option linter.unusedVariables false
set_option linter.unusedSimpArgs false

/-! ### message_log: function 44, by hand -/
/-- The program's reader, told by what is left; its blocks lie from w0 on, below b. -/
def Or (w0 w : World) (b g : Nat) (xs : List Int) (e : Int) : Prop := ∃ S, Rd w S g xs e ∧ (∀ k, S k → w0.heap.size ≤ k ∧ k < b) ∧ b ≤ w.heap.size ∧ Below w0.heap.size w0 w
section
variable {w0 w w' : World} {b g : Nat} {xs xs' : List Int} {e e' : Int}
theorem Or.bel (h : Or w0 w b g xs e) : Below w0.heap.size w0 w := h.choose_spec.2.2.2
theorem Or.le (h : Or w0 w b g xs e) : b ≤ w.heap.size := h.choose_spec.2.2.1
theorem Or.g_in (h : Or w0 w b g xs e) : w0.heap.size ≤ g ∧ g < b := by
  obtain ⟨S, h1, h2, _⟩ := h
  exact h2 g h1.own
theorem Or.B (h : Or w0 w b g xs e) : ∀ x ∈ xs, 0 ≤ x ∧ x ≤ 255 := by
  obtain ⟨S, h1, _⟩ := h
  exact h1.B
theorem Or.kept {S2 : Nat → Prop} (h : Or w0 w b g xs e) (hk : Kept w w' S2) (hd : ∀ k, S2 k → b ≤ k) (hb : Below w0.heap.size w w') : Or w0 w' b g xs e := by
  obtain ⟨S, h1, h2, h3, h4⟩ := h
  exact ⟨S, h1.kept hk (fun k hS h => by have := (h2 k hS).2; have := hd k h; omega), h2, Nat.le_trans h3 hk.1, h4.trans hb⟩
theorem Or.below (h : Or w0 w b g xs e) (hb : Below b w w') : Or w0 w' b g xs e :=
  h.kept (S2 := fun k => b ≤ k) ⟨hb.size, fun i hi hn => hb.block i (by omega)⟩ (fun _ h => h) (hb.mono (by have := h.g_in; omega))
theorem Or.step {S : Nat → Prop} (h1 : Rd w S g xs e) (h2 : ∀ k, S k → w0.heap.size ≤ k ∧ k < b) (h3 : b ≤ w.heap.size) (h4 : Below w0.heap.size w0 w) (hr : Rd w' S g xs' e') (hf : Fr w w' (fun k => k = g)) : Or w0 w' b g xs' e' :=
  ⟨S, hr, h2, Nat.le_trans h3 hf.1.size, h4.trans (hf.below h4.size (fun k hk => by subst hk; exact (h2 _ h1.own).1))⟩
theorem byteQ {v : Int} (h : Or w0 w b g xs e) (hx : rByte xs e = (v, xs', e')) : Calls Try.prog 42 #[.pointer (some ⟨g, 0, none⟩)] w fun en w' => en = .returned (.int .i64 v) ∧ Or w0 w' b g xs' e' ∧ Fr w w' (fun k => k = g) := by
  obtain ⟨S, h1, h2, h3, h4⟩ := h
  have := wire_Reader_Byte.calls S g xs e w h1
  rw [hx] at this
  exact this.mono fun en w' ⟨he, hr, hf⟩ => ⟨he, Or.step h1 h2 h3 h4 hr hf, hf⟩
theorem intQ {v : Int} (h : Or w0 w b g xs e) (hx : rInt xs e = (v, xs', e')) : Calls Try.prog 43 #[.pointer (some ⟨g, 0, none⟩)] w fun en w' => en = .returned (.int .i64 v) ∧ Or w0 w' b g xs' e' ∧ Fr w w' (fun k => k = g) := by
  obtain ⟨S, h1, h2, h3, h4⟩ := h
  have := wire_Reader_Int.calls S g xs e w h1
  rw [hx] at this
  exact this.mono fun en w' ⟨he, hr, hf⟩ => ⟨he, Or.step h1 h2 h3 h4 hr hf, hf⟩
theorem textQ {v : ByteArray} (h : Or w0 w b g xs e) (hx : rText xs e = (v, xs', e')) : Calls Try.prog 68 #[.pointer (some ⟨g, 0, none⟩)] w fun en w' => en = .returned (.string v) ∧ Or w0 w' b g xs' e' ∧ Fr w w' (fun k => k = g) := by
  obtain ⟨S, h1, h2, h3, h4⟩ := h
  have := wire_Reader_Text.calls S g xs e w h1
  rw [hx] at this
  exact this.mono fun en w' ⟨he, hr, hf⟩ => ⟨he, Or.step h1 h2 h3 h4 hr hf, hf⟩
theorem errQ (h : Or w0 w b g xs e) : Calls Try.prog 67 #[.pointer (some ⟨g, 0, none⟩)] w fun en w' => en = .returned (.int .i64 e) ∧ w' = w := by
  obtain ⟨S, h1, h2, h3, h4⟩ := h
  exact wire_Reader_Err.calls S g xs e w h1
theorem doneQ (h : Or w0 w b g xs e) : Calls Try.prog 45 #[.pointer (some ⟨g, 0, none⟩)] w fun en w' => en = .returned (.int .i64 (rDone xs e)) ∧ w' = w := by
  obtain ⟨S, h1, h2, h3, h4⟩ := h
  exact wire_Reader_Done.calls S g xs e w h1
end
/-- The entries that a reader has. -/
def readL {α : Type} (mk : Int → ByteArray → α) : Nat → List Int → Int → List α → List α × List Int × Int
  | 0, xs, e, l => (l, xs, e)
  | n + 1, xs, e, l => if e ≠ 0 then (l, xs, e) else readL mk n (rText (rInt xs e).2.1 (rInt xs e).2.2).2.1 (rText (rInt xs e).2.1 (rInt xs e).2.2).2.2 (l ++ [mk (rInt xs e).1 (rText (rInt xs e).2.1 (rInt xs e).2.2).1])
def rdLog {α : Type} (mk : Int → ByteArray → α) (xs : List Int) (e : Int) : List α × List Int × Int := readL mk ((rByte xs e).1 * 256 + (rByte (rByte xs e).2.1 (rByte xs e).2.2).1).toNat (rByte (rByte xs e).2.1 (rByte xs e).2.2).2.1 (rByte (rByte xs e).2.1 (rByte xs e).2.2).2.2 []
theorem readL_0 {α : Type} (mk : Int → ByteArray → α) (xs : List Int) (e : Int) (l : List α) : readL mk 0 xs e l = (l, xs, e) := rfl
theorem readL_err {α : Type} (mk : Int → ByteArray → α) (n : Nat) (xs : List Int) {e : Int} (he : e ≠ 0) (l : List α) : readL mk n xs e l = (l, xs, e) := by
  cases n with
  | zero => rfl
  | succ n => rw [readL, if_pos he]
theorem readL_step {α : Type} (mk : Int → ByteArray → α) {n : Nat} {xs xs1 xs2 : List Int} {e1 e2 v : Int} {s : ByteArray} (h1 : rInt xs 0 = (v, xs1, e1)) (h2 : rText xs1 e1 = (s, xs2, e2)) (l : List α) : readL mk (n + 1) xs 0 l = readL mk n xs2 e2 (l ++ [mk v s]) := by
  rw [readL, if_neg (by decide), h1]
  simp only [h2]
theorem rdLog_is {α : Type} (mk : Int → ByteArray → α) {xs xs1 xs2 : List Int} {e e1 e2 v1 v2 : Int} {n : Nat} (h1 : rByte xs e = (v1, xs1, e1)) (h2 : rByte xs1 e1 = (v2, xs2, e2)) (hn : v1 * 256 + v2 = (n : Int)) : rdLog mk xs e = readL mk n xs2 e2 [] := by
  unfold rdLog
  simp only [h1, h2, hn, Int.toNat_natCast]
theorem rByte_in {xs xs1 : List Int} {e e1 v : Int} (hB : ∀ x ∈ xs, 0 ≤ x ∧ x ≤ 255) (h : rByte xs e = (v, xs1, e1)) : 0 ≤ v ∧ v ≤ 255 := by
  by_cases he : e ≠ 0
  · rw [rByte_err he] at h
    cases h
    omega
  · obtain rfl : e = 0 := by omega
    by_cases h1 : xs.length < 1
    · rw [rByte_end h1] at h
      cases h
      omega
    · rw [rByte_ok h1] at h
      cases h
      exact rd_in hB 0 (by omega)
def mkE (v : Int) (s : ByteArray) : S74 := ⟨v, s⟩
set_option maxRecDepth 100000 in
set_option maxHeartbeats 2000000 in
theorem message_log.calls (w0 w : World) (b g : Nat) (xs : List Int) (e : Int) (ls : List S74) (xs' : List Int) (e' : Int) (h : Or w0 w b g xs e) (hx : rdLog mkE xs e = (ls, xs', e')) :
    Calls Try.prog 44 #[.pointer (some ⟨g, 0, none⟩)] w fun en w' => ∃ v, en = .returned v ∧ Kd.R k74 74 w' w0.heap.size (fun k => w.heap.size ≤ k) v ls ∧ Or w0 w' b g xs' e' ∧ Kept w w' (fun k => k = g) := by
  obtain ⟨v1, xs1, e1, h1⟩ : ∃ v1 xs1 e1, rByte xs e = (v1, xs1, e1) := ⟨_, _, _, rfl⟩
  obtain ⟨v2, xs2, e2, h2⟩ : ∃ v2 xs2 e2, rByte xs1 e1 = (v2, xs2, e2) := ⟨_, _, _, rfl⟩
  have hv1 := rByte_in h.B h1
  have hv2 := rByte_in (fun x hx => by
    by_cases he : e ≠ 0
    · rw [rByte_err he] at h1; cases h1; exact h.B x hx
    · obtain rfl : e = 0 := by omega
      by_cases h3 : xs.length < 1
      · rw [rByte_end h3] at h1; cases h1; exact h.B x hx
      · rw [rByte_ok h3] at h1; cases h1; exact h.B x (List.mem_of_mem_drop hx)) h2
  obtain ⟨p1, p2⟩ := hv1
  obtain ⟨p3, p4⟩ := hv2
  obtain ⟨a1, rfl⟩ := Int.eq_ofNat_of_zero_le p1
  obtain ⟨a2, rfl⟩ := Int.eq_ofNat_of_zero_le p3
  have hor := or_i64 a1 a2 (by omega) (by omega)
  obtain ⟨n, hn⟩ : ∃ n : Nat, a1 * 256 + a2 = n := ⟨_, rfl⟩
  rw [hn] at hor
  have hn2 : n ≤ 65535 := by omega
  have HX := Aside0.mk (show readL mkE n xs2 e2 [] = (ls, xs', e') by rw [← rdLog_is mkE h1 h2 (by omega)]; exact hx)
  have hw2 : wrap64 ((a1 : Int) * 256) = (a1 : Int) * 256 := wrapI (by omega) (by omega)
  have HO := Aside0.mk h
  have H1 := Aside0.mk h1
  have H2 := Aside0.mk h2
  have hgi := h.g_in
  have hble := h.le
  clear h hx h1 h2 p1 p2 p3 p4 hn
  go_enter Try.func44, Try.ntmps44
  go_wp2_with (first | (go_at_call 42; (with_reducible refine (byteQ HO.out H1.out).mono ?_); rintro en w3 ⟨rfl, hO3, hF3⟩; have HO3 := Aside0.mk hO3; have HK3 := Aside0.mk hF3.2; clear hO3 hF3) | (go_at_call 42; (with_reducible refine (byteQ HO3.out H2.out).mono ?_); rintro en w4 ⟨rfl, hO4, hF4⟩; have HO4 := Aside0.mk hO4; have HK4 := Aside0.mk (HK3.out.then_ hF4.2 (fun _ h => .inl h)); clear hO4 hF4))
  clear hor hw2
  go_loopw [3, 4] (fun v i wr => ∃ (m : Nat) (ys : List Int) (ee : Int) (l : List S74), i = .int .i64 m ∧ l.length + m ≤ 65535 ∧ Aside0 (readL mkE m ys ee l = (ls, xs', e')) ∧ Aside0 (Or w0 wr b g ys ee) ∧ Aside0 (Kept w wr (fun k => k = g)) ∧ Aside0 (Kd.R k74 74 wr w0.heap.size (fun k => w.heap.size ≤ k) v l)) (fun _ i _ => (intOf i).toNat)
  case atStart => exact ⟨n, xs2, e2, [], rfl, by simpa using hn2, HX, HO4, HK4, ⟨Kd.R_nil _ _ _ _ _⟩⟩
  case round =>
    clear HX HO HO3 HO4 HK3 HK4 H1 H2 hn2
    obtain ⟨m, ys, ee, l, rfl, hlm, HX, HO, HK, HR⟩ := hrel
    rcases Nat.eq_zero_or_pos m with h0 | h0
    · subst h0
      have hX := HX.out
      rw [readL_0] at hX
      have HE := Aside0.mk hX
      clear hX
      have hz : ¬ (0 : Int) < ((0 : Nat) : Int) := by omega
      go_wp2
      go_ret
      obtain ⟨q1, hX⟩ := Prod.mk.inj HE.out
      obtain ⟨q2, q3⟩ := Prod.mk.inj hX
      exact ⟨_, rfl, by rw [← q1]; exact HR.out, by rw [← q2, ← q3]; exact HO.out, HK.out⟩
    · have hz : (0 : Int) < (m : Int) := by omega
      by_cases he : ee = 0
      · subst he
        obtain ⟨m, rfl⟩ : ∃ m', m = m' + 1 := ⟨m - 1, by omega⟩
        obtain ⟨v5, xs5, e5, h5⟩ : ∃ v1 xs1 e1, rInt ys 0 = (v1, xs1, e1) := ⟨_, _, _, rfl⟩
        obtain ⟨s6, xs6, e6, h6⟩ : ∃ v1 xs1 e1, rText xs5 e5 = (v1, xs1, e1) := ⟨_, _, _, rfl⟩
        have hX := HX.out
        rw [readL_step mkE h5 h6] at hX
        have HX2 := Aside0.mk hX
        have H5 := Aside0.mk h5
        have H6 := Aside0.mk h6
        have HLN := Aside0.mk (show (l.length + 1) * 24 ≤ 140737488355328 by omega)
        clear hX h5 h6 HX
        go_wp2_with (first | (go_at_call 67; (with_reducible refine (errQ HO.out).mono ?_); rintro en w4 ⟨rfl, hw4⟩; subst w4) | (go_at_call 43; (with_reducible refine (intQ HO.out H5.out).mono ?_); rintro en w5 ⟨rfl, hO5, hF5⟩; have HO5 := Aside0.mk hO5; have HK5 := Aside0.mk (HK.out.then_ hF5.2 (fun _ h => .inl h)); have HR5 := Aside0.mk (Kd.R_kept HR.out hF5.2 (fun k hk h => by omega)); clear hO5 hF5) | (go_at_call 68; (with_reducible refine (textQ HO5.out H6.out).mono ?_); rintro en w6 ⟨rfl, hO6, hF6⟩; have HO6 := Aside0.mk hO6; have HK6 := Aside0.mk (HK5.out.then_ hF6.2 (fun _ h => .inl h)); have HR6 := Aside0.mk (Kd.R_kept HR5.out hF6.2 (fun k hk h => by omega)); have HA6 := Aside0.mk ((Below.refl w6.heap.size w6).alloc (Nat.le_refl _) (.cells #[.int .i64 v5, .string s6] 74)); have HC6 := Aside0.mk (C_of_reps (d := k74) (Blk.new w6 74 #[.int .i64 v5, .string s6]) [mkE v5 s6] (Reps_one (c := [.int .i64 v5, .string s6]) (k74_mk _ (mkE v5 s6)) rfl) (by simp)); have HR7 := Aside0.mk (Kd.R_below HR6.out HA6.out); have HO7 := Aside0.mk (HO6.out.below (HA6.out.mono HO6.out.le)); have HK7 := Aside0.mk (HK6.out.below HA6.out); clear hO6 hF6) | ((with_reducible refine gate_builtin (b := .append) (xs := #[.tmp 20, .tmp 26]) rfl ?_); at_builtin; refine Kd.R_append_rows k74 (w0 := w0) (Rr := k74.K (w6.alloc (.cells #[.int .i64 v5, .string s6] 74))) w0.heap.size rfl (.tmp 20) (.tmp 26) 23 74 (.agg #[(.int .i64 0), (.string ⟨#[]⟩)]) 24 rfl Try.underlying23 info74 rfl (by decide) (by omega) u3 l [mkE v5 s6] (some ⟨w6.heap.size, 0, none⟩) 1 1 (fun k => w.heap.size ≤ k) (fun _ => False) rfl rfl HR7.out HC6.out (fun x cs hK => by have := k74_open hK; subst this; exact k74_mkM _ _ _ _) (fun _ hk => hk.elim) (fun k hk => Nat.le_trans HK7.out.1 hk) HO7.out.bel HO7.out.bel.size HLN.out ?_; intro v8 w8 hR8 hB8 hG8 hA8; have HR8 := Aside0.mk hR8; have HB8 := Aside0.mk hB8; have HG8 := Aside0.mk hG8; clear hR8 hB8 hG8 hA8))
        have HN := Aside0.mk (show ∀ k, u3.ownBlock = some k → w.heap.size ≤ k from fun k hk => HR.out.1 k hk)
        have HK8 := Aside0.mk (Kept.of_grown HG8.out HK7.out (fun k hk => .inr (HN.out k hk)))
        have HO8 := Aside0.mk (show Or w0 w8 b g xs6 e6 by
          obtain ⟨S, q1, q2, q3, q4⟩ := HO7.out
          exact ⟨S, q1.kept (S2 := fun k => u3.ownBlock = some k) ⟨HG8.out.size, fun i hi hn => HG8.out.block i hi (fun he => hn he.symm)⟩ (fun k hk h => by have := HN.out k h; have := (q2 k hk).2; omega), q2, Nat.le_trans q3 HG8.out.size, HB8.out⟩)
        go_roundw
        case rel => exact ⟨m, xs6, e6, l ++ [mkE v5 s6], by first | rfl | go_num, by rw [List.length_append, List.length_singleton]; omega, HX2, HO8, HK8, HR8⟩
        case measure => first | (simp [intOf]; done) | (simp [intOf]; omega)
      · have hd : (ee == 0) = false := by simp [he]
        have hX := HX.out
        rw [readL_err mkE m ys he] at hX
        have HE := Aside0.mk hX
        clear hX he
        go_wp2_with (go_at_call 67; (with_reducible refine (errQ HO.out).mono ?_); rintro en w4 ⟨rfl, hw4⟩; subst w4)
        go_ret
        obtain ⟨q1, hX⟩ := Prod.mk.inj HE.out
        obtain ⟨q2, q3⟩ := Prod.mk.inj hX
        exact ⟨_, rfl, by rw [← q1]; exact HR.out, by rw [← q2, ← q3]; exact HO.out, HK.out⟩


end Go.Proofs.Ytlmlkcobkmhmbaa.Q
end
