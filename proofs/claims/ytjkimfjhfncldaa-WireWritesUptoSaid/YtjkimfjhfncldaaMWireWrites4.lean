/- texts of one claim, merged: each in a section of its own -/
import Derived.Test.YtjkimfjhfncldaaMWireWrites3
section
-- written by hprint.py (a program of these sessions) out of the translation; Lean checks it
namespace Go.Proofs.Ytjkimfjhfncldaa.Q
open Go.RowKit Go.Proofs.YtjkimfjhfncldaaW.Hb Go.Proofs.YtjkimfjhfncldaaW.PrintWords Go.Proofs.YtjkimfjhfncldaaW.PrintLast Go.Proofs.YtjkimfjhfncldaaW.PrintMore
attribute [local go_sem] max2_int min2_int max_two min_two max_three min_three max_four min_four   -- for this text's walks alone
set_option linter.unusedVariables false
set_option linter.unusedSimpArgs false

/-! ### weighhouselaw01_WireWrites: function 7, by hand -/
def okPut (x : S49) : Bool := decide (x.f1.length ≤ 1048576) && decide (x.f2.length ≤ 1048576) && decide ((textsB x.f2).length ≤ 4194304)
def weighhouselaw01_WireWrites.f (l0 : List S49) : Option Bool := if l0.all okPut = true then some true else none
/-- Two writers, apart. -/
def TwoW (w0 w : World) (g g2 : Nat) (l l2 : List Int) : Prop := ∃ S S2, Wr w S g l ∧ Rw w S2 g2 l2 ∧ (∀ k, S k → w0.heap.size ≤ k ∧ k < w.heap.size ∧ ¬ S2 k) ∧ (∀ k, S2 k → w0.heap.size ≤ k ∧ k < w.heap.size) ∧ (l.length ≤ 1048576 ∧ l2.length ≤ 1048576) ∧ Below w0.heap.size w0 w
theorem TwoW.bel {w0 w : World} {g g2 : Nat} {l l2 : List Int} (h : TwoW w0 w g g2 l l2) : Below w0.heap.size w0 w := by
  obtain ⟨_, _, _, _, _, _, _, h⟩ := h
  exact h
theorem TwoW.below {w0 w w' : World} {g g2 : Nat} {l l2 : List Int} (h : TwoW w0 w g g2 l l2) (hb : Below w.heap.size w w') : TwoW w0 w' g g2 l l2 := by
  obtain ⟨S, S2, h1, h2, h3, h4, h5, h6⟩ := h
  have hs := hb.size
  exact ⟨S, S2, h1.below hb, h2.below hb, fun k hk => ⟨(h3 k hk).1, by have := (h3 k hk).2.1; omega, (h3 k hk).2.2⟩, fun k hk => ⟨(h4 k hk).1, by have := (h4 k hk).2; omega⟩, h5, h6.trans (hb.mono h6.size)⟩
theorem SS_in {S : Nat → Prop} {w0 w w' : World} (hs : w0.heap.size ≤ w.heap.size) (hw : w.heap.size ≤ w'.heap.size) (h : ∀ k, S k → w0.heap.size ≤ k ∧ k < w.heap.size) : ∀ k, SS S w w' k → w0.heap.size ≤ k ∧ k < w'.heap.size := by
  intro k hk
  rcases hk with hk | hk
  · have := h k hk
    omega
  · omega
theorem TwoW.first {w0 w w' : World} {S S2 : Nat → Prop} {g g2 : Nat} {l l2 : List Int} (h2 : Rw w S2 g2 l2) (h3 : ∀ k, S k → w0.heap.size ≤ k ∧ k < w.heap.size ∧ ¬ S2 k) (h4 : ∀ k, S2 k → w0.heap.size ≤ k ∧ k < w.heap.size) (hl2 : l2.length ≤ 1048576) (h6 : Below w0.heap.size w0 w) (h1 : Wr w' (SS S w w') g l) (hf : Fr w w' S) (hl : l.length ≤ 1048576) : TwoW w0 w' g g2 l l2 := by
  have hs := h6.size
  have hw := hf.1.size
  refine ⟨SS S w w', S2, h1, h2.kept hf.2 (fun k hk hS => (h3 k hS).2.2 hk), fun k hk => ?_, fun k hk => ⟨(h4 k hk).1, by have := (h4 k hk).2; omega⟩, ⟨hl, hl2⟩, h6.trans (hf.below hs (fun k hk => (h3 k hk).1))⟩
  refine ⟨(SS_in hs hw (fun k hk => ⟨(h3 k hk).1, (h3 k hk).2.1⟩) k hk).1, (SS_in hs hw (fun k hk => ⟨(h3 k hk).1, (h3 k hk).2.1⟩) k hk).2, fun h => ?_⟩
  rcases hk with hk | hk
  · exact (h3 k hk).2.2 h
  · have := (h4 k h).2
    omega
theorem TwoW.second {w0 w w' : World} {S S2 : Nat → Prop} {g g2 : Nat} {l l2 : List Int} (h1 : Wr w S g l) (h3 : ∀ k, S k → w0.heap.size ≤ k ∧ k < w.heap.size ∧ ¬ S2 k) (h4 : ∀ k, S2 k → w0.heap.size ≤ k ∧ k < w.heap.size) (hl : l.length ≤ 1048576) (h6 : Below w0.heap.size w0 w) (h2 : Rw w' (SS S2 w w') g2 l2) (hf : Fr w w' S2) (hl2 : l2.length ≤ 1048576) : TwoW w0 w' g g2 l l2 := by
  have hs := h6.size
  have hw := hf.1.size
  refine ⟨S, SS S2 w w', h1.kept hf.2 (fun k hk hS => (h3 k hk).2.2 hS), h2, fun k hk => ⟨(h3 k hk).1, by have := (h3 k hk).2.1; omega, fun h => ?_⟩, SS_in hs hw h4, ⟨hl, hl2⟩, h6.trans (hf.below hs (fun k hk => (h4 k hk).1))⟩
  rcases h with h | h
  · exact (h3 k hk).2.2 h
  · have := (h3 k hk).2.1
    omega
theorem wmore_len {l : List Int} (h : l.length ≤ 1048576) (p : List Int) : (wmore l p).1.length ≤ 1048576 := by
  unfold wmore
  split
  · exact h
  · rw [List.length_append]
    omega
theorem wbytes_len {l : List Int} (h : l.length ≤ 1048576) (p : List Int) : (wbytes l p).1.length ≤ 1048576 := by
  unfold wbytes
  split
  · exact h
  · exact wmore_len h p
theorem wtexts_len {l : List Int} (h : l.length ≤ 1048576) (p : List ByteArray) : (wtexts l p).1.length ≤ 1048576 := by
  unfold wtexts
  split
  · exact h
  · exact wmore_len h _
theorem at_PutN {w : World} {A : Option Addr} {n : Nat} {xs : List S49} (h : Kd.C k49 w A n xs) (i : Nat) (hi : i < xs.length) : ∃ ad A1 c1 A2 c2, A = some ad ∧ w.cell? (ad.add (i * 3)) = some (.int .i64 xs[i].f0) ∧ w.cell? ⟨(ad.add (i * 3)).block, (ad.add (i * 3)).off + 1, none⟩ = some (.slice A1 xs[i].f1.length c1) ∧ w.cell? ⟨(ad.add (i * 3)).block, (ad.add (i * 3)).off + 2, none⟩ = some (.slice A2 xs[i].f2.length c2) ∧ xs[i].f1.length ≤ c1 ∧ (Kd.int .i64).C w A1 xs[i].f1.length xs[i].f1 ∧ xs[i].f2.length ≤ c2 ∧ Kd.string.C w A2 xs[i].f2.length xs[i].f2 := by
  obtain ⟨ad, A1, c1, A2, c2, e, h0, h1, h2, r⟩ := at_T49 h i (by omega) (by have := h.1; omega)
  rw [Int.toNat_natCast] at h0 h1 h2
  have e2 : rd_T49 xs i = xs[i] := by simp [rd_T49, List.getD_eq_getElem?_getD, hi]
  rw [e2] at h0 h1 h2 r
  exact ⟨ad, A1, c1, A2, c2, e, h0, h1, h2, r⟩
theorem byteW {w0 w : World} {g g2 : Nat} {l l2 : List Int} (hT : TwoW w0 w g g2 l l2) (A : Option Addr) (c : Nat) (xs : List Int) (hr : (Kd.int .i64).C w A xs.length xs) (hc : xs.length ≤ c) (hsum : xs.length * 8 ≤ 140737488355328) :
    Calls Try.prog 23 #[.pointer (some ⟨g, 0, none⟩), .slice A xs.length c] w fun e w' => e = .returned (.int .i64 (wbytes l xs).2) ∧ TwoW w0 w' g g2 (wbytes l xs).1 l2 := by
  obtain ⟨S, S2, h1, h2, h3, h4, ⟨hl, hl2⟩, h6⟩ := hT
  exact (wire_Writer_Byte.calls S g l A xs.length c xs w rfl hr hc hsum h1 hl).mono fun e w' ⟨he, hW, hF⟩ => ⟨he, TwoW.first h2 h3 h4 hl2 h6 hW hF (wbytes_len hl xs)⟩
theorem intW {w0 w : World} {g g2 : Nat} {l l2 : List Int} (hT : TwoW w0 w g g2 l l2) (A : Option Addr) (c : Nat) (xs : List Int) (hr : (Kd.int .i64).C w A xs.length xs) (hc : xs.length ≤ c) (hsum : xs.length * 8 ≤ 140737488355328) :
    Calls Try.prog 25 #[.pointer (some ⟨g, 0, none⟩), .slice A xs.length c] w fun e w' => e = .returned (.int .i64 (wmore l (ints8 xs)).2) ∧ TwoW w0 w' g g2 (wmore l (ints8 xs)).1 l2 := by
  obtain ⟨S, S2, h1, h2, h3, h4, ⟨hl, hl2⟩, h6⟩ := hT
  exact (wire_Writer_Int.calls S g l A xs.length c xs w rfl hr hc hsum h1 hl).mono fun e w' ⟨he, hW, hF⟩ => ⟨he, TwoW.first h2 h3 h4 hl2 h6 hW hF (wmore_len hl _)⟩
theorem textW {w0 w : World} {g g2 : Nat} {l l2 : List Int} (hT : TwoW w0 w g g2 l l2) (A : Option Addr) (c : Nat) (xs : List ByteArray) (hr : Kd.string.C w A xs.length xs) (hc : xs.length ≤ c) (hsum : (textsB xs).length * 1 ≤ 140737488355328) (hcnt : xs.length * 48 ≤ 140737488355328) :
    Calls Try.prog 27 #[.pointer (some ⟨g, 0, none⟩), .slice A xs.length c] w fun e w' => e = .returned (.int .i64 (wtexts l xs).2) ∧ TwoW w0 w' g g2 (wtexts l xs).1 l2 := by
  obtain ⟨S, S2, h1, h2, h3, h4, ⟨hl, hl2⟩, h6⟩ := hT
  exact (wire_Writer_Text.calls S g l A xs.length c xs w rfl hr hc hsum hcnt h1 hl).mono fun e w' ⟨he, hW, hF⟩ => ⟨he, TwoW.first h2 h3 h4 hl2 h6 hW hF (wtexts_len hl xs)⟩
theorem byteR {w0 w : World} {g g2 : Nat} {l l2 : List Int} (hT : TwoW w0 w g g2 l l2) (A : Option Addr) (c : Nat) (xs : List Int) (hr : (Kd.int .i64).C w A xs.length xs) (hc : xs.length ≤ c) (hsum : xs.length * 8 ≤ 140737488355328) :
    Calls Try.prog 24 #[.pointer (some ⟨g2, 0, none⟩), .slice A xs.length c] w fun e w' => e = .returned (.int .i64 (wbytes l2 xs).2) ∧ TwoW w0 w' g g2 l (wbytes l2 xs).1 := by
  obtain ⟨S, S2, h1, h2, h3, h4, ⟨hl, hl2⟩, h6⟩ := hT
  exact (weighhouseref01_Writer_Byte.calls S2 g2 l2 A xs.length c xs w rfl hr hc hsum h2 hl2).mono fun e w' ⟨he, hW, hF⟩ => ⟨he, TwoW.second h1 h3 h4 hl h6 hW hF (wbytes_len hl2 xs)⟩
theorem intR {w0 w : World} {g g2 : Nat} {l l2 : List Int} (hT : TwoW w0 w g g2 l l2) (A : Option Addr) (c : Nat) (xs : List Int) (hr : (Kd.int .i64).C w A xs.length xs) (hc : xs.length ≤ c) (hsum : xs.length * 8 ≤ 140737488355328) :
    Calls Try.prog 26 #[.pointer (some ⟨g2, 0, none⟩), .slice A xs.length c] w fun e w' => e = .returned (.int .i64 (wmore l2 (ints8 xs)).2) ∧ TwoW w0 w' g g2 l (wmore l2 (ints8 xs)).1 := by
  obtain ⟨S, S2, h1, h2, h3, h4, ⟨hl, hl2⟩, h6⟩ := hT
  exact (weighhouseref01_Writer_Int.calls S2 g2 l2 A xs.length c xs w rfl hr hc hsum h2 hl2).mono fun e w' ⟨he, hW, hF⟩ => ⟨he, TwoW.second h1 h3 h4 hl h6 hW hF (wmore_len hl2 _)⟩
theorem textR {w0 w : World} {g g2 : Nat} {l l2 : List Int} (hT : TwoW w0 w g g2 l l2) (A : Option Addr) (c : Nat) (xs : List ByteArray) (hr : Kd.string.C w A xs.length xs) (hc : xs.length ≤ c) (hsum : (textsB xs).length * 1 ≤ 140737488355328) :
    Calls Try.prog 28 #[.pointer (some ⟨g2, 0, none⟩), .slice A xs.length c] w fun e w' => e = .returned (.int .i64 (wtexts l2 xs).2) ∧ TwoW w0 w' g g2 l (wtexts l2 xs).1 := by
  obtain ⟨S, S2, h1, h2, h3, h4, ⟨hl, hl2⟩, h6⟩ := hT
  exact (weighhouseref01_Writer_Text.calls S2 g2 l2 A xs.length c xs w rfl hr hc hsum h2 hl2).mono fun e w' ⟨he, hW, hF⟩ => ⟨he, TwoW.second h1 h3 h4 hl h6 hW hF (wtexts_len hl2 xs)⟩
theorem bytesW {w0 w : World} {g g2 : Nat} {l l2 : List Int} (hT : TwoW w0 w g g2 l l2) : Calls Try.prog 29 #[.pointer (some ⟨g, 0, none⟩)] w (OwnRes (Kd.int .u8) 5 w l) := by
  obtain ⟨S, S2, h1, h2, h3, h4, ⟨hl, hl2⟩, h6⟩ := hT
  exact wire_Writer_Bytes.calls S g l w h1 hl
/-- The document's writer's bytes, where they lie. -/
theorem TwoW.refB {w0 w : World} {g g2 : Nat} {l l2 : List Int} (hT : TwoW w0 w g g2 l l2) : ∃ A c, w.cell? ⟨g2, 0, none⟩ = some (.slice A l2.length c) ∧ (Kd.int .u8).C w A l2.length l2 := by
  obtain ⟨S, S2, h1, ⟨v, hb, hS, hR⟩, h3, h4, ⟨hl, hl2⟩, h6⟩ := hT
  obtain ⟨A, c, rfl, hc, hC⟩ := Kd.R_reads hR
  exact ⟨A, c, hb.cell 0, hC⟩
/-- Two writers whose blocks lie below b. -/
def TwoK (w0 w : World) (b g g2 : Nat) (l l2 : List Int) : Prop := ∃ S S2, Wr w S g l ∧ Rw w S2 g2 l2 ∧ (∀ k, S k → w0.heap.size ≤ k ∧ k < b ∧ ¬ S2 k) ∧ (∀ k, S2 k → w0.heap.size ≤ k ∧ k < b) ∧ (l.length ≤ 1048576 ∧ l2.length ≤ 1048576) ∧ Below w0.heap.size w0 w ∧ b ≤ w.heap.size
theorem TwoW.keep {w0 w w' : World} {g g2 : Nat} {l l2 : List Int} (h : TwoW w0 w g g2 l l2) (hb : Below w.heap.size w w') : TwoK w0 w' w.heap.size g g2 l l2 := by
  obtain ⟨S, S2, h1, h2, h3, h4, h5, h6⟩ := h
  exact ⟨S, S2, h1.below hb, h2.below hb, h3, h4, h5, h6.trans (hb.mono h6.size), hb.size⟩
theorem TwoK.two {w0 w : World} {b g g2 : Nat} {l l2 : List Int} (h : TwoK w0 w b g g2 l l2) : TwoW w0 w g g2 l l2 := by
  obtain ⟨S, S2, h1, h2, h3, h4, h5, h6, h7⟩ := h
  exact ⟨S, S2, h1, h2, fun k hk => ⟨(h3 k hk).1, by have := (h3 k hk).2.1; omega, (h3 k hk).2.2⟩, fun k hk => ⟨(h4 k hk).1, by have := (h4 k hk).2; omega⟩, h5, h6⟩
theorem TwoK.below {w0 w w' : World} {b g g2 : Nat} {l l2 : List Int} (h : TwoK w0 w b g g2 l l2) (hb : Below w.heap.size w w') : TwoK w0 w' b g g2 l l2 := by
  obtain ⟨S, S2, h1, h2, h3, h4, h5, h6, h7⟩ := h
  have hs := hb.size
  exact ⟨S, S2, h1.below hb, h2.below hb, h3, h4, h5, h6.trans (hb.mono h6.size), by omega⟩
theorem TwoK.set_ {w0 w : World} {b g g2 : Nat} {l l2 : List Int} (h : TwoK w0 w b g g2 l l2) {p : Addr} (hp : b ≤ p.block) (hp0 : w0.heap.size ≤ p.block) (u : Value) : TwoK w0 (w.setCell p u) b g g2 l l2 := by
  obtain ⟨S, S2, h1, h2, h3, h4, h5, h6, h7⟩ := h
  have hk : Kept w (w.setCell p u) (fun k => k = p.block) := Kept.setCell (S := fun k => k = p.block) (Kept.refl w _) (.inl rfl) u
  refine ⟨S, S2, h1.kept hk (fun k hS he => ?_), h2.kept hk (fun k hS he => ?_), h3, h4, h5, h6.setCell hp0 u, by simpa [World.setCell] using h7⟩
  · have := (h3 k hS).2.1
    omega
  · have := (h4 k hS).2
    omega
set_option maxRecDepth 100000 in
set_option maxHeartbeats 4000000 in
theorem weighhouselaw01_WireWrites.calls (A0 : Option Addr) (c0 : Nat) (l0 : List S49) (r : Bool) (w : World) (hr0 : Kd.C k49 w A0 l0.length l0) (hc0 : l0.length ≤ c0) (h : weighhouselaw01_WireWrites.f l0 = some r) :
    Calls Try.prog 7 #[.slice A0 l0.length c0] w fun e w' => e = .returned (.bool r) ∧ Below w.heap.size w w' := by
  have hm : l0.length ≤ 9223372036854775807 := hr0.2.1
  have HR := Aside0.mk hr0
  clear hr0
  unfold weighhouselaw01_WireWrites.f at h
  split at h
  rotate_left
  · cases h
  rename_i hall
  obtain rfl := Option.some.inj h
  have HALL := Aside0.mk hall
  clear hall h
  go_enter Try.func7, Try.ntmps7
  go_upto_region 2 with (go_at_call 22; (with_reducible refine (wire_NewWriter.calls w).mono ?_); rintro e w1 ⟨g, rfl, hW1, hg1, hB1⟩; have HW1 := Aside0.mk hW1; have HB1 := Aside0.mk hB1; clear hW1 hB1)
  have HB2 := Aside0.mk (HB1.out.alloc HB1.out.size (.cells #[.slice none 0 0] 45))
  have HT2 : TwoW w (w1.alloc (.cells #[.slice none 0 0] 45)) g w1.heap.size [] [] := ⟨fun k => k = g, fun k => k = w1.heap.size, HW1.out.below ((Below.refl _ _).alloc (Nat.le_refl _) _), ⟨.slice none 0 0, Blk.new w1 _ _, rfl, Kd.R_nil _ _ _ _ _⟩, fun k hk => by
    subst hk
    have := HW1.out.lt
    simp
    omega, fun k hk => by
    subst hk
    have := HB1.out.size
    simp
    omega, ⟨by simp, by simp⟩, HB2.out⟩
  have HT2 := Aside0.mk HT2
  go_wp2_with (go_at_call 19; (with_reducible refine (weighhouselaw01_knows.calls true _ rfl).mono ?_); rintro e w3 ⟨rfl, hB3⟩; have HT3 := Aside0.mk (HT2.out.below hB3); clear hB3)
  clear HT2 HB2 HW1 HB1 hg1
  obtain ⟨g2, hg2⟩ : ∃ g2, w1.heap.size = g2 := ⟨_, rfl⟩
  rw [hg2] at HT3 ⊢
  clear hg2
  go_loopw [5] (fun i wr => ∃ (j : Nat) (l : List Int), j ≤ l0.length ∧ i = .int .i64 j ∧ Aside0 (TwoW w wr g g2 l l)) (fun i _ => l0.length - (intOf i).toNat)
  case atStart => exact ⟨0, [], Nat.zero_le _, rfl, HT3⟩
  case round =>
    clear HT3
    obtain ⟨j, l, hj, rfl, HT⟩ := hrel
    by_cases hlt : j < l0.length
    · obtain ⟨ad, A1, c1, A2, c2, e, hk0, hk1, hk2, hl1, hC1, hl2, hC2⟩ := at_PutN HR.out j hlt
      cases e
      have hokp := List.all_eq_true.1 HALL.out _ (List.getElem_mem hlt)
      obtain ⟨x, hx⟩ : ∃ x, x = l0[j] := ⟨_, rfl⟩
      rw [← hx] at hk0 hk1 hk2 hl1 hC1 hl2 hC2 hokp
      clear hx
      obtain ⟨f0, f1, f2⟩ := x
      dsimp only at hk0 hk1 hk2 hl1 hC1 hl2 hC2
      simp only [okPut, Bool.and_eq_true, decide_eq_true_eq] at hokp
      obtain ⟨⟨hs1, hs2⟩, hs3⟩ := hokp
      have HK0 := Aside0.mk hk0
      have HK1 := Aside0.mk hk1
      have HK2 := Aside0.mk hk2
      have HC1 := Aside0.mk hC1
      have HC2 := Aside0.mk hC2
      have HS1 := Aside0.mk (show f1.length * 8 ≤ 140737488355328 by omega)
      have HS2 := Aside0.mk (show f2.length * 48 ≤ 140737488355328 by omega)
      have HS3 := Aside0.mk (show (textsB f2).length * 1 ≤ 140737488355328 by omega)
      replace hk0 := (HT.out.bel.cell (World.block_lt_of_cell? w _ hk0)).trans hk0
      clear hk1 hk2 hC1 hC2
      by_cases h0 : f0 = 0
      · have d1 : (f0 == 0) = true := by simp [h0]
        clear h0
        go_upto_region 12 with (fail)
        have HTd := Aside0.mk (HT.out.below ((Below.refl _ _).drew))
        clear HT hk0
        refine start_ (n := 19) (S := fun w' => w'.cell? ⟨(ad.add (j * 3)).block, (ad.add (j * 3)).off + 1, none⟩ = some (.slice A1 f1.length c1)) (ds := []) #[false, false, false, false, false, false, false, false, false, false, false, false, false, false, false, false, false, false, false] (by kernel_rfl) rfl rfl (((HTd.out.bel.cell (World.block_lt_of_cell? w _ HK1.out)).trans HK1.out)) (fun hHeld => ?_)
        generalize wr.drew = wd at HTd hHeld ⊢
        refine pure_ (i := 0) (N := some 49) (v := ?_) (a' := ?_) #[true, false, false, false, false, false, false, false, false, false, false, false, false, false, false, false, false, false, false] rfl rfl (by kernel_rfl) (fun _ _ _ h => h) (Or.inl ⟨by rfl, ?_⟩) ?_ ?_
        rotate_left
        · intro w'
          go_simp
          with_reducible rfl
        rotate_left
        · simp only [Act.put, List.setIfInBounds_toArray, List.set_cons_zero, List.set_cons_succ, i64_w, i32_w]
          rfl
        refine pure_ (i := 2) (N := some 51) (v := ?_) (a' := ?_) #[true, false, true, false, false, false, false, false, false, false, false, false, false, false, false, false, false, false, false] rfl rfl (by kernel_rfl) (fun _ _ _ h => h) (Or.inl ⟨by rfl, ?_⟩) ?_ ?_
        rotate_left
        · intro w'
          go_simp
          with_reducible rfl
        rotate_left
        · simp only [Act.put, List.setIfInBounds_toArray, List.set_cons_zero, List.set_cons_succ, i64_w, i32_w]
          rfl
        refine pure_ (i := 3) (N := some 52) (v := ?_) (a' := ?_) #[true, false, true, true, false, false, false, false, false, false, false, false, false, false, false, false, false, false, false] rfl rfl (by kernel_rfl) (fun _ _ _ h => h) (Or.inl ⟨by rfl, ?_⟩) ?_ ?_
        rotate_left
        · intro w'
          go_simp
          with_reducible rfl
        rotate_left
        · simp only [Act.put, List.setIfInBounds_toArray, List.set_cons_zero, List.set_cons_succ, i64_w, i32_w]
          rfl
        refine pure_ (i := 4) (N := some 53) (v := ?_) (a' := ?_) #[true, false, true, true, true, false, false, false, false, false, false, false, false, false, false, false, false, false, false] rfl rfl (by kernel_rfl) (fun _ _ _ h => h) (Or.inl ⟨by rfl, ?_⟩) ?_ ?_
        rotate_left
        · intro w'
          go_simp
          with_reducible rfl
        rotate_left
        · simp only [Act.put, List.setIfInBounds_toArray, List.set_cons_zero, List.set_cons_succ, i64_w, i32_w]
          rfl
        refine pure_ (i := 5) (N := some 54) (v := ?_) (a' := ?_) #[true, false, true, true, true, true, false, false, false, false, false, false, false, false, false, false, false, false, false] rfl rfl (by kernel_rfl) (fun _ _ _ h => h) (Or.inl ⟨by rfl, ?_⟩) ?_ ?_
        rotate_left
        · intro w'
          go_simp
          with_reducible rfl
        rotate_left
        · simp only [Act.put, List.setIfInBounds_toArray, List.set_cons_zero, List.set_cons_succ, i64_w, i32_w]
          rfl
        refine pure_ (i := 10) (N := some 59) (v := ?_) (a' := ?_) #[true, false, true, true, true, true, false, false, false, false, true, false, false, false, false, false, false, false, false] rfl rfl (by kernel_rfl) (fun _ _ _ h => h) (Or.inl ⟨by rfl, ?_⟩) ?_ ?_
        rotate_left
        · intro w'
          go_simp
          with_reducible rfl
        rotate_left
        · simp only [Act.put, List.setIfInBounds_toArray, List.set_cons_zero, List.set_cons_succ, i64_w, i32_w]
          rfl
        refine pure_ (i := 11) (N := some 60) (v := ?_) (a' := ?_) #[true, false, true, true, true, true, false, false, false, false, true, true, false, false, false, false, false, false, false] rfl rfl (by kernel_rfl) (fun _ _ _ h => h) (Or.inl ⟨by rfl, ?_⟩) ?_ ?_
        rotate_left
        · intro w'
          go_simp
          with_reducible rfl
        rotate_left
        · simp only [Act.put, List.setIfInBounds_toArray, List.set_cons_zero, List.set_cons_succ, i64_w, i32_w]
          rfl
        refine pure_ (i := 12) (N := some 61) (v := ?_) (a' := ?_) #[true, false, true, true, true, true, false, false, false, false, true, true, true, false, false, false, false, false, false] rfl rfl (by kernel_rfl) (fun _ _ _ h => h) (Or.inl ⟨by rfl, ?_⟩) ?_ ?_
        rotate_left
        · intro w'
          go_simp
          with_reducible rfl
        rotate_left
        · simp only [Act.put, List.setIfInBounds_toArray, List.set_cons_zero, List.set_cons_succ, i64_w, i32_w]
          rfl
        refine pure_ (i := 13) (N := some 62) (v := ?_) (a' := ?_) #[true, false, true, true, true, true, false, false, false, false, true, true, true, true, false, false, false, false, false] rfl rfl (by kernel_rfl) (fun _ _ _ h => h) (Or.inl ⟨by rfl, ?_⟩) ?_ ?_
        rotate_left
        · intro w'
          go_simp
          with_reducible rfl
        rotate_left
        · simp only [Act.put, List.setIfInBounds_toArray, List.set_cons_zero, List.set_cons_succ, i64_w, i32_w]
          rfl
        refine pure_ (i := 14) (N := some 63) (v := ?_) (a' := ?_) #[true, false, true, true, true, true, false, false, false, false, true, true, true, true, true, false, false, false, false] rfl rfl (by kernel_rfl) (fun _ _ _ h => h) (Or.inl ⟨by rfl, ?_⟩) ?_ ?_
        rotate_left
        · intro w'
          go_simp
          with_reducible rfl
        rotate_left
        · simp only [Act.put, List.setIfInBounds_toArray, List.set_cons_zero, List.set_cons_succ, i64_w, i32_w]
          rfl
        refine take_ (i := 6) (N := some 55) (v := ?_) (a' := ?_) #[true, false, true, true, true, true, true, false, false, false, true, true, true, true, true, false, false, false, false] rfl rfl (by kernel_rfl) (fun _ _ _ h => h) (Or.inl ⟨by rfl, ?_⟩) hHeld ?_ ?_
        rotate_left
        · intro w' s0
          go_simp
          with_reducible rfl
        rotate_left
        · simp only [Act.put, List.setIfInBounds_toArray, List.set_cons_zero, List.set_cons_succ, i64_w, i32_w]
          rfl
        refine take_ (i := 15) (N := some 64) (v := ?_) (a' := ?_) #[true, false, true, true, true, true, true, false, false, false, true, true, true, true, true, true, false, false, false] rfl rfl (by kernel_rfl) (fun _ _ _ h => h) (Or.inl ⟨by rfl, ?_⟩) hHeld ?_ ?_
        rotate_left
        · intro w' s0
          go_simp
          with_reducible rfl
        rotate_left
        · simp only [Act.put, List.setIfInBounds_toArray, List.set_cons_zero, List.set_cons_succ, i64_w, i32_w]
          rfl
        refine one_ (i := 1) (N := some 50) #[true, true, true, true, true, true, true, false, false, false, true, true, true, true, true, true, false, false, false] rfl rfl (by kernel_rfl) (by decide) (fun K hK => ?_)
        refine Kd.R_lit_step (Kd.int .i64) _ 3 ?hg (N := 50) ?hd (xs := ([] : List Int)) (inner := []) (ok := fun _ => True) (okp := fun _ => True) ?hr ?hp (fun _ hk => hk) trivial (Below.refl _ _) (Nat.le_refl _) (by simp) ?_; (case hd => rfl); (case hg => rfl); (case hr => first | (go_simp; done) | (go_simp; rfl)); (case hp => exact (Reps.none _ _))
        intro v2 w2 hR2 hB2 _ _
        have HR2 := Aside0.mk hR2
        have HB2 := Aside0.mk hB2
        have HT2 := Aside0.mk (HTd.out.below hB2)
        clear hR2 hB2
        refine hK.out _ _ (((HT2.out.bel.cell (World.block_lt_of_cell? w _ HK1.out)).trans HK1.out)) (fun hHeld => ?_)
        clear hK K
        refine norm_ (a' := ?_) ?_ ?_
        rotate_left
        · show Act.put _ (some 50) _ = _
          simp only [Act.put, List.setIfInBounds_toArray, List.set_cons_zero, List.set_cons_succ, i64_w, i32_w]
          rfl
        refine one_ (i := 7) (N := some 56) #[true, true, true, true, true, true, true, true, false, false, true, true, true, true, true, true, false, false, false] rfl rfl (by kernel_rfl) (by decide) (fun K hK => ?_)
        refine Kd.R_append_rows_step (Kd.int .i64) (w0 := wd) (Rr := (Kd.int .i64).K w2) wd.heap.size (by rfl) (.tmp 50) (.tmp 55) 46 3 (.int .i64 0) 8 rfl Try.underlying46 info3 rfl (by decide) (by omega) v2 [] f1 A1 f1.length c1 (fun _ => True) (fun _ => False) rfl rfl HR2.out (Kd.C_below HC1.out HT2.out.bel) (fun x cs hK => hK) (fun _ hk => hk.elim) (fun _ _ => trivial) HB2.out HB2.out.size (by simp only [List.length_nil, Nat.zero_add]; omega) ?_
        intro v3 w3 hR3 hB3 _ _
        rw [List.nil_append] at hR3
        obtain ⟨A3, c3, rfl, hc3, hC3⟩ := Kd.R_reads hR3
        have HC3 := Aside0.mk hC3
        have HT3 := Aside0.mk (HTd.out.below hB3)
        clear hR3 hC3 hB3
        refine hK.out _ _ (((HT3.out.bel.cell (World.block_lt_of_cell? w _ HK1.out)).trans HK1.out)) (fun hHeld => ?_)
        clear hK K
        refine norm_ (a' := ?_) ?_ ?_
        rotate_left
        · show Act.put _ (some 56) _ = _
          simp only [Act.put, List.setIfInBounds_toArray, List.set_cons_zero, List.set_cons_succ, i64_w, i32_w]
          rfl
        refine one_ (i := 8) (N := some 57) #[true, true, true, true, true, true, true, true, true, false, true, true, true, true, true, true, false, false, false] rfl rfl (by kernel_rfl) (by decide) (fun K hK => ?_)
        refine goes_ Try.func23 (by kernel_rfl) rfl #[.pointer (some ⟨g, 0, none⟩), .slice A3 f1.length c3] (by rfl) rfl rfl (by simp only [List.map_toArray, List.map_cons, List.map_nil]; rfl) ?_
        with_reducible refine (byteW HT3.out A3 c3 f1 HC3.out hc3 HS1.out).mono ?_
        rintro e w4 ⟨rfl, hT4⟩
        refine ⟨_, rfl, ?_⟩
        have HT4 := Aside0.mk hT4
        clear hT4
        refine hK.out _ _ (((HT4.out.bel.cell (World.block_lt_of_cell? w _ HK1.out)).trans HK1.out)) (fun hHeld => ?_)
        clear hK K
        refine norm_ (a' := ?_) ?_ ?_
        rotate_left
        · show Act.put _ (some 57) _ = _
          simp only [Act.put, List.setIfInBounds_toArray, List.set_cons_zero, List.set_cons_succ, i64_w, i32_w]
          rfl
        refine one_ (i := 9) (N := some 58) #[true, true, true, true, true, true, true, true, true, true, true, true, true, true, true, true, false, false, false] rfl rfl (by kernel_rfl) (by decide) (fun K hK => ?_)
        refine goes_ Try.func17 (by kernel_rfl) rfl #[.int .i64 (wbytes l f1).2] (by rfl) rfl rfl (by simp only [List.map_toArray, List.map_cons, List.map_nil]; rfl) ?_
        with_reducible refine (weighhouselaw01_num.calls (wbytes l f1).2 (wbytes l f1).2 _ rfl).mono ?_
        rintro e w5 ⟨rfl, hd5⟩
        refine ⟨_, rfl, ?_⟩
        have HT5 := Aside0.mk (HT4.out.below hd5.below)
        clear hd5
        refine hK.out _ _ (((HT5.out.bel.cell (World.block_lt_of_cell? w _ HK1.out)).trans HK1.out)) (fun hHeld => ?_)
        clear hK K
        refine norm_ (a' := ?_) ?_ ?_
        rotate_left
        · show Act.put _ (some 58) _ = _
          simp only [Act.put, List.setIfInBounds_toArray, List.set_cons_zero, List.set_cons_succ, i64_w, i32_w]
          rfl
        refine one_ (i := 16) (N := some 65) #[true, true, true, true, true, true, true, true, true, true, true, true, true, true, true, true, true, false, false] rfl rfl (by kernel_rfl) (by decide) (fun K hK => ?_)
        refine goes_ Try.func24 (by kernel_rfl) rfl #[.pointer (some ⟨g2, 0, none⟩), .slice A1 f1.length c1] (by rfl) rfl rfl (by simp only [List.map_toArray, List.map_cons, List.map_nil]; rfl) ?_
        with_reducible refine (byteR HT5.out A1 c1 f1 (Kd.C_below HC1.out HT5.out.bel) hl1 HS1.out).mono ?_
        rintro e w6 ⟨rfl, hT6⟩
        refine ⟨_, rfl, ?_⟩
        have HT6 := Aside0.mk hT6
        clear hT6
        refine hK.out _ _ (((HT6.out.bel.cell (World.block_lt_of_cell? w _ HK1.out)).trans HK1.out)) (fun hHeld => ?_)
        clear hK K
        refine norm_ (a' := ?_) ?_ ?_
        rotate_left
        · show Act.put _ (some 65) _ = _
          simp only [Act.put, List.setIfInBounds_toArray, List.set_cons_zero, List.set_cons_succ, i64_w, i32_w]
          rfl
        refine pure_ (i := 17) (N := some 66) (v := ?_) (a' := ?_) #[true, true, true, true, true, true, true, true, true, true, true, true, true, true, true, true, true, true, false] rfl rfl (by kernel_rfl) (fun _ _ _ h => h) (Or.inl ⟨by rfl, ?_⟩) ?_ ?_
        rotate_left
        · intro w'
          go_simp
          with_reducible rfl
        rotate_left
        · simp only [Act.put, List.setIfInBounds_toArray, List.set_cons_zero, List.set_cons_succ, i64_w, i32_w]
          rfl
        refine pure_ (i := 18) (N := some 6) (v := ?_) (a' := ?_) #[true, true, true, true, true, true, true, true, true, true, true, true, true, true, true, true, true, true, true] rfl rfl (by kernel_rfl) (fun _ _ _ h => h) (Or.inl ⟨by rfl, ?_⟩) ?_ ?_
        rotate_left
        · intro w'
          go_simp
          with_reducible rfl
        rotate_left
        · simp only [Act.put, List.setIfInBounds_toArray, List.set_cons_zero, List.set_cons_succ, i64_w, i32_w]
          rfl
        refine done_ (by kernel_rfl) ?_
        obtain ⟨l1, hl1'⟩ : ∃ l1, l1 = (wbytes l f1).1 := ⟨_, rfl⟩
        rw [← hl1'] at HT6
        clear hl1'
        go_upto_region 16 with (go_at_call 29; (with_reducible refine (bytesW HT6.out).mono ?_); rintro e w7 ⟨v7, rfl, hR7, hB7⟩; have HT7 := Aside0.mk (HT6.out.keep hB7); have HR7 := Aside0.mk (Kd.R_bound hR7); have HB6 := Aside0.mk HT6.out.bel.size; clear hR7 hB7)
        have hlb1 : l1.length ≤ 1048576 := by
          obtain ⟨_, _, _, _, _, _, hh, _⟩ := HT6.out
          exact hh.1
        clear HT6
        obtain ⟨A7, c7, rfl, hc7, hC7⟩ := Kd.R_reads HR7.out
        have HTd7 := Aside0.mk (HT7.out.below ((Below.refl _ _).drew))
        have HRd7 := Aside0.mk (Kd.R_below HR7.out ((Below.refl _ _).drew))
        have hCd7 := Kd.C_below hC7 ((Below.refl _ _).drew)
        obtain ⟨Ar, cr, hcr, hCr⟩ := HTd7.out.two.refB
        have hcv1 := Kd.C_string (P := Try.prog) (src := 22) (dst := 9) (e := 5) (c := c7) Try.underlying22 Try.underlying5 Try.underlying9 hCd7
        have hcv2 := Kd.C_string (P := Try.prog) (src := 22) (dst := 9) (e := 5) (c := cr) Try.underlying22 Try.underlying5 Try.underlying9 hCr
        obtain ⟨sB, hsB⟩ : ∃ sB, strOfNums l1 = sB := ⟨_, rfl⟩
        rw [hsB] at hcv1 hcv2
        clear hsB hC7 hCd7 hCr HT7 HR7
        refine start_ (n := 12) (S := fun w' => w' = w7.drew ∧ w'.cell? ⟨g2, 0, none⟩ = some (.slice Ar l1.length cr)) (ds := []) #[false, false, false, false, false, false, false, false, false, false, false, false] (by kernel_rfl) rfl rfl ⟨rfl, hcr⟩ (fun hHeld => ?_)
        generalize w7.drew = wd at HTd7 HRd7 hcr hcv1 hcv2 hHeld ⊢
        refine pure_ (i := 0) (N := some 89) (v := ?_) (a' := ?_) #[true, false, false, false, false, false, false, false, false, false, false, false] rfl rfl (by kernel_rfl) (fun _ _ _ h => h) (Or.inl ⟨by rfl, ?_⟩) ?_ ?_
        rotate_left
        · intro w'
          go_simp
          with_reducible rfl
        rotate_left
        · simp only [Act.put, List.setIfInBounds_toArray, List.set_cons_zero, List.set_cons_succ, i64_w, i32_w]
          rfl
        refine pure_ (i := 1) (N := some 90) (v := ?_) (a' := ?_) #[true, true, false, false, false, false, false, false, false, false, false, false] rfl rfl (by kernel_rfl) (fun _ _ _ h => h) (Or.inl ⟨by rfl, ?_⟩) ?_ ?_
        rotate_left
        · intro w'
          go_simp
          with_reducible rfl
        rotate_left
        · simp only [Act.put, List.setIfInBounds_toArray, List.set_cons_zero, List.set_cons_succ, i64_w, i32_w]
          rfl
        refine pure_ (i := 2) (N := some 91) (v := ?_) (a' := ?_) #[true, true, true, false, false, false, false, false, false, false, false, false] rfl rfl (by kernel_rfl) (fun _ _ _ h => h) (Or.inl ⟨by rfl, ?_⟩) ?_ ?_
        rotate_left
        · intro w'
          go_simp
          with_reducible rfl
        rotate_left
        · simp only [Act.put, List.setIfInBounds_toArray, List.set_cons_zero, List.set_cons_succ, i64_w, i32_w]
          rfl
        refine pure_ (i := 3) (N := some 92) (v := ?_) (a' := ?_) #[true, true, true, true, false, false, false, false, false, false, false, false] rfl rfl (by kernel_rfl) (fun _ _ _ h => h) (Or.inl ⟨by rfl, ?_⟩) ?_ ?_
        rotate_left
        · intro w'
          go_simp
          with_reducible rfl
        rotate_left
        · simp only [Act.put, List.setIfInBounds_toArray, List.set_cons_zero, List.set_cons_succ, i64_w, i32_w]
          rfl
        refine pure_ (i := 5) (N := some 94) (v := ?_) (a' := ?_) #[true, true, true, true, false, true, false, false, false, false, false, false] rfl rfl (by kernel_rfl) (fun _ _ _ h => h) (Or.inl ⟨by rfl, ?_⟩) ?_ ?_
        rotate_left
        · intro w'
          go_simp
          with_reducible rfl
        rotate_left
        · simp only [Act.put, List.setIfInBounds_toArray, List.set_cons_zero, List.set_cons_succ, i64_w, i32_w]
          rfl
        refine pure_ (i := 6) (N := some 95) (v := ?_) (a' := ?_) #[true, true, true, true, false, true, true, false, false, false, false, false] rfl rfl (by kernel_rfl) (fun _ _ _ h => h) (Or.inl ⟨by rfl, ?_⟩) ?_ ?_
        rotate_left
        · intro w'
          go_simp
          with_reducible rfl
        rotate_left
        · simp only [Act.put, List.setIfInBounds_toArray, List.set_cons_zero, List.set_cons_succ, i64_w, i32_w]
          rfl
        refine pure_ (i := 7) (N := some 96) (v := ?_) (a' := ?_) #[true, true, true, true, false, true, true, true, false, false, false, false] rfl rfl (by kernel_rfl) (fun _ _ _ h => h) (Or.inl ⟨by rfl, ?_⟩) ?_ ?_
        rotate_left
        · intro w'
          go_simp
          with_reducible rfl
        rotate_left
        · simp only [Act.put, List.setIfInBounds_toArray, List.set_cons_zero, List.set_cons_succ, i64_w, i32_w]
          rfl
        refine take_ (i := 4) (N := some 93) (v := ?_) (a' := ?_) #[true, true, true, true, true, true, true, true, false, false, false, false] rfl rfl (by kernel_rfl) (fun _ _ _ h => h) (Or.inl ⟨by rfl, ?_⟩) hHeld ?_ ?_
        rotate_left
        · rintro w' ⟨s0, s1⟩
          go_simp
          with_reducible rfl
        rotate_left
        · simp only [Act.put, List.setIfInBounds_toArray, List.set_cons_zero, List.set_cons_succ, i64_w, i32_w]
          rfl
        refine take_ (i := 8) (N := some 97) (v := ?_) (a' := ?_) #[true, true, true, true, true, true, true, true, true, false, false, false] rfl rfl (by kernel_rfl) (fun _ _ _ h => h) (Or.inl ⟨by rfl, ?_⟩) hHeld ?_ ?_
        rotate_left
        · rintro w' ⟨s0, s1⟩
          go_simp
          with_reducible rfl
        rotate_left
        · simp only [Act.put, List.setIfInBounds_toArray, List.set_cons_zero, List.set_cons_succ, i64_w, i32_w]
          rfl
        refine take_ (i := 9) (N := some 98) (v := ?_) (a' := ?_) #[true, true, true, true, true, true, true, true, true, true, false, false] rfl rfl (by kernel_rfl) (fun _ _ _ h => h) (Or.inl ⟨by rfl, ?_⟩) hHeld ?_ ?_
        rotate_left
        · rintro w' ⟨s0, s1⟩
          go_simp
          with_reducible rfl
        rotate_left
        · simp only [Act.put, List.setIfInBounds_toArray, List.set_cons_zero, List.set_cons_succ, i64_w, i32_w]
          rfl
        refine pure_ (i := 10) (N := some 99) (v := ?_) (a' := ?_) #[true, true, true, true, true, true, true, true, true, true, true, false] rfl rfl (by kernel_rfl) (fun _ _ _ h => h) (Or.inl ⟨by rfl, ?_⟩) ?_ ?_
        rotate_left
        · intro w'
          go_simp
          with_reducible rfl
        rotate_left
        · simp only [Act.put, List.setIfInBounds_toArray, List.set_cons_zero, List.set_cons_succ, i64_w, i32_w]
          rfl
        refine pure_ (i := 11) (N := some 100) (v := ?_) (a' := ?_) #[true, true, true, true, true, true, true, true, true, true, true, true] rfl rfl (by kernel_rfl) (fun _ _ _ h => h) (Or.inl ⟨by rfl, ?_⟩) ?_ ?_
        rotate_left
        · intro w'
          go_simp
          with_reducible rfl
        rotate_left
        · simp only [Act.put, List.setIfInBounds_toArray, List.set_cons_zero, List.set_cons_succ, i64_w, i32_w]
          rfl
        refine done_ (by kernel_rfl) ?_
        clear hHeld hcr hcv1 hcv2
        go_wp2
        go_loopw [8] (fun q wq => ∃ (m : Nat) (y : List Int), m ≤ l1.length ∧ q = .int .i64 m ∧ Aside0 (y.length = l1.length) ∧ Aside0 ((Kd.int .u8).R 5 wq w6.heap.size (fun k => w6.heap.size ≤ k) (.slice A7 l1.length c7) y) ∧ Aside0 (TwoK w wq w6.heap.size g g2 l1 l1)) (fun q _ => l1.length - (intOf q).toNat)
        case atStart => exact ⟨0, l1, Nat.zero_le _, rfl, ⟨rfl⟩, ⟨Kd.R_mono HRd7.out (fun k hk => hk.2.1)⟩, HTd7⟩
        case round =>
          clear HTd7 HRd7
          obtain ⟨m, y, hm1, rfl, HY, HRq, HTq⟩ := hrel
          by_cases hlt1 : m < l1.length
          · obtain ⟨inner, hin⟩ := Kd.R_own HRq.out
            obtain ⟨gb, cb, hgb, hgb1, _⟩ := hin.form (by have := HY.out; omega)
            injection hgb with e1 e2 e3
            subst e1
            subst e3
            clear hin e2
            have hcel := Kd.R_celln (0 : Int) HRq.out m (by omega) (by omega)
            rw [Int.toNat_natCast] at hcel
            obtain ⟨hce1, hce2⟩ := hcel
            obtain ⟨z, hz⟩ : ∃ z, rdOf (0 : Int) y (m : Int) = z := ⟨_, rfl⟩
            rw [hz] at hce1
            clear hz
            go_wp2
            go_roundw
            case rel => exact ⟨m + 1, _, by omega, by go_num, ⟨by rw [List.length_set]; exact HY.out⟩, ⟨Kd.R_putn HRq.out (m : Int) _⟩, ⟨HTq.out.set_ hgb1 (Nat.le_trans HB6.out hgb1) _⟩⟩
            case measure => simp [intOf]; omega
          · go_wp2
            go_roundw
            case rel => exact ⟨j + 1, l1, by omega, by go_num, ⟨HTq.out.two⟩⟩
            case measure => simp [intOf]; omega
      have d1 : (f0 == 0) = false := by simp [h0]
      by_cases h1 : f0 = 1
      · have d2 : (f0 == 1) = true := by simp [h1]
        clear h0 h1
        go_upto_region 14 with (fail)
        have HTd := Aside0.mk (HT.out.below ((Below.refl _ _).drew))
        clear HT hk0
        refine start_ (n := 19) (S := fun w' => w'.cell? ⟨(ad.add (j * 3)).block, (ad.add (j * 3)).off + 1, none⟩ = some (.slice A1 f1.length c1)) (ds := []) #[false, false, false, false, false, false, false, false, false, false, false, false, false, false, false, false, false, false, false] (by kernel_rfl) rfl rfl (((HTd.out.bel.cell (World.block_lt_of_cell? w _ HK1.out)).trans HK1.out)) (fun hHeld => ?_)
        generalize wr.drew = wd at HTd hHeld ⊢
        refine pure_ (i := 0) (N := some 69) (v := ?_) (a' := ?_) #[true, false, false, false, false, false, false, false, false, false, false, false, false, false, false, false, false, false, false] rfl rfl (by kernel_rfl) (fun _ _ _ h => h) (Or.inl ⟨by rfl, ?_⟩) ?_ ?_
        rotate_left
        · intro w'
          go_simp
          with_reducible rfl
        rotate_left
        · simp only [Act.put, List.setIfInBounds_toArray, List.set_cons_zero, List.set_cons_succ, i64_w, i32_w]
          rfl
        refine pure_ (i := 2) (N := some 71) (v := ?_) (a' := ?_) #[true, false, true, false, false, false, false, false, false, false, false, false, false, false, false, false, false, false, false] rfl rfl (by kernel_rfl) (fun _ _ _ h => h) (Or.inl ⟨by rfl, ?_⟩) ?_ ?_
        rotate_left
        · intro w'
          go_simp
          with_reducible rfl
        rotate_left
        · simp only [Act.put, List.setIfInBounds_toArray, List.set_cons_zero, List.set_cons_succ, i64_w, i32_w]
          rfl
        refine pure_ (i := 3) (N := some 72) (v := ?_) (a' := ?_) #[true, false, true, true, false, false, false, false, false, false, false, false, false, false, false, false, false, false, false] rfl rfl (by kernel_rfl) (fun _ _ _ h => h) (Or.inl ⟨by rfl, ?_⟩) ?_ ?_
        rotate_left
        · intro w'
          go_simp
          with_reducible rfl
        rotate_left
        · simp only [Act.put, List.setIfInBounds_toArray, List.set_cons_zero, List.set_cons_succ, i64_w, i32_w]
          rfl
        refine pure_ (i := 4) (N := some 73) (v := ?_) (a' := ?_) #[true, false, true, true, true, false, false, false, false, false, false, false, false, false, false, false, false, false, false] rfl rfl (by kernel_rfl) (fun _ _ _ h => h) (Or.inl ⟨by rfl, ?_⟩) ?_ ?_
        rotate_left
        · intro w'
          go_simp
          with_reducible rfl
        rotate_left
        · simp only [Act.put, List.setIfInBounds_toArray, List.set_cons_zero, List.set_cons_succ, i64_w, i32_w]
          rfl
        refine pure_ (i := 5) (N := some 74) (v := ?_) (a' := ?_) #[true, false, true, true, true, true, false, false, false, false, false, false, false, false, false, false, false, false, false] rfl rfl (by kernel_rfl) (fun _ _ _ h => h) (Or.inl ⟨by rfl, ?_⟩) ?_ ?_
        rotate_left
        · intro w'
          go_simp
          with_reducible rfl
        rotate_left
        · simp only [Act.put, List.setIfInBounds_toArray, List.set_cons_zero, List.set_cons_succ, i64_w, i32_w]
          rfl
        refine pure_ (i := 10) (N := some 79) (v := ?_) (a' := ?_) #[true, false, true, true, true, true, false, false, false, false, true, false, false, false, false, false, false, false, false] rfl rfl (by kernel_rfl) (fun _ _ _ h => h) (Or.inl ⟨by rfl, ?_⟩) ?_ ?_
        rotate_left
        · intro w'
          go_simp
          with_reducible rfl
        rotate_left
        · simp only [Act.put, List.setIfInBounds_toArray, List.set_cons_zero, List.set_cons_succ, i64_w, i32_w]
          rfl
        refine pure_ (i := 11) (N := some 80) (v := ?_) (a' := ?_) #[true, false, true, true, true, true, false, false, false, false, true, true, false, false, false, false, false, false, false] rfl rfl (by kernel_rfl) (fun _ _ _ h => h) (Or.inl ⟨by rfl, ?_⟩) ?_ ?_
        rotate_left
        · intro w'
          go_simp
          with_reducible rfl
        rotate_left
        · simp only [Act.put, List.setIfInBounds_toArray, List.set_cons_zero, List.set_cons_succ, i64_w, i32_w]
          rfl
        refine pure_ (i := 12) (N := some 81) (v := ?_) (a' := ?_) #[true, false, true, true, true, true, false, false, false, false, true, true, true, false, false, false, false, false, false] rfl rfl (by kernel_rfl) (fun _ _ _ h => h) (Or.inl ⟨by rfl, ?_⟩) ?_ ?_
        rotate_left
        · intro w'
          go_simp
          with_reducible rfl
        rotate_left
        · simp only [Act.put, List.setIfInBounds_toArray, List.set_cons_zero, List.set_cons_succ, i64_w, i32_w]
          rfl
        refine pure_ (i := 13) (N := some 82) (v := ?_) (a' := ?_) #[true, false, true, true, true, true, false, false, false, false, true, true, true, true, false, false, false, false, false] rfl rfl (by kernel_rfl) (fun _ _ _ h => h) (Or.inl ⟨by rfl, ?_⟩) ?_ ?_
        rotate_left
        · intro w'
          go_simp
          with_reducible rfl
        rotate_left
        · simp only [Act.put, List.setIfInBounds_toArray, List.set_cons_zero, List.set_cons_succ, i64_w, i32_w]
          rfl
        refine pure_ (i := 14) (N := some 83) (v := ?_) (a' := ?_) #[true, false, true, true, true, true, false, false, false, false, true, true, true, true, true, false, false, false, false] rfl rfl (by kernel_rfl) (fun _ _ _ h => h) (Or.inl ⟨by rfl, ?_⟩) ?_ ?_
        rotate_left
        · intro w'
          go_simp
          with_reducible rfl
        rotate_left
        · simp only [Act.put, List.setIfInBounds_toArray, List.set_cons_zero, List.set_cons_succ, i64_w, i32_w]
          rfl
        refine take_ (i := 6) (N := some 75) (v := ?_) (a' := ?_) #[true, false, true, true, true, true, true, false, false, false, true, true, true, true, true, false, false, false, false] rfl rfl (by kernel_rfl) (fun _ _ _ h => h) (Or.inl ⟨by rfl, ?_⟩) hHeld ?_ ?_
        rotate_left
        · intro w' s0
          go_simp
          with_reducible rfl
        rotate_left
        · simp only [Act.put, List.setIfInBounds_toArray, List.set_cons_zero, List.set_cons_succ, i64_w, i32_w]
          rfl
        refine take_ (i := 15) (N := some 84) (v := ?_) (a' := ?_) #[true, false, true, true, true, true, true, false, false, false, true, true, true, true, true, true, false, false, false] rfl rfl (by kernel_rfl) (fun _ _ _ h => h) (Or.inl ⟨by rfl, ?_⟩) hHeld ?_ ?_
        rotate_left
        · intro w' s0
          go_simp
          with_reducible rfl
        rotate_left
        · simp only [Act.put, List.setIfInBounds_toArray, List.set_cons_zero, List.set_cons_succ, i64_w, i32_w]
          rfl
        refine one_ (i := 1) (N := some 70) #[true, true, true, true, true, true, true, false, false, false, true, true, true, true, true, true, false, false, false] rfl rfl (by kernel_rfl) (by decide) (fun K hK => ?_)
        refine Kd.R_lit_step (Kd.int .i64) _ 3 ?hg (N := 70) ?hd (xs := ([] : List Int)) (inner := []) (ok := fun _ => True) (okp := fun _ => True) ?hr ?hp (fun _ hk => hk) trivial (Below.refl _ _) (Nat.le_refl _) (by simp) ?_; (case hd => rfl); (case hg => rfl); (case hr => first | (go_simp; done) | (go_simp; rfl)); (case hp => exact (Reps.none _ _))
        intro v2 w2 hR2 hB2 _ _
        have HR2 := Aside0.mk hR2
        have HB2 := Aside0.mk hB2
        have HT2 := Aside0.mk (HTd.out.below hB2)
        clear hR2 hB2
        refine hK.out _ _ (((HT2.out.bel.cell (World.block_lt_of_cell? w _ HK1.out)).trans HK1.out)) (fun hHeld => ?_)
        clear hK K
        refine norm_ (a' := ?_) ?_ ?_
        rotate_left
        · show Act.put _ (some 70) _ = _
          simp only [Act.put, List.setIfInBounds_toArray, List.set_cons_zero, List.set_cons_succ, i64_w, i32_w]
          rfl
        refine one_ (i := 7) (N := some 76) #[true, true, true, true, true, true, true, true, false, false, true, true, true, true, true, true, false, false, false] rfl rfl (by kernel_rfl) (by decide) (fun K hK => ?_)
        refine Kd.R_append_rows_step (Kd.int .i64) (w0 := wd) (Rr := (Kd.int .i64).K w2) wd.heap.size (by rfl) (.tmp 70) (.tmp 75) 46 3 (.int .i64 0) 8 rfl Try.underlying46 info3 rfl (by decide) (by omega) v2 [] f1 A1 f1.length c1 (fun _ => True) (fun _ => False) rfl rfl HR2.out (Kd.C_below HC1.out HT2.out.bel) (fun x cs hK => hK) (fun _ hk => hk.elim) (fun _ _ => trivial) HB2.out HB2.out.size (by simp only [List.length_nil, Nat.zero_add]; omega) ?_
        intro v3 w3 hR3 hB3 _ _
        rw [List.nil_append] at hR3
        obtain ⟨A3, c3, rfl, hc3, hC3⟩ := Kd.R_reads hR3
        have HC3 := Aside0.mk hC3
        have HT3 := Aside0.mk (HTd.out.below hB3)
        clear hR3 hC3 hB3
        refine hK.out _ _ (((HT3.out.bel.cell (World.block_lt_of_cell? w _ HK1.out)).trans HK1.out)) (fun hHeld => ?_)
        clear hK K
        refine norm_ (a' := ?_) ?_ ?_
        rotate_left
        · show Act.put _ (some 76) _ = _
          simp only [Act.put, List.setIfInBounds_toArray, List.set_cons_zero, List.set_cons_succ, i64_w, i32_w]
          rfl
        refine one_ (i := 8) (N := some 77) #[true, true, true, true, true, true, true, true, true, false, true, true, true, true, true, true, false, false, false] rfl rfl (by kernel_rfl) (by decide) (fun K hK => ?_)
        refine goes_ Try.func25 (by kernel_rfl) rfl #[.pointer (some ⟨g, 0, none⟩), .slice A3 f1.length c3] (by rfl) rfl rfl (by simp only [List.map_toArray, List.map_cons, List.map_nil]; rfl) ?_
        with_reducible refine (intW HT3.out A3 c3 f1 HC3.out hc3 HS1.out).mono ?_
        rintro e w4 ⟨rfl, hT4⟩
        refine ⟨_, rfl, ?_⟩
        have HT4 := Aside0.mk hT4
        clear hT4
        refine hK.out _ _ (((HT4.out.bel.cell (World.block_lt_of_cell? w _ HK1.out)).trans HK1.out)) (fun hHeld => ?_)
        clear hK K
        refine norm_ (a' := ?_) ?_ ?_
        rotate_left
        · show Act.put _ (some 77) _ = _
          simp only [Act.put, List.setIfInBounds_toArray, List.set_cons_zero, List.set_cons_succ, i64_w, i32_w]
          rfl
        refine one_ (i := 9) (N := some 78) #[true, true, true, true, true, true, true, true, true, true, true, true, true, true, true, true, false, false, false] rfl rfl (by kernel_rfl) (by decide) (fun K hK => ?_)
        refine goes_ Try.func17 (by kernel_rfl) rfl #[.int .i64 (wmore l (ints8 f1)).2] (by rfl) rfl rfl (by simp only [List.map_toArray, List.map_cons, List.map_nil]; rfl) ?_
        with_reducible refine (weighhouselaw01_num.calls (wmore l (ints8 f1)).2 (wmore l (ints8 f1)).2 _ rfl).mono ?_
        rintro e w5 ⟨rfl, hd5⟩
        refine ⟨_, rfl, ?_⟩
        have HT5 := Aside0.mk (HT4.out.below hd5.below)
        clear hd5
        refine hK.out _ _ (((HT5.out.bel.cell (World.block_lt_of_cell? w _ HK1.out)).trans HK1.out)) (fun hHeld => ?_)
        clear hK K
        refine norm_ (a' := ?_) ?_ ?_
        rotate_left
        · show Act.put _ (some 78) _ = _
          simp only [Act.put, List.setIfInBounds_toArray, List.set_cons_zero, List.set_cons_succ, i64_w, i32_w]
          rfl
        refine one_ (i := 16) (N := some 85) #[true, true, true, true, true, true, true, true, true, true, true, true, true, true, true, true, true, false, false] rfl rfl (by kernel_rfl) (by decide) (fun K hK => ?_)
        refine goes_ Try.func26 (by kernel_rfl) rfl #[.pointer (some ⟨g2, 0, none⟩), .slice A1 f1.length c1] (by rfl) rfl rfl (by simp only [List.map_toArray, List.map_cons, List.map_nil]; rfl) ?_
        with_reducible refine (intR HT5.out A1 c1 f1 (Kd.C_below HC1.out HT5.out.bel) hl1 HS1.out).mono ?_
        rintro e w6 ⟨rfl, hT6⟩
        refine ⟨_, rfl, ?_⟩
        have HT6 := Aside0.mk hT6
        clear hT6
        refine hK.out _ _ (((HT6.out.bel.cell (World.block_lt_of_cell? w _ HK1.out)).trans HK1.out)) (fun hHeld => ?_)
        clear hK K
        refine norm_ (a' := ?_) ?_ ?_
        rotate_left
        · show Act.put _ (some 85) _ = _
          simp only [Act.put, List.setIfInBounds_toArray, List.set_cons_zero, List.set_cons_succ, i64_w, i32_w]
          rfl
        refine pure_ (i := 17) (N := some 86) (v := ?_) (a' := ?_) #[true, true, true, true, true, true, true, true, true, true, true, true, true, true, true, true, true, true, false] rfl rfl (by kernel_rfl) (fun _ _ _ h => h) (Or.inl ⟨by rfl, ?_⟩) ?_ ?_
        rotate_left
        · intro w'
          go_simp
          with_reducible rfl
        rotate_left
        · simp only [Act.put, List.setIfInBounds_toArray, List.set_cons_zero, List.set_cons_succ, i64_w, i32_w]
          rfl
        refine pure_ (i := 18) (N := some 6) (v := ?_) (a' := ?_) #[true, true, true, true, true, true, true, true, true, true, true, true, true, true, true, true, true, true, true] rfl rfl (by kernel_rfl) (fun _ _ _ h => h) (Or.inl ⟨by rfl, ?_⟩) ?_ ?_
        rotate_left
        · intro w'
          go_simp
          with_reducible rfl
        rotate_left
        · simp only [Act.put, List.setIfInBounds_toArray, List.set_cons_zero, List.set_cons_succ, i64_w, i32_w]
          rfl
        refine done_ (by kernel_rfl) ?_
        obtain ⟨l1, hl1'⟩ : ∃ l1, l1 = (wmore l (ints8 f1)).1 := ⟨_, rfl⟩
        rw [← hl1'] at HT6
        clear hl1'
        go_upto_region 16 with (go_at_call 29; (with_reducible refine (bytesW HT6.out).mono ?_); rintro e w7 ⟨v7, rfl, hR7, hB7⟩; have HT7 := Aside0.mk (HT6.out.keep hB7); have HR7 := Aside0.mk (Kd.R_bound hR7); have HB6 := Aside0.mk HT6.out.bel.size; clear hR7 hB7)
        have hlb1 : l1.length ≤ 1048576 := by
          obtain ⟨_, _, _, _, _, _, hh, _⟩ := HT6.out
          exact hh.1
        clear HT6
        obtain ⟨A7, c7, rfl, hc7, hC7⟩ := Kd.R_reads HR7.out
        have HTd7 := Aside0.mk (HT7.out.below ((Below.refl _ _).drew))
        have HRd7 := Aside0.mk (Kd.R_below HR7.out ((Below.refl _ _).drew))
        have hCd7 := Kd.C_below hC7 ((Below.refl _ _).drew)
        obtain ⟨Ar, cr, hcr, hCr⟩ := HTd7.out.two.refB
        have hcv1 := Kd.C_string (P := Try.prog) (src := 22) (dst := 9) (e := 5) (c := c7) Try.underlying22 Try.underlying5 Try.underlying9 hCd7
        have hcv2 := Kd.C_string (P := Try.prog) (src := 22) (dst := 9) (e := 5) (c := cr) Try.underlying22 Try.underlying5 Try.underlying9 hCr
        obtain ⟨sB, hsB⟩ : ∃ sB, strOfNums l1 = sB := ⟨_, rfl⟩
        rw [hsB] at hcv1 hcv2
        clear hsB hC7 hCd7 hCr HT7 HR7
        refine start_ (n := 12) (S := fun w' => w' = w7.drew ∧ w'.cell? ⟨g2, 0, none⟩ = some (.slice Ar l1.length cr)) (ds := []) #[false, false, false, false, false, false, false, false, false, false, false, false] (by kernel_rfl) rfl rfl ⟨rfl, hcr⟩ (fun hHeld => ?_)
        generalize w7.drew = wd at HTd7 HRd7 hcr hcv1 hcv2 hHeld ⊢
        refine pure_ (i := 0) (N := some 89) (v := ?_) (a' := ?_) #[true, false, false, false, false, false, false, false, false, false, false, false] rfl rfl (by kernel_rfl) (fun _ _ _ h => h) (Or.inl ⟨by rfl, ?_⟩) ?_ ?_
        rotate_left
        · intro w'
          go_simp
          with_reducible rfl
        rotate_left
        · simp only [Act.put, List.setIfInBounds_toArray, List.set_cons_zero, List.set_cons_succ, i64_w, i32_w]
          rfl
        refine pure_ (i := 1) (N := some 90) (v := ?_) (a' := ?_) #[true, true, false, false, false, false, false, false, false, false, false, false] rfl rfl (by kernel_rfl) (fun _ _ _ h => h) (Or.inl ⟨by rfl, ?_⟩) ?_ ?_
        rotate_left
        · intro w'
          go_simp
          with_reducible rfl
        rotate_left
        · simp only [Act.put, List.setIfInBounds_toArray, List.set_cons_zero, List.set_cons_succ, i64_w, i32_w]
          rfl
        refine pure_ (i := 2) (N := some 91) (v := ?_) (a' := ?_) #[true, true, true, false, false, false, false, false, false, false, false, false] rfl rfl (by kernel_rfl) (fun _ _ _ h => h) (Or.inl ⟨by rfl, ?_⟩) ?_ ?_
        rotate_left
        · intro w'
          go_simp
          with_reducible rfl
        rotate_left
        · simp only [Act.put, List.setIfInBounds_toArray, List.set_cons_zero, List.set_cons_succ, i64_w, i32_w]
          rfl
        refine pure_ (i := 3) (N := some 92) (v := ?_) (a' := ?_) #[true, true, true, true, false, false, false, false, false, false, false, false] rfl rfl (by kernel_rfl) (fun _ _ _ h => h) (Or.inl ⟨by rfl, ?_⟩) ?_ ?_
        rotate_left
        · intro w'
          go_simp
          with_reducible rfl
        rotate_left
        · simp only [Act.put, List.setIfInBounds_toArray, List.set_cons_zero, List.set_cons_succ, i64_w, i32_w]
          rfl
        refine pure_ (i := 5) (N := some 94) (v := ?_) (a' := ?_) #[true, true, true, true, false, true, false, false, false, false, false, false] rfl rfl (by kernel_rfl) (fun _ _ _ h => h) (Or.inl ⟨by rfl, ?_⟩) ?_ ?_
        rotate_left
        · intro w'
          go_simp
          with_reducible rfl
        rotate_left
        · simp only [Act.put, List.setIfInBounds_toArray, List.set_cons_zero, List.set_cons_succ, i64_w, i32_w]
          rfl
        refine pure_ (i := 6) (N := some 95) (v := ?_) (a' := ?_) #[true, true, true, true, false, true, true, false, false, false, false, false] rfl rfl (by kernel_rfl) (fun _ _ _ h => h) (Or.inl ⟨by rfl, ?_⟩) ?_ ?_
        rotate_left
        · intro w'
          go_simp
          with_reducible rfl
        rotate_left
        · simp only [Act.put, List.setIfInBounds_toArray, List.set_cons_zero, List.set_cons_succ, i64_w, i32_w]
          rfl
        refine pure_ (i := 7) (N := some 96) (v := ?_) (a' := ?_) #[true, true, true, true, false, true, true, true, false, false, false, false] rfl rfl (by kernel_rfl) (fun _ _ _ h => h) (Or.inl ⟨by rfl, ?_⟩) ?_ ?_
        rotate_left
        · intro w'
          go_simp
          with_reducible rfl
        rotate_left
        · simp only [Act.put, List.setIfInBounds_toArray, List.set_cons_zero, List.set_cons_succ, i64_w, i32_w]
          rfl
        refine take_ (i := 4) (N := some 93) (v := ?_) (a' := ?_) #[true, true, true, true, true, true, true, true, false, false, false, false] rfl rfl (by kernel_rfl) (fun _ _ _ h => h) (Or.inl ⟨by rfl, ?_⟩) hHeld ?_ ?_
        rotate_left
        · rintro w' ⟨s0, s1⟩
          go_simp
          with_reducible rfl
        rotate_left
        · simp only [Act.put, List.setIfInBounds_toArray, List.set_cons_zero, List.set_cons_succ, i64_w, i32_w]
          rfl
        refine take_ (i := 8) (N := some 97) (v := ?_) (a' := ?_) #[true, true, true, true, true, true, true, true, true, false, false, false] rfl rfl (by kernel_rfl) (fun _ _ _ h => h) (Or.inl ⟨by rfl, ?_⟩) hHeld ?_ ?_
        rotate_left
        · rintro w' ⟨s0, s1⟩
          go_simp
          with_reducible rfl
        rotate_left
        · simp only [Act.put, List.setIfInBounds_toArray, List.set_cons_zero, List.set_cons_succ, i64_w, i32_w]
          rfl
        refine take_ (i := 9) (N := some 98) (v := ?_) (a' := ?_) #[true, true, true, true, true, true, true, true, true, true, false, false] rfl rfl (by kernel_rfl) (fun _ _ _ h => h) (Or.inl ⟨by rfl, ?_⟩) hHeld ?_ ?_
        rotate_left
        · rintro w' ⟨s0, s1⟩
          go_simp
          with_reducible rfl
        rotate_left
        · simp only [Act.put, List.setIfInBounds_toArray, List.set_cons_zero, List.set_cons_succ, i64_w, i32_w]
          rfl
        refine pure_ (i := 10) (N := some 99) (v := ?_) (a' := ?_) #[true, true, true, true, true, true, true, true, true, true, true, false] rfl rfl (by kernel_rfl) (fun _ _ _ h => h) (Or.inl ⟨by rfl, ?_⟩) ?_ ?_
        rotate_left
        · intro w'
          go_simp
          with_reducible rfl
        rotate_left
        · simp only [Act.put, List.setIfInBounds_toArray, List.set_cons_zero, List.set_cons_succ, i64_w, i32_w]
          rfl
        refine pure_ (i := 11) (N := some 100) (v := ?_) (a' := ?_) #[true, true, true, true, true, true, true, true, true, true, true, true] rfl rfl (by kernel_rfl) (fun _ _ _ h => h) (Or.inl ⟨by rfl, ?_⟩) ?_ ?_
        rotate_left
        · intro w'
          go_simp
          with_reducible rfl
        rotate_left
        · simp only [Act.put, List.setIfInBounds_toArray, List.set_cons_zero, List.set_cons_succ, i64_w, i32_w]
          rfl
        refine done_ (by kernel_rfl) ?_
        clear hHeld hcr hcv1 hcv2
        go_wp2
        go_loopw [8] (fun q wq => ∃ (m : Nat) (y : List Int), m ≤ l1.length ∧ q = .int .i64 m ∧ Aside0 (y.length = l1.length) ∧ Aside0 ((Kd.int .u8).R 5 wq w6.heap.size (fun k => w6.heap.size ≤ k) (.slice A7 l1.length c7) y) ∧ Aside0 (TwoK w wq w6.heap.size g g2 l1 l1)) (fun q _ => l1.length - (intOf q).toNat)
        case atStart => exact ⟨0, l1, Nat.zero_le _, rfl, ⟨rfl⟩, ⟨Kd.R_mono HRd7.out (fun k hk => hk.2.1)⟩, HTd7⟩
        case round =>
          clear HTd7 HRd7
          obtain ⟨m, y, hm1, rfl, HY, HRq, HTq⟩ := hrel
          by_cases hlt1 : m < l1.length
          · obtain ⟨inner, hin⟩ := Kd.R_own HRq.out
            obtain ⟨gb, cb, hgb, hgb1, _⟩ := hin.form (by have := HY.out; omega)
            injection hgb with e1 e2 e3
            subst e1
            subst e3
            clear hin e2
            have hcel := Kd.R_celln (0 : Int) HRq.out m (by omega) (by omega)
            rw [Int.toNat_natCast] at hcel
            obtain ⟨hce1, hce2⟩ := hcel
            obtain ⟨z, hz⟩ : ∃ z, rdOf (0 : Int) y (m : Int) = z := ⟨_, rfl⟩
            rw [hz] at hce1
            clear hz
            go_wp2
            go_roundw
            case rel => exact ⟨m + 1, _, by omega, by go_num, ⟨by rw [List.length_set]; exact HY.out⟩, ⟨Kd.R_putn HRq.out (m : Int) _⟩, ⟨HTq.out.set_ hgb1 (Nat.le_trans HB6.out hgb1) _⟩⟩
            case measure => simp [intOf]; omega
          · go_wp2
            go_roundw
            case rel => exact ⟨j + 1, l1, by omega, by go_num, ⟨HTq.out.two⟩⟩
            case measure => simp [intOf]; omega
      · have d2 : (f0 == 1) = false := by simp [h1]
        clear h0 h1
        go_upto_region 10 with (fail)
        have HTd := Aside0.mk (HT.out.below ((Below.refl _ _).drew))
        clear HT hk0
        refine start_ (n := 19) (S := fun w' => w'.cell? ⟨(ad.add (j * 3)).block, (ad.add (j * 3)).off + 2, none⟩ = some (.slice A2 f2.length c2)) (ds := []) #[false, false, false, false, false, false, false, false, false, false, false, false, false, false, false, false, false, false, false] (by kernel_rfl) rfl rfl (((HTd.out.bel.cell (World.block_lt_of_cell? w _ HK2.out)).trans HK2.out)) (fun hHeld => ?_)
        generalize wr.drew = wd at HTd hHeld ⊢
        refine pure_ (i := 0) (N := some 29) (v := ?_) (a' := ?_) #[true, false, false, false, false, false, false, false, false, false, false, false, false, false, false, false, false, false, false] rfl rfl (by kernel_rfl) (fun _ _ _ h => h) (Or.inl ⟨by rfl, ?_⟩) ?_ ?_
        rotate_left
        · intro w'
          go_simp
          with_reducible rfl
        rotate_left
        · simp only [Act.put, List.setIfInBounds_toArray, List.set_cons_zero, List.set_cons_succ, i64_w, i32_w]
          rfl
        refine pure_ (i := 2) (N := some 31) (v := ?_) (a' := ?_) #[true, false, true, false, false, false, false, false, false, false, false, false, false, false, false, false, false, false, false] rfl rfl (by kernel_rfl) (fun _ _ _ h => h) (Or.inl ⟨by rfl, ?_⟩) ?_ ?_
        rotate_left
        · intro w'
          go_simp
          with_reducible rfl
        rotate_left
        · simp only [Act.put, List.setIfInBounds_toArray, List.set_cons_zero, List.set_cons_succ, i64_w, i32_w]
          rfl
        refine pure_ (i := 3) (N := some 32) (v := ?_) (a' := ?_) #[true, false, true, true, false, false, false, false, false, false, false, false, false, false, false, false, false, false, false] rfl rfl (by kernel_rfl) (fun _ _ _ h => h) (Or.inl ⟨by rfl, ?_⟩) ?_ ?_
        rotate_left
        · intro w'
          go_simp
          with_reducible rfl
        rotate_left
        · simp only [Act.put, List.setIfInBounds_toArray, List.set_cons_zero, List.set_cons_succ, i64_w, i32_w]
          rfl
        refine pure_ (i := 4) (N := some 33) (v := ?_) (a' := ?_) #[true, false, true, true, true, false, false, false, false, false, false, false, false, false, false, false, false, false, false] rfl rfl (by kernel_rfl) (fun _ _ _ h => h) (Or.inl ⟨by rfl, ?_⟩) ?_ ?_
        rotate_left
        · intro w'
          go_simp
          with_reducible rfl
        rotate_left
        · simp only [Act.put, List.setIfInBounds_toArray, List.set_cons_zero, List.set_cons_succ, i64_w, i32_w]
          rfl
        refine pure_ (i := 5) (N := some 34) (v := ?_) (a' := ?_) #[true, false, true, true, true, true, false, false, false, false, false, false, false, false, false, false, false, false, false] rfl rfl (by kernel_rfl) (fun _ _ _ h => h) (Or.inl ⟨by rfl, ?_⟩) ?_ ?_
        rotate_left
        · intro w'
          go_simp
          with_reducible rfl
        rotate_left
        · simp only [Act.put, List.setIfInBounds_toArray, List.set_cons_zero, List.set_cons_succ, i64_w, i32_w]
          rfl
        refine pure_ (i := 10) (N := some 39) (v := ?_) (a' := ?_) #[true, false, true, true, true, true, false, false, false, false, true, false, false, false, false, false, false, false, false] rfl rfl (by kernel_rfl) (fun _ _ _ h => h) (Or.inl ⟨by rfl, ?_⟩) ?_ ?_
        rotate_left
        · intro w'
          go_simp
          with_reducible rfl
        rotate_left
        · simp only [Act.put, List.setIfInBounds_toArray, List.set_cons_zero, List.set_cons_succ, i64_w, i32_w]
          rfl
        refine pure_ (i := 11) (N := some 40) (v := ?_) (a' := ?_) #[true, false, true, true, true, true, false, false, false, false, true, true, false, false, false, false, false, false, false] rfl rfl (by kernel_rfl) (fun _ _ _ h => h) (Or.inl ⟨by rfl, ?_⟩) ?_ ?_
        rotate_left
        · intro w'
          go_simp
          with_reducible rfl
        rotate_left
        · simp only [Act.put, List.setIfInBounds_toArray, List.set_cons_zero, List.set_cons_succ, i64_w, i32_w]
          rfl
        refine pure_ (i := 12) (N := some 41) (v := ?_) (a' := ?_) #[true, false, true, true, true, true, false, false, false, false, true, true, true, false, false, false, false, false, false] rfl rfl (by kernel_rfl) (fun _ _ _ h => h) (Or.inl ⟨by rfl, ?_⟩) ?_ ?_
        rotate_left
        · intro w'
          go_simp
          with_reducible rfl
        rotate_left
        · simp only [Act.put, List.setIfInBounds_toArray, List.set_cons_zero, List.set_cons_succ, i64_w, i32_w]
          rfl
        refine pure_ (i := 13) (N := some 42) (v := ?_) (a' := ?_) #[true, false, true, true, true, true, false, false, false, false, true, true, true, true, false, false, false, false, false] rfl rfl (by kernel_rfl) (fun _ _ _ h => h) (Or.inl ⟨by rfl, ?_⟩) ?_ ?_
        rotate_left
        · intro w'
          go_simp
          with_reducible rfl
        rotate_left
        · simp only [Act.put, List.setIfInBounds_toArray, List.set_cons_zero, List.set_cons_succ, i64_w, i32_w]
          rfl
        refine pure_ (i := 14) (N := some 43) (v := ?_) (a' := ?_) #[true, false, true, true, true, true, false, false, false, false, true, true, true, true, true, false, false, false, false] rfl rfl (by kernel_rfl) (fun _ _ _ h => h) (Or.inl ⟨by rfl, ?_⟩) ?_ ?_
        rotate_left
        · intro w'
          go_simp
          with_reducible rfl
        rotate_left
        · simp only [Act.put, List.setIfInBounds_toArray, List.set_cons_zero, List.set_cons_succ, i64_w, i32_w]
          rfl
        refine take_ (i := 6) (N := some 35) (v := ?_) (a' := ?_) #[true, false, true, true, true, true, true, false, false, false, true, true, true, true, true, false, false, false, false] rfl rfl (by kernel_rfl) (fun _ _ _ h => h) (Or.inl ⟨by rfl, ?_⟩) hHeld ?_ ?_
        rotate_left
        · intro w' s0
          go_simp
          with_reducible rfl
        rotate_left
        · simp only [Act.put, List.setIfInBounds_toArray, List.set_cons_zero, List.set_cons_succ, i64_w, i32_w]
          rfl
        refine take_ (i := 15) (N := some 44) (v := ?_) (a' := ?_) #[true, false, true, true, true, true, true, false, false, false, true, true, true, true, true, true, false, false, false] rfl rfl (by kernel_rfl) (fun _ _ _ h => h) (Or.inl ⟨by rfl, ?_⟩) hHeld ?_ ?_
        rotate_left
        · intro w' s0
          go_simp
          with_reducible rfl
        rotate_left
        · simp only [Act.put, List.setIfInBounds_toArray, List.set_cons_zero, List.set_cons_succ, i64_w, i32_w]
          rfl
        refine one_ (i := 1) (N := some 30) #[true, true, true, true, true, true, true, false, false, false, true, true, true, true, true, true, false, false, false] rfl rfl (by kernel_rfl) (by decide) (fun K hK => ?_)
        refine Kd.R_lit_step (Kd.string) _ 9 ?hg (N := 30) ?hd (xs := ([] : List ByteArray)) (inner := []) (ok := fun _ => True) (okp := fun _ => True) ?hr ?hp (fun _ hk => hk) trivial (Below.refl _ _) (Nat.le_refl _) (by simp) ?_; (case hd => rfl); (case hg => rfl); (case hr => first | (go_simp; done) | (go_simp; rfl)); (case hp => exact (Reps.none _ _))
        intro v2 w2 hR2 hB2 _ _
        have HR2 := Aside0.mk hR2
        have HB2 := Aside0.mk hB2
        have HT2 := Aside0.mk (HTd.out.below hB2)
        clear hR2 hB2
        refine hK.out _ _ (((HT2.out.bel.cell (World.block_lt_of_cell? w _ HK2.out)).trans HK2.out)) (fun hHeld => ?_)
        clear hK K
        refine norm_ (a' := ?_) ?_ ?_
        rotate_left
        · show Act.put _ (some 30) _ = _
          simp only [Act.put, List.setIfInBounds_toArray, List.set_cons_zero, List.set_cons_succ, i64_w, i32_w]
          rfl
        refine one_ (i := 7) (N := some 36) #[true, true, true, true, true, true, true, true, false, false, true, true, true, true, true, true, false, false, false] rfl rfl (by kernel_rfl) (by decide) (fun K hK => ?_)
        refine Kd.R_append_rows_step (Kd.string) (w0 := wd) (Rr := (Kd.string).K w2) wd.heap.size (by rfl) (.tmp 30) (.tmp 35) 47 9 (.string ByteArray.empty) 16 rfl Try.underlying47 info9 rfl (by decide) (by omega) v2 [] f2 A2 f2.length c2 (fun _ => True) (fun _ => False) rfl rfl HR2.out (Kd.C_below HC2.out HT2.out.bel) (fun x cs hK => hK) (fun _ hk => hk.elim) (fun _ _ => trivial) HB2.out HB2.out.size (by simp only [List.length_nil, Nat.zero_add]; omega) ?_
        intro v3 w3 hR3 hB3 _ _
        rw [List.nil_append] at hR3
        obtain ⟨A3, c3, rfl, hc3, hC3⟩ := Kd.R_reads hR3
        have HC3 := Aside0.mk hC3
        have HT3 := Aside0.mk (HTd.out.below hB3)
        clear hR3 hC3 hB3
        refine hK.out _ _ (((HT3.out.bel.cell (World.block_lt_of_cell? w _ HK2.out)).trans HK2.out)) (fun hHeld => ?_)
        clear hK K
        refine norm_ (a' := ?_) ?_ ?_
        rotate_left
        · show Act.put _ (some 36) _ = _
          simp only [Act.put, List.setIfInBounds_toArray, List.set_cons_zero, List.set_cons_succ, i64_w, i32_w]
          rfl
        refine one_ (i := 8) (N := some 37) #[true, true, true, true, true, true, true, true, true, false, true, true, true, true, true, true, false, false, false] rfl rfl (by kernel_rfl) (by decide) (fun K hK => ?_)
        refine goes_ Try.func27 (by kernel_rfl) rfl #[.pointer (some ⟨g, 0, none⟩), .slice A3 f2.length c3] (by rfl) rfl rfl (by simp only [List.map_toArray, List.map_cons, List.map_nil]; rfl) ?_
        with_reducible refine (textW HT3.out A3 c3 f2 HC3.out hc3 HS3.out HS2.out).mono ?_
        rintro e w4 ⟨rfl, hT4⟩
        refine ⟨_, rfl, ?_⟩
        have HT4 := Aside0.mk hT4
        clear hT4
        refine hK.out _ _ (((HT4.out.bel.cell (World.block_lt_of_cell? w _ HK2.out)).trans HK2.out)) (fun hHeld => ?_)
        clear hK K
        refine norm_ (a' := ?_) ?_ ?_
        rotate_left
        · show Act.put _ (some 37) _ = _
          simp only [Act.put, List.setIfInBounds_toArray, List.set_cons_zero, List.set_cons_succ, i64_w, i32_w]
          rfl
        refine one_ (i := 9) (N := some 38) #[true, true, true, true, true, true, true, true, true, true, true, true, true, true, true, true, false, false, false] rfl rfl (by kernel_rfl) (by decide) (fun K hK => ?_)
        refine goes_ Try.func17 (by kernel_rfl) rfl #[.int .i64 (wtexts l f2).2] (by rfl) rfl rfl (by simp only [List.map_toArray, List.map_cons, List.map_nil]; rfl) ?_
        with_reducible refine (weighhouselaw01_num.calls (wtexts l f2).2 (wtexts l f2).2 _ rfl).mono ?_
        rintro e w5 ⟨rfl, hd5⟩
        refine ⟨_, rfl, ?_⟩
        have HT5 := Aside0.mk (HT4.out.below hd5.below)
        clear hd5
        refine hK.out _ _ (((HT5.out.bel.cell (World.block_lt_of_cell? w _ HK2.out)).trans HK2.out)) (fun hHeld => ?_)
        clear hK K
        refine norm_ (a' := ?_) ?_ ?_
        rotate_left
        · show Act.put _ (some 38) _ = _
          simp only [Act.put, List.setIfInBounds_toArray, List.set_cons_zero, List.set_cons_succ, i64_w, i32_w]
          rfl
        refine one_ (i := 16) (N := some 45) #[true, true, true, true, true, true, true, true, true, true, true, true, true, true, true, true, true, false, false] rfl rfl (by kernel_rfl) (by decide) (fun K hK => ?_)
        refine goes_ Try.func28 (by kernel_rfl) rfl #[.pointer (some ⟨g2, 0, none⟩), .slice A2 f2.length c2] (by rfl) rfl rfl (by simp only [List.map_toArray, List.map_cons, List.map_nil]; rfl) ?_
        with_reducible refine (textR HT5.out A2 c2 f2 (Kd.C_below HC2.out HT5.out.bel) hl2 HS3.out).mono ?_
        rintro e w6 ⟨rfl, hT6⟩
        refine ⟨_, rfl, ?_⟩
        have HT6 := Aside0.mk hT6
        clear hT6
        refine hK.out _ _ (((HT6.out.bel.cell (World.block_lt_of_cell? w _ HK2.out)).trans HK2.out)) (fun hHeld => ?_)
        clear hK K
        refine norm_ (a' := ?_) ?_ ?_
        rotate_left
        · show Act.put _ (some 45) _ = _
          simp only [Act.put, List.setIfInBounds_toArray, List.set_cons_zero, List.set_cons_succ, i64_w, i32_w]
          rfl
        refine pure_ (i := 17) (N := some 46) (v := ?_) (a' := ?_) #[true, true, true, true, true, true, true, true, true, true, true, true, true, true, true, true, true, true, false] rfl rfl (by kernel_rfl) (fun _ _ _ h => h) (Or.inl ⟨by rfl, ?_⟩) ?_ ?_
        rotate_left
        · intro w'
          go_simp
          with_reducible rfl
        rotate_left
        · simp only [Act.put, List.setIfInBounds_toArray, List.set_cons_zero, List.set_cons_succ, i64_w, i32_w]
          rfl
        refine pure_ (i := 18) (N := some 6) (v := ?_) (a' := ?_) #[true, true, true, true, true, true, true, true, true, true, true, true, true, true, true, true, true, true, true] rfl rfl (by kernel_rfl) (fun _ _ _ h => h) (Or.inl ⟨by rfl, ?_⟩) ?_ ?_
        rotate_left
        · intro w'
          go_simp
          with_reducible rfl
        rotate_left
        · simp only [Act.put, List.setIfInBounds_toArray, List.set_cons_zero, List.set_cons_succ, i64_w, i32_w]
          rfl
        refine done_ (by kernel_rfl) ?_
        obtain ⟨l1, hl1'⟩ : ∃ l1, l1 = (wtexts l f2).1 := ⟨_, rfl⟩
        rw [← hl1'] at HT6
        clear hl1'
        go_upto_region 16 with (go_at_call 29; (with_reducible refine (bytesW HT6.out).mono ?_); rintro e w7 ⟨v7, rfl, hR7, hB7⟩; have HT7 := Aside0.mk (HT6.out.keep hB7); have HR7 := Aside0.mk (Kd.R_bound hR7); have HB6 := Aside0.mk HT6.out.bel.size; clear hR7 hB7)
        have hlb1 : l1.length ≤ 1048576 := by
          obtain ⟨_, _, _, _, _, _, hh, _⟩ := HT6.out
          exact hh.1
        clear HT6
        obtain ⟨A7, c7, rfl, hc7, hC7⟩ := Kd.R_reads HR7.out
        have HTd7 := Aside0.mk (HT7.out.below ((Below.refl _ _).drew))
        have HRd7 := Aside0.mk (Kd.R_below HR7.out ((Below.refl _ _).drew))
        have hCd7 := Kd.C_below hC7 ((Below.refl _ _).drew)
        obtain ⟨Ar, cr, hcr, hCr⟩ := HTd7.out.two.refB
        have hcv1 := Kd.C_string (P := Try.prog) (src := 22) (dst := 9) (e := 5) (c := c7) Try.underlying22 Try.underlying5 Try.underlying9 hCd7
        have hcv2 := Kd.C_string (P := Try.prog) (src := 22) (dst := 9) (e := 5) (c := cr) Try.underlying22 Try.underlying5 Try.underlying9 hCr
        obtain ⟨sB, hsB⟩ : ∃ sB, strOfNums l1 = sB := ⟨_, rfl⟩
        rw [hsB] at hcv1 hcv2
        clear hsB hC7 hCd7 hCr HT7 HR7
        refine start_ (n := 12) (S := fun w' => w' = w7.drew ∧ w'.cell? ⟨g2, 0, none⟩ = some (.slice Ar l1.length cr)) (ds := []) #[false, false, false, false, false, false, false, false, false, false, false, false] (by kernel_rfl) rfl rfl ⟨rfl, hcr⟩ (fun hHeld => ?_)
        generalize w7.drew = wd at HTd7 HRd7 hcr hcv1 hcv2 hHeld ⊢
        refine pure_ (i := 0) (N := some 89) (v := ?_) (a' := ?_) #[true, false, false, false, false, false, false, false, false, false, false, false] rfl rfl (by kernel_rfl) (fun _ _ _ h => h) (Or.inl ⟨by rfl, ?_⟩) ?_ ?_
        rotate_left
        · intro w'
          go_simp
          with_reducible rfl
        rotate_left
        · simp only [Act.put, List.setIfInBounds_toArray, List.set_cons_zero, List.set_cons_succ, i64_w, i32_w]
          rfl
        refine pure_ (i := 1) (N := some 90) (v := ?_) (a' := ?_) #[true, true, false, false, false, false, false, false, false, false, false, false] rfl rfl (by kernel_rfl) (fun _ _ _ h => h) (Or.inl ⟨by rfl, ?_⟩) ?_ ?_
        rotate_left
        · intro w'
          go_simp
          with_reducible rfl
        rotate_left
        · simp only [Act.put, List.setIfInBounds_toArray, List.set_cons_zero, List.set_cons_succ, i64_w, i32_w]
          rfl
        refine pure_ (i := 2) (N := some 91) (v := ?_) (a' := ?_) #[true, true, true, false, false, false, false, false, false, false, false, false] rfl rfl (by kernel_rfl) (fun _ _ _ h => h) (Or.inl ⟨by rfl, ?_⟩) ?_ ?_
        rotate_left
        · intro w'
          go_simp
          with_reducible rfl
        rotate_left
        · simp only [Act.put, List.setIfInBounds_toArray, List.set_cons_zero, List.set_cons_succ, i64_w, i32_w]
          rfl
        refine pure_ (i := 3) (N := some 92) (v := ?_) (a' := ?_) #[true, true, true, true, false, false, false, false, false, false, false, false] rfl rfl (by kernel_rfl) (fun _ _ _ h => h) (Or.inl ⟨by rfl, ?_⟩) ?_ ?_
        rotate_left
        · intro w'
          go_simp
          with_reducible rfl
        rotate_left
        · simp only [Act.put, List.setIfInBounds_toArray, List.set_cons_zero, List.set_cons_succ, i64_w, i32_w]
          rfl
        refine pure_ (i := 5) (N := some 94) (v := ?_) (a' := ?_) #[true, true, true, true, false, true, false, false, false, false, false, false] rfl rfl (by kernel_rfl) (fun _ _ _ h => h) (Or.inl ⟨by rfl, ?_⟩) ?_ ?_
        rotate_left
        · intro w'
          go_simp
          with_reducible rfl
        rotate_left
        · simp only [Act.put, List.setIfInBounds_toArray, List.set_cons_zero, List.set_cons_succ, i64_w, i32_w]
          rfl
        refine pure_ (i := 6) (N := some 95) (v := ?_) (a' := ?_) #[true, true, true, true, false, true, true, false, false, false, false, false] rfl rfl (by kernel_rfl) (fun _ _ _ h => h) (Or.inl ⟨by rfl, ?_⟩) ?_ ?_
        rotate_left
        · intro w'
          go_simp
          with_reducible rfl
        rotate_left
        · simp only [Act.put, List.setIfInBounds_toArray, List.set_cons_zero, List.set_cons_succ, i64_w, i32_w]
          rfl
        refine pure_ (i := 7) (N := some 96) (v := ?_) (a' := ?_) #[true, true, true, true, false, true, true, true, false, false, false, false] rfl rfl (by kernel_rfl) (fun _ _ _ h => h) (Or.inl ⟨by rfl, ?_⟩) ?_ ?_
        rotate_left
        · intro w'
          go_simp
          with_reducible rfl
        rotate_left
        · simp only [Act.put, List.setIfInBounds_toArray, List.set_cons_zero, List.set_cons_succ, i64_w, i32_w]
          rfl
        refine take_ (i := 4) (N := some 93) (v := ?_) (a' := ?_) #[true, true, true, true, true, true, true, true, false, false, false, false] rfl rfl (by kernel_rfl) (fun _ _ _ h => h) (Or.inl ⟨by rfl, ?_⟩) hHeld ?_ ?_
        rotate_left
        · rintro w' ⟨s0, s1⟩
          go_simp
          with_reducible rfl
        rotate_left
        · simp only [Act.put, List.setIfInBounds_toArray, List.set_cons_zero, List.set_cons_succ, i64_w, i32_w]
          rfl
        refine take_ (i := 8) (N := some 97) (v := ?_) (a' := ?_) #[true, true, true, true, true, true, true, true, true, false, false, false] rfl rfl (by kernel_rfl) (fun _ _ _ h => h) (Or.inl ⟨by rfl, ?_⟩) hHeld ?_ ?_
        rotate_left
        · rintro w' ⟨s0, s1⟩
          go_simp
          with_reducible rfl
        rotate_left
        · simp only [Act.put, List.setIfInBounds_toArray, List.set_cons_zero, List.set_cons_succ, i64_w, i32_w]
          rfl
        refine take_ (i := 9) (N := some 98) (v := ?_) (a' := ?_) #[true, true, true, true, true, true, true, true, true, true, false, false] rfl rfl (by kernel_rfl) (fun _ _ _ h => h) (Or.inl ⟨by rfl, ?_⟩) hHeld ?_ ?_
        rotate_left
        · rintro w' ⟨s0, s1⟩
          go_simp
          with_reducible rfl
        rotate_left
        · simp only [Act.put, List.setIfInBounds_toArray, List.set_cons_zero, List.set_cons_succ, i64_w, i32_w]
          rfl
        refine pure_ (i := 10) (N := some 99) (v := ?_) (a' := ?_) #[true, true, true, true, true, true, true, true, true, true, true, false] rfl rfl (by kernel_rfl) (fun _ _ _ h => h) (Or.inl ⟨by rfl, ?_⟩) ?_ ?_
        rotate_left
        · intro w'
          go_simp
          with_reducible rfl
        rotate_left
        · simp only [Act.put, List.setIfInBounds_toArray, List.set_cons_zero, List.set_cons_succ, i64_w, i32_w]
          rfl
        refine pure_ (i := 11) (N := some 100) (v := ?_) (a' := ?_) #[true, true, true, true, true, true, true, true, true, true, true, true] rfl rfl (by kernel_rfl) (fun _ _ _ h => h) (Or.inl ⟨by rfl, ?_⟩) ?_ ?_
        rotate_left
        · intro w'
          go_simp
          with_reducible rfl
        rotate_left
        · simp only [Act.put, List.setIfInBounds_toArray, List.set_cons_zero, List.set_cons_succ, i64_w, i32_w]
          rfl
        refine done_ (by kernel_rfl) ?_
        clear hHeld hcr hcv1 hcv2
        go_wp2
        go_loopw [8] (fun q wq => ∃ (m : Nat) (y : List Int), m ≤ l1.length ∧ q = .int .i64 m ∧ Aside0 (y.length = l1.length) ∧ Aside0 ((Kd.int .u8).R 5 wq w6.heap.size (fun k => w6.heap.size ≤ k) (.slice A7 l1.length c7) y) ∧ Aside0 (TwoK w wq w6.heap.size g g2 l1 l1)) (fun q _ => l1.length - (intOf q).toNat)
        case atStart => exact ⟨0, l1, Nat.zero_le _, rfl, ⟨rfl⟩, ⟨Kd.R_mono HRd7.out (fun k hk => hk.2.1)⟩, HTd7⟩
        case round =>
          clear HTd7 HRd7
          obtain ⟨m, y, hm1, rfl, HY, HRq, HTq⟩ := hrel
          by_cases hlt1 : m < l1.length
          · obtain ⟨inner, hin⟩ := Kd.R_own HRq.out
            obtain ⟨gb, cb, hgb, hgb1, _⟩ := hin.form (by have := HY.out; omega)
            injection hgb with e1 e2 e3
            subst e1
            subst e3
            clear hin e2
            have hcel := Kd.R_celln (0 : Int) HRq.out m (by omega) (by omega)
            rw [Int.toNat_natCast] at hcel
            obtain ⟨hce1, hce2⟩ := hcel
            obtain ⟨z, hz⟩ : ∃ z, rdOf (0 : Int) y (m : Int) = z := ⟨_, rfl⟩
            rw [hz] at hce1
            clear hz
            go_wp2
            go_roundw
            case rel => exact ⟨m + 1, _, by omega, by go_num, ⟨by rw [List.length_set]; exact HY.out⟩, ⟨Kd.R_putn HRq.out (m : Int) _⟩, ⟨HTq.out.set_ hgb1 (Nat.le_trans HB6.out hgb1) _⟩⟩
            case measure => simp [intOf]; omega
          · go_wp2
            go_roundw
            case rel => exact ⟨j + 1, l1, by omega, by go_num, ⟨HTq.out.two⟩⟩
            case measure => simp [intOf]; omega
    · go_wp2
      go_ret
      exact ⟨rfl, HT.out.bel⟩


end Go.Proofs.Ytjkimfjhfncldaa.Q
end

section
/- what the readings of the parameters of WireWrites give -/
set_option linter.unusedVariables false
set_option linter.unusedSimpArgs false
namespace Go.Proofs.Ytjkimfjhfncldaa.OpWireWrites
open Go.RowKit Go.Proofs.YtjkimfjhfncldaaW.PrintWords Go.Proofs.YtjkimfjhfncldaaW.Hb Go.Proofs.YtjkimfjhfncldaaW.Ho Go.Proofs.YtjkimfjhfncldaaW.Hu Go.Proofs.Ytjkimfjhfncldaa.Q

theorem opens_slice' {P : Program} {t : TypeId} {α : Type} {d : Kd α} {e B : Nat} {Q : α → Prop} (ht : P.underlying t = some (.slice e)) (hs : P.cellsOf e = d.sz) (hB : P.bytesOf e = B) (hp : Opens P d e Q) :
    Opens P (Kd.slice e d) t (fun xs => xs.length * B ≤ reachBytes ∧ xs.length ≤ maxLen ∧ ∀ x ∈ xs, Q x) := by
  subst hB
  exact opens_slice ht hs hp
def QS49 (x : S49) : Prop := ((Lit.int .i64 (x.f0)).wf = true) ∧ (((x.f1).length * 8 ≤ reachBytes ∧ (x.f1).length ≤ maxLen ∧ ∀ y ∈ (x.f1), (Lit.int .i64 (y)).wf = true)) ∧ (((x.f2).length * 16 ≤ reachBytes ∧ (x.f2).length ≤ maxLen ∧ ∀ y ∈ (x.f2), (y).size ≤ reachBytes))
def BK49 (x : S49) : Nat := 1 + (((x.f1).map (fun z => 1)).sum + 1) + (((x.f2).map (fun z => ((z).size + 1))).sum + 1) + 1
theorem open_S49 : OpensU Try.prog k49 49 QS49 BK49 := by
  intro H enc w base spare held fuel cs x h hw
  obtain ⟨xs, n, _, hx, hl, hxl, hf⟩ := DataW.trod_struct Try.underlying49 h
  rw [show Try.prog.cellsOf 49 = 3 from by kernel_rfl] at hl
  obtain ⟨c0, c1, c2, rfl⟩ : ∃ c0 c1 c2, cs = [c0, c1, c2] := by
    clear hf hx h
    match cs, hl with
    | [c0, c1, c2], _ => exact ⟨c0, c1, c2, rfl⟩
  obtain ⟨y0, y1, y2, rfl⟩ : ∃ y0 y1 y2, xs = [y0, y1, y2] := by
    have hxl2 : xs.length = 3 := hxl
    clear hxl hf hx
    match xs, hxl2 with
    | [y0, y1, y2], _ => exact ⟨y0, y1, y2, rfl⟩
  subst hx
  have g0 : DataW.trod enc Try.prog w base spare held n 3 (([c0, c1, c2].drop 0).take (Try.prog.cellsOf 3)) = some y0 := hf 0 _ rfl
  rw [show Try.prog.cellsOf 3 = 1 from by kernel_rfl] at g0
  replace g0 : DataW.trod enc Try.prog w base spare held n 3 [c0] = some y0 := g0
  obtain ⟨v0, K0, q0, b0⟩ := (opensU_int Try.underlying3) enc w base spare held n _ _ g0 (fun m hm => hw m (weights_field (j := 0) (tj := 3) Try.underlying49 rfl rfl m hm))
  have g1 : DataW.trod enc Try.prog w base spare held n 46 (([c0, c1, c2].drop 1).take (Try.prog.cellsOf 46)) = some y1 := hf 1 _ rfl
  rw [show Try.prog.cellsOf 46 = 1 from by kernel_rfl] at g1
  replace g1 : DataW.trod enc Try.prog w base spare held n 46 [c1] = some y1 := g1
  obtain ⟨v1, K1, q1, b1⟩ := (opensU_slice Try.underlying46 (by kernel_rfl) (by kernel_rfl) (opensU_int Try.underlying3)) enc w base spare held n _ _ g1 (fun m hm => hw m (weights_field (j := 1) (tj := 46) Try.underlying49 rfl rfl m hm))
  have g2 : DataW.trod enc Try.prog w base spare held n 47 (([c0, c1, c2].drop 2).take (Try.prog.cellsOf 47)) = some y2 := hf 2 _ rfl
  rw [show Try.prog.cellsOf 47 = 1 from by kernel_rfl] at g2
  replace g2 : DataW.trod enc Try.prog w base spare held n 47 [c2] = some y2 := g2
  obtain ⟨v2, K2, q2, b2⟩ := (opensU_slice Try.underlying47 (by kernel_rfl) (by kernel_rfl) (opensU_string Try.underlying9)) enc w base spare held n _ _ g2 (fun m hm => hw m (weights_field (j := 2) (tj := 47) Try.underlying49 rfl rfl m hm))
  exact ⟨⟨v0, v1, v2⟩, ⟨[c0], [c1, c2], rfl, K0, ⟨[c1], [c2], rfl, K1, K2⟩⟩, ⟨q0, q1, q2⟩, by dsimp only at b0 b1 b2; simp only [BK49, Rows.uptoBulk, Rows.uptoBulkAll, List.map_cons, List.map_nil]; omega⟩
end Go.Proofs.Ytjkimfjhfncldaa.OpWireWrites
end

section
/- the pure statement of WireWrites -/
namespace Go.Proofs.Ytjkimfjhfncldaa.PuWireWrites
open Go.RowKit Go.Proofs.YtjkimfjhfncldaaW.PrintWords Go.Proofs.YtjkimfjhfncldaaW.Hb Go.Proofs.YtjkimfjhfncldaaW.Ho Go.Proofs.Ytjkimfjhfncldaa.Q Go.Proofs.Ytjkimfjhfncldaa.OpWireWrites
def Pure : Prop := ∀ (x0 : List (S49)), ((x0).length * 56 ≤ reachBytes ∧ (x0).length ≤ maxLen ∧ ∀ y ∈ (x0), QS49 (y)) → (((x0).map BK49).sum + 1) ≤ 1048576 → weighhouselaw01_WireWrites.f x0 = some true
end Go.Proofs.Ytjkimfjhfncldaa.PuWireWrites
end

section
namespace Go.Proofs.Ytjkimfjhfncldaa.Th
open Go.RowKit Go.Proofs.Ytjkimfjhfncldaa.Q Go.Proofs.YtjkimfjhfncldaaW.PrintWords Go.Proofs.YtjkimfjhfncldaaW.PrintLast
theorem sum_mem {α : Type} (f : α → Nat) {x : α} {l : List α} (h : x ∈ l) : f x ≤ (l.map f).sum := by
  induction l with
  | nil => cases h
  | cons y l ih =>
    simp only [List.map_cons, List.sum_cons]
    rcases List.mem_cons.1 h with rfl | h
    · omega
    · have := ih h
      omega
theorem sum_one {α : Type} (l : List α) : (l.map (fun _ => 1)).sum = l.length := by
  induction l with
  | nil => rfl
  | cons y l ih => simp only [List.map_cons, List.sum_cons, ih, List.length_cons]; omega
theorem texts_sum (l : List ByteArray) : (textsB l).length ≤ 2 * (l.map (fun z => z.size + 1)).sum ∧ l.length ≤ (l.map (fun z => z.size + 1)).sum := by
  induction l with
  | nil => simp [textsB]
  | cons y l ih =>
    have e : textsB (y :: l) = textB y ++ textsB l := by simp [textsB]
    have h2 : (textB y).length = 2 + y.size := by unfold textB; rw [List.length_append, bigL_len', bytesOf_length]
    rw [e, List.length_append, h2]
    simp only [List.map_cons, List.sum_cons, List.length_cons]
    omega
end Go.Proofs.Ytjkimfjhfncldaa.Th
end

section
/- WireWrites (inputs of bulk at most 1048576): the pure statement, proved: a writer does what the document says, call by call -/
namespace Go.Proofs.Ytjkimfjhfncldaa.PuWireWrites
open Go.RowKit Go.Proofs.YtjkimfjhfncldaaW.PrintWords Go.Proofs.YtjkimfjhfncldaaW.Hb Go.Proofs.YtjkimfjhfncldaaW.Ho Go.Proofs.Ytjkimfjhfncldaa.Q Go.Proofs.Ytjkimfjhfncldaa.OpWireWrites Go.Proofs.Ytjkimfjhfncldaa.Th

theorem pure : Pure := by
  intro x0 h0 hb
  unfold weighhouselaw01_WireWrites.f
  rw [if_pos]
  rw [List.all_eq_true]
  intro x hx
  have h1 : BK49 x ≤ (x0.map BK49).sum := sum_mem BK49 hx
  have h4 : BK49 x = 1 + (((x.f1).map (fun z => 1)).sum + 1) + (((x.f2).map (fun z => ((z).size + 1))).sum + 1) + 1 := rfl
  have h2 := texts_sum x.f2
  have h3 := sum_one x.f1
  simp only [okPut, Bool.and_eq_true, decide_eq_true_eq]
  omega

end Go.Proofs.Ytjkimfjhfncldaa.PuWireWrites
end
