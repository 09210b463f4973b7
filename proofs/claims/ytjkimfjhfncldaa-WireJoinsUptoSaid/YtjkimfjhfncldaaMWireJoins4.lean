/- texts of one claim, merged: each in a section of its own -/
import Derived.Test.YtjkimfjhfncldaaMWireJoins3
section
-- written by hprint.py (a program of these sessions) out of the translation; Lean checks it
namespace Go.Proofs.Ytjkimfjhfncldaa.Q
open Go.RowKit Go.Proofs.YtjkimfjhfncldaaW.Hb Go.Proofs.YtjkimfjhfncldaaW.PrintWords Go.Proofs.YtjkimfjhfncldaaW.PrintLast Go.Proofs.YtjkimfjhfncldaaW.PrintMore
attribute [local go_sem] max2_int min2_int max_two min_two max_three min_three max_four min_four   -- for this text's walks alone
set_option linter.unusedVariables false
set_option linter.unusedSimpArgs false

/-! ### weighhouselaw01_WireWrites: function 7, by hand -/
def okPut (x : S49) : Bool := decide (x.f1.length ≤ 1048576) && decide (x.f2.length ≤ 1048576) && decide ((textsB x.f2).length ≤ 4194304)
def weighhouselaw01_WireWrites.f (l0 : List S49) : Option Bool := if l0.all okPut = true then some true else none
/-- Two writers, apart. -/
def TwoW (w0 w : World) (g g2 : Nat) (l l2 : List Int) : Prop := ∃ S S2, Wr w S g l ∧ Rw w S2 g2 l2 ∧ (∀ k, S k → w0.heap.size ≤ k ∧ k < w.heap.size ∧ ¬ S2 k) ∧ (∀ k, S2 k → w0.heap.size ≤ k ∧ k < w.heap.size) ∧ (l.length ≤ 1048576 ∧ l2.length ≤ 1048576) ∧ Below w0.heap.size w0 w
theorem TwoW.bel {w0 w : World} {g g2 : Nat} {l l2 : List Int} (h : TwoW w0 w g g2 l l2) : Below w0.heap.size w0 w := by
  obtain ⟨_, _, _, _, _, _, _, h⟩ := h
  exact h
theorem TwoW.below {w0 w w' : World} {g g2 : Nat} {l l2 : List Int} (h : TwoW w0 w g g2 l l2) (hb : Below w.heap.size w w') : TwoW w0 w' g g2 l l2 := by
  obtain ⟨S, S2, h1, h2, h3, h4, h5, h6⟩ := h
  have hs := hb.size
  exact ⟨S, S2, h1.below hb, h2.below hb, fun k hk => ⟨(h3 k hk).1, by have := (h3 k hk).2.1; omega, (h3 k hk).2.2⟩, fun k hk => ⟨(h4 k hk).1, by have := (h4 k hk).2; omega⟩, h5, h6.trans (hb.mono h6.size)⟩
theorem SS_in {S : Nat → Prop} {w0 w w' : World} (hs : w0.heap.size ≤ w.heap.size) (hw : w.heap.size ≤ w'.heap.size) (h : ∀ k, S k → w0.heap.size ≤ k ∧ k < w.heap.size) : ∀ k, SS S w w' k → w0.heap.size ≤ k ∧ k < w'.heap.size := by
  intro k hk
  rcases hk with hk | hk
  · have := h k hk
    omega
  · omega
theorem TwoW.first {w0 w w' : World} {S S2 : Nat → Prop} {g g2 : Nat} {l l2 : List Int} (h2 : Rw w S2 g2 l2) (h3 : ∀ k, S k → w0.heap.size ≤ k ∧ k < w.heap.size ∧ ¬ S2 k) (h4 : ∀ k, S2 k → w0.heap.size ≤ k ∧ k < w.heap.size) (hl2 : l2.length ≤ 1048576) (h6 : Below w0.heap.size w0 w) (h1 : Wr w' (SS S w w') g l) (hf : Fr w w' S) (hl : l.length ≤ 1048576) : TwoW w0 w' g g2 l l2 := by
  have hs := h6.size
  have hw := hf.1.size
  refine ⟨SS S w w', S2, h1, h2.kept hf.2 (fun k hk hS => (h3 k hS).2.2 hk), fun k hk => ?_, fun k hk => ⟨(h4 k hk).1, by have := (h4 k hk).2; omega⟩, ⟨hl, hl2⟩, h6.trans (hf.below hs (fun k hk => (h3 k hk).1))⟩
  refine ⟨(SS_in hs hw (fun k hk => ⟨(h3 k hk).1, (h3 k hk).2.1⟩) k hk).1, (SS_in hs hw (fun k hk => ⟨(h3 k hk).1, (h3 k hk).2.1⟩) k hk).2, fun h => ?_⟩
  rcases hk with hk | hk
  · exact (h3 k hk).2.2 h
  · have := (h4 k h).2
    omega
theorem TwoW.second {w0 w w' : World} {S S2 : Nat → Prop} {g g2 : Nat} {l l2 : List Int} (h1 : Wr w S g l) (h3 : ∀ k, S k → w0.heap.size ≤ k ∧ k < w.heap.size ∧ ¬ S2 k) (h4 : ∀ k, S2 k → w0.heap.size ≤ k ∧ k < w.heap.size) (hl : l.length ≤ 1048576) (h6 : Below w0.heap.size w0 w) (h2 : Rw w' (SS S2 w w') g2 l2) (hf : Fr w w' S2) (hl2 : l2.length ≤ 1048576) : TwoW w0 w' g g2 l l2 := by
  have hs := h6.size
  have hw := hf.1.size
  refine ⟨S, SS S2 w w', h1.kept hf.2 (fun k hk hS => (h3 k hk).2.2 hS), h2, fun k hk => ⟨(h3 k hk).1, by have := (h3 k hk).2.1; omega, fun h => ?_⟩, SS_in hs hw h4, ⟨hl, hl2⟩, h6.trans (hf.below hs (fun k hk => (h4 k hk).1))⟩
  rcases h with h | h
  · exact (h3 k hk).2.2 h
  · have := (h3 k hk).2.1
    omega
theorem wmore_len {l : List Int} (h : l.length ≤ 1048576) (p : List Int) : (wmore l p).1.length ≤ 1048576 := by
  unfold wmore
  split
  · exact h
  · rw [List.length_append]
    omega
theorem wbytes_len {l : List Int} (h : l.length ≤ 1048576) (p : List Int) : (wbytes l p).1.length ≤ 1048576 := by
  unfold wbytes
  split
  · exact h
  · exact wmore_len h p
theorem wtexts_len {l : List Int} (h : l.length ≤ 1048576) (p : List ByteArray) : (wtexts l p).1.length ≤ 1048576 := by
  unfold wtexts
  split
  · exact h
  · exact wmore_len h _
theorem at_PutN {w : World} {A : Option Addr} {n : Nat} {xs : List S49} (h : Kd.C k49 w A n xs) (i : Nat) (hi : i < xs.length) : ∃ ad A1 c1 A2 c2, A = some ad ∧ w.cell? (ad.add (i * 3)) = some (.int .i64 xs[i].f0) ∧ w.cell? ⟨(ad.add (i * 3)).block, (ad.add (i * 3)).off + 1, none⟩ = some (.slice A1 xs[i].f1.length c1) ∧ w.cell? ⟨(ad.add (i * 3)).block, (ad.add (i * 3)).off + 2, none⟩ = some (.slice A2 xs[i].f2.length c2) ∧ xs[i].f1.length ≤ c1 ∧ (Kd.int .i64).C w A1 xs[i].f1.length xs[i].f1 ∧ xs[i].f2.length ≤ c2 ∧ Kd.string.C w A2 xs[i].f2.length xs[i].f2 := by
  obtain ⟨ad, A1, c1, A2, c2, e, h0, h1, h2, r⟩ := at_T49 h i (by omega) (by have := h.1; omega)
  rw [Int.toNat_natCast] at h0 h1 h2
  have e2 : rd_T49 xs i = xs[i] := by simp [rd_T49, List.getD_eq_getElem?_getD, hi]
  rw [e2] at h0 h1 h2 r
  exact ⟨ad, A1, c1, A2, c2, e, h0, h1, h2, r⟩
theorem byteW {w0 w : World} {g g2 : Nat} {l l2 : List Int} (hT : TwoW w0 w g g2 l l2) (A : Option Addr) (c : Nat) (xs : List Int) (hr : (Kd.int .i64).C w A xs.length xs) (hc : xs.length ≤ c) (hsum : xs.length * 8 ≤ 140737488355328) :
    Calls Try.prog 23 #[.pointer (some ⟨g, 0, none⟩), .slice A xs.length c] w fun e w' => e = .returned (.int .i64 (wbytes l xs).2) ∧ TwoW w0 w' g g2 (wbytes l xs).1 l2 := by
  obtain ⟨S, S2, h1, h2, h3, h4, ⟨hl, hl2⟩, h6⟩ := hT
  exact (wire_Writer_Byte.calls S g l A xs.length c xs w rfl hr hc hsum h1 hl).mono fun e w' ⟨he, hW, hF⟩ => ⟨he, TwoW.first h2 h3 h4 hl2 h6 hW hF (wbytes_len hl xs)⟩
theorem intW {w0 w : World} {g g2 : Nat} {l l2 : List Int} (hT : TwoW w0 w g g2 l l2) (A : Option Addr) (c : Nat) (xs : List Int) (hr : (Kd.int .i64).C w A xs.length xs) (hc : xs.length ≤ c) (hsum : xs.length * 8 ≤ 140737488355328) :
    Calls Try.prog 25 #[.pointer (some ⟨g, 0, none⟩), .slice A xs.length c] w fun e w' => e = .returned (.int .i64 (wmore l (ints8 xs)).2) ∧ TwoW w0 w' g g2 (wmore l (ints8 xs)).1 l2 := by
  obtain ⟨S, S2, h1, h2, h3, h4, ⟨hl, hl2⟩, h6⟩ := hT
  exact (wire_Writer_Int.calls S g l A xs.length c xs w rfl hr hc hsum h1 hl).mono fun e w' ⟨he, hW, hF⟩ => ⟨he, TwoW.first h2 h3 h4 hl2 h6 hW hF (wmore_len hl _)⟩
theorem textW {w0 w : World} {g g2 : Nat} {l l2 : List Int} (hT : TwoW w0 w g g2 l l2) (A : Option Addr) (c : Nat) (xs : List ByteArray) (hr : Kd.string.C w A xs.length xs) (hc : xs.length ≤ c) (hsum : (textsB xs).length * 1 ≤ 140737488355328) (hcnt : xs.length * 48 ≤ 140737488355328) :
    Calls Try.prog 27 #[.pointer (some ⟨g, 0, none⟩), .slice A xs.length c] w fun e w' => e = .returned (.int .i64 (wtexts l xs).2) ∧ TwoW w0 w' g g2 (wtexts l xs).1 l2 := by
  obtain ⟨S, S2, h1, h2, h3, h4, ⟨hl, hl2⟩, h6⟩ := hT
  exact (wire_Writer_Text.calls S g l A xs.length c xs w rfl hr hc hsum hcnt h1 hl).mono fun e w' ⟨he, hW, hF⟩ => ⟨he, TwoW.first h2 h3 h4 hl2 h6 hW hF (wtexts_len hl xs)⟩
theorem byteR {w0 w : World} {g g2 : Nat} {l l2 : List Int} (hT : TwoW w0 w g g2 l l2) (A : Option Addr) (c : Nat) (xs : List Int) (hr : (Kd.int .i64).C w A xs.length xs) (hc : xs.length ≤ c) (hsum : xs.length * 8 ≤ 140737488355328) :
    Calls Try.prog 24 #[.pointer (some ⟨g2, 0, none⟩), .slice A xs.length c] w fun e w' => e = .returned (.int .i64 (wbytes l2 xs).2) ∧ TwoW w0 w' g g2 l (wbytes l2 xs).1 := by
  obtain ⟨S, S2, h1, h2, h3, h4, ⟨hl, hl2⟩, h6⟩ := hT
  exact (weighhouseref01_Writer_Byte.calls S2 g2 l2 A xs.length c xs w rfl hr hc hsum h2 hl2).mono fun e w' ⟨he, hW, hF⟩ => ⟨he, TwoW.second h1 h3 h4 hl h6 hW hF (wbytes_len hl2 xs)⟩
theorem intR {w0 w : World} {g g2 : Nat} {l l2 : List Int} (hT : TwoW w0 w g g2 l l2) (A : Option Addr) (c : Nat) (xs : List Int) (hr : (Kd.int .i64).C w A xs.length xs) (hc : xs.length ≤ c) (hsum : xs.length * 8 ≤ 140737488355328) :
    Calls Try.prog 26 #[.pointer (some ⟨g2, 0, none⟩), .slice A xs.length c] w fun e w' => e = .returned (.int .i64 (wmore l2 (ints8 xs)).2) ∧ TwoW w0 w' g g2 l (wmore l2 (ints8 xs)).1 := by
  obtain ⟨S, S2, h1, h2, h3, h4, ⟨hl, hl2⟩, h6⟩ := hT
  exact (weighhouseref01_Writer_Int.calls S2 g2 l2 A xs.length c xs w rfl hr hc hsum h2 hl2).mono fun e w' ⟨he, hW, hF⟩ => ⟨he, TwoW.second h1 h3 h4 hl h6 hW hF (wmore_len hl2 _)⟩
theorem textR {w0 w : World} {g g2 : Nat} {l l2 : List Int} (hT : TwoW w0 w g g2 l l2) (A : Option Addr) (c : Nat) (xs : List ByteArray) (hr : Kd.string.C w A xs.length xs) (hc : xs.length ≤ c) (hsum : (textsB xs).length * 1 ≤ 140737488355328) :
    Calls Try.prog 28 #[.pointer (some ⟨g2, 0, none⟩), .slice A xs.length c] w fun e w' => e = .returned (.int .i64 (wtexts l2 xs).2) ∧ TwoW w0 w' g g2 l (wtexts l2 xs).1 := by
  obtain ⟨S, S2, h1, h2, h3, h4, ⟨hl, hl2⟩, h6⟩ := hT
  exact (weighhouseref01_Writer_Text.calls S2 g2 l2 A xs.length c xs w rfl hr hc hsum h2 hl2).mono fun e w' ⟨he, hW, hF⟩ => ⟨he, TwoW.second h1 h3 h4 hl h6 hW hF (wtexts_len hl2 xs)⟩
theorem bytesW {w0 w : World} {g g2 : Nat} {l l2 : List Int} (hT : TwoW w0 w g g2 l l2) : Calls Try.prog 29 #[.pointer (some ⟨g, 0, none⟩)] w (OwnRes (Kd.int .u8) 5 w l) := by
  obtain ⟨S, S2, h1, h2, h3, h4, ⟨hl, hl2⟩, h6⟩ := hT
  exact wire_Writer_Bytes.calls S g l w h1 hl
/-- The document's writer's bytes, where they lie. -/
theorem TwoW.refB {w0 w : World} {g g2 : Nat} {l l2 : List Int} (hT : TwoW w0 w g g2 l l2) : ∃ A c, w.cell? ⟨g2, 0, none⟩ = some (.slice A l2.length c) ∧ (Kd.int .u8).C w A l2.length l2 := by
  obtain ⟨S, S2, h1, ⟨v, hb, hS, hR⟩, h3, h4, ⟨hl, hl2⟩, h6⟩ := hT
  obtain ⟨A, c, rfl, hc, hC⟩ := Kd.R_reads hR
  exact ⟨A, c, hb.cell 0, hC⟩
/-- Two writers whose blocks lie below b. -/
def TwoK (w0 w : World) (b g g2 : Nat) (l l2 : List Int) : Prop := ∃ S S2, Wr w S g l ∧ Rw w S2 g2 l2 ∧ (∀ k, S k → w0.heap.size ≤ k ∧ k < b ∧ ¬ S2 k) ∧ (∀ k, S2 k → w0.heap.size ≤ k ∧ k < b) ∧ (l.length ≤ 1048576 ∧ l2.length ≤ 1048576) ∧ Below w0.heap.size w0 w ∧ b ≤ w.heap.size
theorem TwoW.keep {w0 w w' : World} {g g2 : Nat} {l l2 : List Int} (h : TwoW w0 w g g2 l l2) (hb : Below w.heap.size w w') : TwoK w0 w' w.heap.size g g2 l l2 := by
  obtain ⟨S, S2, h1, h2, h3, h4, h5, h6⟩ := h
  exact ⟨S, S2, h1.below hb, h2.below hb, h3, h4, h5, h6.trans (hb.mono h6.size), hb.size⟩
theorem TwoK.two {w0 w : World} {b g g2 : Nat} {l l2 : List Int} (h : TwoK w0 w b g g2 l l2) : TwoW w0 w g g2 l l2 := by
  obtain ⟨S, S2, h1, h2, h3, h4, h5, h6, h7⟩ := h
  exact ⟨S, S2, h1, h2, fun k hk => ⟨(h3 k hk).1, by have := (h3 k hk).2.1; omega, (h3 k hk).2.2⟩, fun k hk => ⟨(h4 k hk).1, by have := (h4 k hk).2; omega⟩, h5, h6⟩
theorem TwoK.below {w0 w w' : World} {b g g2 : Nat} {l l2 : List Int} (h : TwoK w0 w b g g2 l l2) (hb : Below w.heap.size w w') : TwoK w0 w' b g g2 l l2 := by
  obtain ⟨S, S2, h1, h2, h3, h4, h5, h6, h7⟩ := h
  have hs := hb.size
  exact ⟨S, S2, h1.below hb, h2.below hb, h3, h4, h5, h6.trans (hb.mono h6.size), by omega⟩
theorem TwoK.set_ {w0 w : World} {b g g2 : Nat} {l l2 : List Int} (h : TwoK w0 w b g g2 l l2) {p : Addr} (hp : b ≤ p.block) (hp0 : w0.heap.size ≤ p.block) (u : Value) : TwoK w0 (w.setCell p u) b g g2 l l2 := by
  obtain ⟨S, S2, h1, h2, h3, h4, h5, h6, h7⟩ := h
  have hk : Kept w (w.setCell p u) (fun k => k = p.block) := Kept.setCell (S := fun k => k = p.block) (Kept.refl w _) (.inl rfl) u
  refine ⟨S, S2, h1.kept hk (fun k hS he => ?_), h2.kept hk (fun k hS he => ?_), h3, h4, h5, h6.setCell hp0 u, by simpa [World.setCell] using h7⟩
  · have := (h3 k hS).2.1
    omega
  · have := (h4 k hS).2
    omega
set_option maxRecDepth 100000 in
set_option maxHeartbeats 4000000 in
theorem weighhouselaw01_WireWrites.calls (A0 : Option Addr) (c0 : Nat) (l0 : List S49) (r : Bool) (w : World) (hr0 : Kd.C k49 w A0 l0.length l0) (hc0 : l0.length ≤ c0) (h : weighhouselaw01_WireWrites.f l0 = some r) :
    Calls Try.prog 7 #[.slice A0 l0.length c0] w fun e w' => e = .returned (.bool r) ∧ Below w.heap.size w w' := by
  have hm : l0.length ≤ 9223372036854775807 := hr0.2.1
  have HR := Aside0.mk hr0
  clear hr0
  unfold weighhouselaw01_WireWrites.f at h
  split at h
  rotate_left
  · cases h
  rename_i hall
  obtain rfl := Option.some.inj h
  have HALL := Aside0.mk hall
  clear hall h
  go_enter Try.func7, Try.ntmps7
  go_upto_region 2 with (go_at_call 22; (with_reducible refine (wire_NewWriter.calls w).mono ?_); rintro e w1 ⟨g, rfl, hW1, hg1, hB1⟩; have HW1 := Aside0.mk hW1; have HB1 := Aside0.mk hB1; clear hW1 hB1)
  have HB2 := Aside0.mk (HB1.out.alloc HB1.out.size (.cells #[.slice none 0 0] 45))
  have HT2 : TwoW w (w1.alloc (.cells #[.slice none 0 0] 45)) g w1.heap.size [] [] := ⟨fun k => k = g, fun k => k = w1.heap.size, HW1.out.below ((Below.refl _ _).alloc (Nat.le_refl _) _), ⟨.slice none 0 0, Blk.new w1 _ _, rfl, Kd.R_nil _ _ _ _ _⟩, fun k hk => by
    subst hk
    have := HW1.out.lt
    simp
    omega, fun k hk => by
    subst hk
    have := HB1.out.size
    simp
    omega, ⟨by simp, by simp⟩, HB2.out⟩
  have HT2 := Aside0.mk HT2
  go_wp2_with (go_at_call 19; (with_reducible refine (weighhouselaw01_knows.calls true _ rfl).mono ?_); rintro e w3 ⟨rfl, hB3⟩; have HT3 := Aside0.mk (HT2.out.below hB3); clear hB3)
  clear HT2 HB2 HW1 HB1 hg1
  obtain ⟨g2, hg2⟩ : ∃ g2, w1.heap.size = g2 := ⟨_, rfl⟩
  rw [hg2] at HT3 ⊢
  clear hg2
  go_loopw [5] (fun i wr => ∃ (j : Nat) (l : List Int), j ≤ l0.length ∧ i = .int .i64 j ∧ Aside0 (TwoW w wr g g2 l l)) (fun i _ => l0.length - (intOf i).toNat)
  case atStart => exact ⟨0, [], Nat.zero_le _, rfl, HT3⟩
  case round =>
    clear HT3
    obtain ⟨j, l, hj, rfl, HT⟩ := hrel
    by_cases hlt : j < l0.length
    · obtain ⟨ad, A1, c1, A2, c2, e, hk0, hk1, hk2, hl1, hC1, hl2, hC2⟩ := at_PutN HR.out j hlt
      cases e
      have hokp := List.all_eq_true.1 HALL.out _ (List.getElem_mem hlt)
      obtain ⟨x, hx⟩ : ∃ x, x = l0[j] := ⟨_, rfl⟩
      rw [← hx] at hk0 hk1 hk2 hl1 hC1 hl2 hC2 hokp
      clear hx
      obtain ⟨f0, f1, f2⟩ := x
      dsimp only at hk0 hk1 hk2 hl1 hC1 hl2 hC2
      simp only [okPut, Bool.and_eq_true, decide_eq_true_eq] at hokp
      obtain ⟨⟨hs1, hs2⟩, hs3⟩ := hokp
      have HK0 := Aside0.mk hk0
      have HK1 := Aside0.mk hk1
      have HK2 := Aside0.mk hk2
      have HC1 := Aside0.mk hC1
      have HC2 := Aside0.mk hC2
      have HS1 := Aside0.mk (show f1.length * 8 ≤ 140737488355328 by omega)
      have HS2 := Aside0.mk (show f2.length * 48 ≤ 140737488355328 by omega)
      have HS3 := Aside0.mk (show (textsB f2).length * 1 ≤ 140737488355328 by omega)
      replace hk0 := (HT.out.bel.cell (World.block_lt_of_cell? w _ hk0)).trans hk0
      clear hk1 hk2 hC1 hC2
      by_cases h0 : f0 = 0
      · have d1 : (f0 == 0) = true := by simp [h0]
        clear h0
        go_upto_region 12 with (fail)
        have HTd := Aside0.mk (HT.out.below ((Below.refl _ _).drew))
        clear HT hk0
        refine start_ (n := 19) (S := fun w' => w'.cell? ⟨(ad.add (j * 3)).block, (ad.add (j * 3)).off + 1, none⟩ = some (.slice A1 f1.length c1)) (ds := []) #[false, false, false, false, false, false, false, false, false, false, false, false, false, false, false, false, false, false, false] (by kernel_rfl) rfl rfl (((HTd.out.bel.cell (World.block_lt_of_cell? w _ HK1.out)).trans HK1.out)) (fun hHeld => ?_)
        generalize wr.drew = wd at HTd hHeld ⊢
        refine pure_ (i := 0) (N := some 49) (v := ?_) (a' := ?_) #[true, false, false, false, false, false, false, false, false, false, false, false, false, false, false, false, false, false, false] rfl rfl (by kernel_rfl) (fun _ _ _ h => h) (Or.inl ⟨by rfl, ?_⟩) ?_ ?_
        rotate_left
        · intro w'
          go_simp
          with_reducible rfl
        rotate_left
        · simp only [Act.put, List.setIfInBounds_toArray, List.set_cons_zero, List.set_cons_succ, i64_w, i32_w]
          rfl
        refine pure_ (i := 2) (N := some 51) (v := ?_) (a' := ?_) #[true, false, true, false, false, false, false, false, false, false, false, false, false, false, false, false, false, false, false] rfl rfl (by kernel_rfl) (fun _ _ _ h => h) (Or.inl ⟨by rfl, ?_⟩) ?_ ?_
        rotate_left
        · intro w'
          go_simp
          with_reducible rfl
        rotate_left
        · simp only [Act.put, List.setIfInBounds_toArray, List.set_cons_zero, List.set_cons_succ, i64_w, i32_w]
          rfl
        refine pure_ (i := 3) (N := some 52) (v := ?_) (a' := ?_) #[true, false, true, true, false, false, false, false, false, false, false, false, false, false, false, false, false, false, false] rfl rfl (by kernel_rfl) (fun _ _ _ h => h) (Or.inl ⟨by rfl, ?_⟩) ?_ ?_
        rotate_left
        · intro w'
          go_simp
          with_reducible rfl
        rotate_left
        · simp only [Act.put, List.setIfInBounds_toArray, List.set_cons_zero, List.set_cons_succ, i64_w, i32_w]
          rfl
        refine pure_ (i := 4) (N := some 53) (v := ?_) (a' := ?_) #[true, false, true, true, true, false, false, false, false, false, false, false, false, false, false, false, false, false, false] rfl rfl (by kernel_rfl) (fun _ _ _ h => h) (Or.inl ⟨by rfl, ?_⟩) ?_ ?_
        rotate_left
        · intro w'
          go_simp
          with_reducible rfl
        rotate_left
        · simp only [Act.put, List.setIfInBounds_toArray, List.set_cons_zero, List.set_cons_succ, i64_w, i32_w]
          rfl
        refine pure_ (i := 5) (N := some 54) (v := ?_) (a' := ?_) #[true, false, true, true, true, true, false, false, false, false, false, false, false, false, false, false, false, false, false] rfl rfl (by kernel_rfl) (fun _ _ _ h => h) (Or.inl ⟨by rfl, ?_⟩) ?_ ?_
        rotate_left
        · intro w'
          go_simp
          with_reducible rfl
        rotate_left
        · simp only [Act.put, List.setIfInBounds_toArray, List.set_cons_zero, List.set_cons_succ, i64_w, i32_w]
          rfl
        refine pure_ (i := 10) (N := some 59) (v := ?_) (a' := ?_) #[true, false, true, true, true, true, false, false, false, false, true, false, false, false, false, false, false, false, false] rfl rfl (by kernel_rfl) (fun _ _ _ h => h) (Or.inl ⟨by rfl, ?_⟩) ?_ ?_
        rotate_left
        · intro w'
          go_simp
          with_reducible rfl
        rotate_left
        · simp only [Act.put, List.setIfInBounds_toArray, List.set_cons_zero, List.set_cons_succ, i64_w, i32_w]
          rfl
        refine pure_ (i := 11) (N := some 60) (v := ?_) (a' := ?_) #[true, false, true, true, true, true, false, false, false, false, true, true, false, false, false, false, false, false, false] rfl rfl (by kernel_rfl) (fun _ _ _ h => h) (Or.inl ⟨by rfl, ?_⟩) ?_ ?_
        rotate_left
        · intro w'
          go_simp
          with_reducible rfl
        rotate_left
        · simp only [Act.put, List.setIfInBounds_toArray, List.set_cons_zero, List.set_cons_succ, i64_w, i32_w]
          rfl
        refine pure_ (i := 12) (N := some 61) (v := ?_) (a' := ?_) #[true, false, true, true, true, true, false, false, false, false, true, true, true, false, false, false, false, false, false] rfl rfl (by kernel_rfl) (fun _ _ _ h => h) (Or.inl ⟨by rfl, ?_⟩) ?_ ?_
        rotate_left
        · intro w'
          go_simp
          with_reducible rfl
        rotate_left
        · simp only [Act.put, List.setIfInBounds_toArray, List.set_cons_zero, List.set_cons_succ, i64_w, i32_w]
          rfl
        refine pure_ (i := 13) (N := some 62) (v := ?_) (a' := ?_) #[true, false, true, true, true, true, false, false, false, false, true, true, true, true, false, false, false, false, false] rfl rfl (by kernel_rfl) (fun _ _ _ h => h) (Or.inl ⟨by rfl, ?_⟩) ?_ ?_
        rotate_left
        · intro w'
          go_simp
          with_reducible rfl
        rotate_left
        · simp only [Act.put, List.setIfInBounds_toArray, List.set_cons_zero, List.set_cons_succ, i64_w, i32_w]
          rfl
        refine pure_ (i := 14) (N := some 63) (v := ?_) (a' := ?_) #[true, false, true, true, true, true, false, false, false, false, true, true, true, true, true, false, false, false, false] rfl rfl (by kernel_rfl) (fun _ _ _ h => h) (Or.inl ⟨by rfl, ?_⟩) ?_ ?_
        rotate_left
        · intro w'
          go_simp
          with_reducible rfl
        rotate_left
        · simp only [Act.put, List.setIfInBounds_toArray, List.set_cons_zero, List.set_cons_succ, i64_w, i32_w]
          rfl
        refine take_ (i := 6) (N := some 55) (v := ?_) (a' := ?_) #[true, false, true, true, true, true, true, false, false, false, true, true, true, true, true, false, false, false, false] rfl rfl (by kernel_rfl) (fun _ _ _ h => h) (Or.inl ⟨by rfl, ?_⟩) hHeld ?_ ?_
        rotate_left
        · intro w' s0
          go_simp
          with_reducible rfl
        rotate_left
        · simp only [Act.put, List.setIfInBounds_toArray, List.set_cons_zero, List.set_cons_succ, i64_w, i32_w]
          rfl
        refine take_ (i := 15) (N := some 64) (v := ?_) (a' := ?_) #[true, false, true, true, true, true, true, false, false, false, true, true, true, true, true, true, false, false, false] rfl rfl (by kernel_rfl) (fun _ _ _ h => h) (Or.inl ⟨by rfl, ?_⟩) hHeld ?_ ?_
        rotate_left
        · intro w' s0
          go_simp
          with_reducible rfl
        rotate_left
        · simp only [Act.put, List.setIfInBounds_toArray, List.set_cons_zero, List.set_cons_succ, i64_w, i32_w]
          rfl
        refine one_ (i := 1) (N := some 50) #[true, true, true, true, true, true, true, false, false, false, true, true, true, true, true, true, false, false, false] rfl rfl (by kernel_rfl) (by decide) (fun K hK => ?_)
        refine Kd.R_lit_step (Kd.int .i64) _ 3 ?hg (N := 50) ?hd (xs := ([] : List Int)) (inner := []) (ok := fun _ => True) (okp := fun _ => True) ?hr ?hp (fun _ hk => hk) trivial (Below.refl _ _) (Nat.le_refl _) (by simp) ?_; (case hd => rfl); (case hg => rfl); (case hr => first | (go_simp; done) | (go_simp; rfl)); (case hp => exact (Reps.none _ _))
        intro v2 w2 hR2 hB2 _ _
        have HR2 := Aside0.mk hR2
        have HB2 := Aside0.mk hB2
        have HT2 := Aside0.mk (HTd.out.below hB2)
        clear hR2 hB2
        refine hK.out _ _ (((HT2.out.bel.cell (World.block_lt_of_cell? w _ HK1.out)).trans HK1.out)) (fun hHeld => ?_)
        clear hK K
        refine norm_ (a' := ?_) ?_ ?_
        rotate_left
        · show Act.put _ (some 50) _ = _
          simp only [Act.put, List.setIfInBounds_toArray, List.set_cons_zero, List.set_cons_succ, i64_w, i32_w]
          rfl
        refine one_ (i := 7) (N := some 56) #[true, true, true, true, true, true, true, true, false, false, true, true, true, true, true, true, false, false, false] rfl rfl (by kernel_rfl) (by decide) (fun K hK => ?_)
        refine Kd.R_append_rows_step (Kd.int .i64) (w0 := wd) (Rr := (Kd.int .i64).K w2) wd.heap.size (by rfl) (.tmp 50) (.tmp 55) 46 3 (.int .i64 0) 8 rfl Try.underlying46 info3 rfl (by decide) (by omega) v2 [] f1 A1 f1.length c1 (fun _ => True) (fun _ => False) rfl rfl HR2.out (Kd.C_below HC1.out HT2.out.bel) (fun x cs hK => hK) (fun _ hk => hk.elim) (fun _ _ => trivial) HB2.out HB2.out.size (by simp only [List.length_nil, Nat.zero_add]; omega) ?_
        intro v3 w3 hR3 hB3 _ _
        rw [List.nil_append] at hR3
        obtain ⟨A3, c3, rfl, hc3, hC3⟩ := Kd.R_reads hR3
        have HC3 := Aside0.mk hC3
        have HT3 := Aside0.mk (HTd.out.below hB3)
        clear hR3 hC3 hB3
        refine hK.out _ _ (((HT3.out.bel.cell (World.block_lt_of_cell? w _ HK1.out)).trans HK1.out)) (fun hHeld => ?_)
        clear hK K
        refine norm_ (a' := ?_) ?_ ?_
        rotate_left
        · show Act.put _ (some 56) _ = _
          simp only [Act.put, List.setIfInBounds_toArray, List.set_cons_zero, List.set_cons_succ, i64_w, i32_w]
          rfl
        refine one_ (i := 8) (N := some 57) #[true, true, true, true, true, true, true, true, true, false, true, true, true, true, true, true, false, false, false] rfl rfl (by kernel_rfl) (by decide) (fun K hK => ?_)
        refine goes_ Try.func23 (by kernel_rfl) rfl #[.pointer (some ⟨g, 0, none⟩), .slice A3 f1.length c3] (by rfl) rfl rfl (by simp only [List.map_toArray, List.map_cons, List.map_nil]; rfl) ?_
        with_reducible refine (byteW HT3.out A3 c3 f1 HC3.out hc3 HS1.out).mono ?_
        rintro e w4 ⟨rfl, hT4⟩
        refine ⟨_, rfl, ?_⟩
        have HT4 := Aside0.mk hT4
        clear hT4
        refine hK.out _ _ (((HT4.out.bel.cell (World.block_lt_of_cell? w _ HK1.out)).trans HK1.out)) (fun hHeld => ?_)
        clear hK K
        refine norm_ (a' := ?_) ?_ ?_
        rotate_left
        · show Act.put _ (some 57) _ = _
          simp only [Act.put, List.setIfInBounds_toArray, List.set_cons_zero, List.set_cons_succ, i64_w, i32_w]
          rfl
        refine one_ (i := 9) (N := some 58) #[true, true, true, true, true, true, true, true, true, true, true, true, true, true, true, true, false, false, false] rfl rfl (by kernel_rfl) (by decide) (fun K hK => ?_)
        refine goes_ Try.func17 (by kernel_rfl) rfl #[.int .i64 (wbytes l f1).2] (by rfl) rfl rfl (by simp only [List.map_toArray, List.map_cons, List.map_nil]; rfl) ?_
        with_reducible refine (weighhouselaw01_num.calls (wbytes l f1).2 (wbytes l f1).2 _ rfl).mono ?_
        rintro e w5 ⟨rfl, hd5⟩
        refine ⟨_, rfl, ?_⟩
        have HT5 := Aside0.mk (HT4.out.below hd5.below)
        clear hd5
        refine hK.out _ _ (((HT5.out.bel.cell (World.block_lt_of_cell? w _ HK1.out)).trans HK1.out)) (fun hHeld => ?_)
        clear hK K
        refine norm_ (a' := ?_) ?_ ?_
        rotate_left
        · show Act.put _ (some 58) _ = _
          simp only [Act.put, List.setIfInBounds_toArray, List.set_cons_zero, List.set_cons_succ, i64_w, i32_w]
          rfl
        refine one_ (i := 16) (N := some 65) #[true, true, true, true, true, true, true, true, true, true, true, true, true, true, true, true, true, false, false] rfl rfl (by kernel_rfl) (by decide) (fun K hK => ?_)
        refine goes_ Try.func24 (by kernel_rfl) rfl #[.pointer (some ⟨g2, 0, none⟩), .slice A1 f1.length c1] (by rfl) rfl rfl (by simp only [List.map_toArray, List.map_cons, List.map_nil]; rfl) ?_
        with_reducible refine (byteR HT5.out A1 c1 f1 (Kd.C_below HC1.out HT5.out.bel) hl1 HS1.out).mono ?_
        rintro e w6 ⟨rfl, hT6⟩
        refine ⟨_, rfl, ?_⟩
        have HT6 := Aside0.mk hT6
        clear hT6
        refine hK.out _ _ (((HT6.out.bel.cell (World.block_lt_of_cell? w _ HK1.out)).trans HK1.out)) (fun hHeld => ?_)
        clear hK K
        refine norm_ (a' := ?_) ?_ ?_
        rotate_left
        · show Act.put _ (some 65) _ = _
          simp only [Act.put, List.setIfInBounds_toArray, List.set_cons_zero, List.set_cons_succ, i64_w, i32_w]
          rfl
        refine pure_ (i := 17) (N := some 66) (v := ?_) (a' := ?_) #[true, true, true, true, true, true, true, true, true, true, true, true, true, true, true, true, true, true, false] rfl rfl (by kernel_rfl) (fun _ _ _ h => h) (Or.inl ⟨by rfl, ?_⟩) ?_ ?_
        rotate_left
        · intro w'
          go_simp
          with_reducible rfl
        rotate_left
        · simp only [Act.put, List.setIfInBounds_toArray, List.set_cons_zero, List.set_cons_succ, i64_w, i32_w]
          rfl
        refine pure_ (i := 18) (N := some 6) (v := ?_) (a' := ?_) #[true, true, true, true, true, true, true, true, true, true, true, true, true, true, true, true, true, true, true] rfl rfl (by kernel_rfl) (fun _ _ _ h => h) (Or.inl ⟨by rfl, ?_⟩) ?_ ?_
        rotate_left
        · intro w'
          go_simp
          with_reducible rfl
        rotate_left
        · simp only [Act.put, List.setIfInBounds_toArray, List.set_cons_zero, List.set_cons_succ, i64_w, i32_w]
          rfl
        refine done_ (by kernel_rfl) ?_
        obtain ⟨l1, hl1'⟩ : ∃ l1, l1 = (wbytes l f1).1 := ⟨_, rfl⟩
        rw [← hl1'] at HT6
        clear hl1'
        go_upto_region 16 with (go_at_call 29; (with_reducible refine (bytesW HT6.out).mono ?_); rintro e w7 ⟨v7, rfl, hR7, hB7⟩; have HT7 := Aside0.mk (HT6.out.keep hB7); have HR7 := Aside0.mk (Kd.R_bound hR7); have HB6 := Aside0.mk HT6.out.bel.size; clear hR7 hB7)
        have hlb1 : l1.length ≤ 1048576 := by
          obtain ⟨_, _, _, _, _, _, hh, _⟩ := HT6.out
          exact hh.1
        clear HT6
        obtain ⟨A7, c7, rfl, hc7, hC7⟩ := Kd.R_reads HR7.out
        have HTd7 := Aside0.mk (HT7.out.below ((Below.refl _ _).drew))
        have HRd7 := Aside0.mk (Kd.R_below HR7.out ((Below.refl _ _).drew))
        have hCd7 := Kd.C_below hC7 ((Below.refl _ _).drew)
        obtain ⟨Ar, cr, hcr, hCr⟩ := HTd7.out.two.refB
        have hcv1 := Kd.C_string (P := Try.prog) (src := 22) (dst := 9) (e := 5) (c := c7) Try.underlying22 Try.underlying5 Try.underlying9 hCd7
        have hcv2 := Kd.C_string (P := Try.prog) (src := 22) (dst := 9) (e := 5) (c := cr) Try.underlying22 Try.underlying5 Try.underlying9 hCr
        obtain ⟨sB, hsB⟩ : ∃ sB, strOfNums l1 = sB := ⟨_, rfl⟩
        rw [hsB] at hcv1 hcv2
        clear hsB hC7 hCd7 hCr HT7 HR7
        refine start_ (n := 12) (S := fun w' => w' = w7.drew ∧ w'.cell? ⟨g2, 0, none⟩ = some (.slice Ar l1.length cr)) (ds := []) #[false, false, false, false, false, false, false, false, false, false, false, false] (by kernel_rfl) rfl rfl ⟨rfl, hcr⟩ (fun hHeld => ?_)
        generalize w7.drew = wd at HTd7 HRd7 hcr hcv1 hcv2 hHeld ⊢
        refine pure_ (i := 0) (N := some 89) (v := ?_) (a' := ?_) #[true, false, false, false, false, false, false, false, false, false, false, false] rfl rfl (by kernel_rfl) (fun _ _ _ h => h) (Or.inl ⟨by rfl, ?_⟩) ?_ ?_
        rotate_left
        · intro w'
          go_simp
          with_reducible rfl
        rotate_left
        · simp only [Act.put, List.setIfInBounds_toArray, List.set_cons_zero, List.set_cons_succ, i64_w, i32_w]
          rfl
        refine pure_ (i := 1) (N := some 90) (v := ?_) (a' := ?_) #[true, true, false, false, false, false, false, false, false, false, false, false] rfl rfl (by kernel_rfl) (fun _ _ _ h => h) (Or.inl ⟨by rfl, ?_⟩) ?_ ?_
        rotate_left
        · intro w'
          go_simp
          with_reducible rfl
        rotate_left
        · simp only [Act.put, List.setIfInBounds_toArray, List.set_cons_zero, List.set_cons_succ, i64_w, i32_w]
          rfl
        refine pure_ (i := 2) (N := some 91) (v := ?_) (a' := ?_) #[true, true, true, false, false, false, false, false, false, false, false, false] rfl rfl (by kernel_rfl) (fun _ _ _ h => h) (Or.inl ⟨by rfl, ?_⟩) ?_ ?_
        rotate_left
        · intro w'
          go_simp
          with_reducible rfl
        rotate_left
        · simp only [Act.put, List.setIfInBounds_toArray, List.set_cons_zero, List.set_cons_succ, i64_w, i32_w]
          rfl
        refine pure_ (i := 3) (N := some 92) (v := ?_) (a' := ?_) #[true, true, true, true, false, false, false, false, false, false, false, false] rfl rfl (by kernel_rfl) (fun _ _ _ h => h) (Or.inl ⟨by rfl, ?_⟩) ?_ ?_
        rotate_left
        · intro w'
          go_simp
          with_reducible rfl
        rotate_left
        · simp only [Act.put, List.setIfInBounds_toArray, List.set_cons_zero, List.set_cons_succ, i64_w, i32_w]
          rfl
        refine pure_ (i := 5) (N := some 94) (v := ?_) (a' := ?_) #[true, true, true, true, false, true, false, false, false, false, false, false] rfl rfl (by kernel_rfl) (fun _ _ _ h => h) (Or.inl ⟨by rfl, ?_⟩) ?_ ?_
        rotate_left
        · intro w'
          go_simp
          with_reducible rfl
        rotate_left
        · simp only [Act.put, List.setIfInBounds_toArray, List.set_cons_zero, List.set_cons_succ, i64_w, i32_w]
          rfl
        refine pure_ (i := 6) (N := some 95) (v := ?_) (a' := ?_) #[true, true, true, true, false, true, true, false, false, false, false, false] rfl rfl (by kernel_rfl) (fun _ _ _ h => h) (Or.inl ⟨by rfl, ?_⟩) ?_ ?_
        rotate_left
        · intro w'
          go_simp
          with_reducible rfl
        rotate_left
        · simp only [Act.put, List.setIfInBounds_toArray, List.set_cons_zero, List.set_cons_succ, i64_w, i32_w]
          rfl
        refine pure_ (i := 7) (N := some 96) (v := ?_) (a' := ?_) #[true, true, true, true, false, true, true, true, false, false, false, false] rfl rfl (by kernel_rfl) (fun _ _ _ h => h) (Or.inl ⟨by rfl, ?_⟩) ?_ ?_
        rotate_left
        · intro w'
          go_simp
          with_reducible rfl
        rotate_left
        · simp only [Act.put, List.setIfInBounds_toArray, List.set_cons_zero, List.set_cons_succ, i64_w, i32_w]
          rfl
        refine take_ (i := 4) (N := some 93) (v := ?_) (a' := ?_) #[true, true, true, true, true, true, true, true, false, false, false, false] rfl rfl (by kernel_rfl) (fun _ _ _ h => h) (Or.inl ⟨by rfl, ?_⟩) hHeld ?_ ?_
        rotate_left
        · rintro w' ⟨s0, s1⟩
          go_simp
          with_reducible rfl
        rotate_left
        · simp only [Act.put, List.setIfInBounds_toArray, List.set_cons_zero, List.set_cons_succ, i64_w, i32_w]
          rfl
        refine take_ (i := 8) (N := some 97) (v := ?_) (a' := ?_) #[true, true, true, true, true, true, true, true, true, false, false, false] rfl rfl (by kernel_rfl) (fun _ _ _ h => h) (Or.inl ⟨by rfl, ?_⟩) hHeld ?_ ?_
        rotate_left
        · rintro w' ⟨s0, s1⟩
          go_simp
          with_reducible rfl
        rotate_left
        · simp only [Act.put, List.setIfInBounds_toArray, List.set_cons_zero, List.set_cons_succ, i64_w, i32_w]
          rfl
        refine take_ (i := 9) (N := some 98) (v := ?_) (a' := ?_) #[true, true, true, true, true, true, true, true, true, true, false, false] rfl rfl (by kernel_rfl) (fun _ _ _ h => h) (Or.inl ⟨by rfl, ?_⟩) hHeld ?_ ?_
        rotate_left
        · rintro w' ⟨s0, s1⟩
          go_simp
          with_reducible rfl
        rotate_left
        · simp only [Act.put, List.setIfInBounds_toArray, List.set_cons_zero, List.set_cons_succ, i64_w, i32_w]
          rfl
        refine pure_ (i := 10) (N := some 99) (v := ?_) (a' := ?_) #[true, true, true, true, true, true, true, true, true, true, true, false] rfl rfl (by kernel_rfl) (fun _ _ _ h => h) (Or.inl ⟨by rfl, ?_⟩) ?_ ?_
        rotate_left
        · intro w'
          go_simp
          with_reducible rfl
        rotate_left
        · simp only [Act.put, List.setIfInBounds_toArray, List.set_cons_zero, List.set_cons_succ, i64_w, i32_w]
          rfl
        refine pure_ (i := 11) (N := some 100) (v := ?_) (a' := ?_) #[true, true, true, true, true, true, true, true, true, true, true, true] rfl rfl (by kernel_rfl) (fun _ _ _ h => h) (Or.inl ⟨by rfl, ?_⟩) ?_ ?_
        rotate_left
        · intro w'
          go_simp
          with_reducible rfl
        rotate_left
        · simp only [Act.put, List.setIfInBounds_toArray, List.set_cons_zero, List.set_cons_succ, i64_w, i32_w]
          rfl
        refine done_ (by kernel_rfl) ?_
        clear hHeld hcr hcv1 hcv2
        go_wp2
        go_loopw [8] (fun q wq => ∃ (m : Nat) (y : List Int), m ≤ l1.length ∧ q = .int .i64 m ∧ Aside0 (y.length = l1.length) ∧ Aside0 ((Kd.int .u8).R 5 wq w6.heap.size (fun k => w6.heap.size ≤ k) (.slice A7 l1.length c7) y) ∧ Aside0 (TwoK w wq w6.heap.size g g2 l1 l1)) (fun q _ => l1.length - (intOf q).toNat)
        case atStart => exact ⟨0, l1, Nat.zero_le _, rfl, ⟨rfl⟩, ⟨Kd.R_mono HRd7.out (fun k hk => hk.2.1)⟩, HTd7⟩
        case round =>
          clear HTd7 HRd7
          obtain ⟨m, y, hm1, rfl, HY, HRq, HTq⟩ := hrel
          by_cases hlt1 : m < l1.length
          · obtain ⟨inner, hin⟩ := Kd.R_own HRq.out
            obtain ⟨gb, cb, hgb, hgb1, _⟩ := hin.form (by have := HY.out; omega)
            injection hgb with e1 e2 e3
            subst e1
            subst e3
            clear hin e2
            have hcel := Kd.R_celln (0 : Int) HRq.out m (by omega) (by omega)
            rw [Int.toNat_natCast] at hcel
            obtain ⟨hce1, hce2⟩ := hcel
            obtain ⟨z, hz⟩ : ∃ z, rdOf (0 : Int) y (m : Int) = z := ⟨_, rfl⟩
            rw [hz] at hce1
            clear hz
            go_wp2
            go_roundw
            case rel => exact ⟨m + 1, _, by omega, by go_num, ⟨by rw [List.length_set]; exact HY.out⟩, ⟨Kd.R_putn HRq.out (m : Int) _⟩, ⟨HTq.out.set_ hgb1 (Nat.le_trans HB6.out hgb1) _⟩⟩
            case measure => simp [intOf]; omega
          · go_wp2
            go_roundw
            case rel => exact ⟨j + 1, l1, by omega, by go_num, ⟨HTq.out.two⟩⟩
            case measure => simp [intOf]; omega
      have d1 : (f0 == 0) = false := by simp [h0]
      by_cases h1 : f0 = 1
      · have d2 : (f0 == 1) = true := by simp [h1]
        clear h0 h1
        go_upto_region 14 with (fail)
        have HTd := Aside0.mk (HT.out.below ((Below.refl _ _).drew))
        clear HT hk0
        refine start_ (n := 19) (S := fun w' => w'.cell? ⟨(ad.add (j * 3)).block, (ad.add (j * 3)).off + 1, none⟩ = some (.slice A1 f1.length c1)) (ds := []) #[false, false, false, false, false, false, false, false, false, false, false, false, false, false, false, false, false, false, false] (by kernel_rfl) rfl rfl (((HTd.out.bel.cell (World.block_lt_of_cell? w _ HK1.out)).trans HK1.out)) (fun hHeld => ?_)
        generalize wr.drew = wd at HTd hHeld ⊢
        refine pure_ (i := 0) (N := some 69) (v := ?_) (a' := ?_) #[true, false, false, false, false, false, false, false, false, false, false, false, false, false, false, false, false, false, false] rfl rfl (by kernel_rfl) (fun _ _ _ h => h) (Or.inl ⟨by rfl, ?_⟩) ?_ ?_
        rotate_left
        · intro w'
          go_simp
          with_reducible rfl
        rotate_left
        · simp only [Act.put, List.setIfInBounds_toArray, List.set_cons_zero, List.set_cons_succ, i64_w, i32_w]
          rfl
        refine pure_ (i := 2) (N := some 71) (v := ?_) (a' := ?_) #[true, false, true, false, false, false, false, false, false, false, false, false, false, false, false, false, false, false, false] rfl rfl (by kernel_rfl) (fun _ _ _ h => h) (Or.inl ⟨by rfl, ?_⟩) ?_ ?_
        rotate_left
        · intro w'
          go_simp
          with_reducible rfl
        rotate_left
        · simp only [Act.put, List.setIfInBounds_toArray, List.set_cons_zero, List.set_cons_succ, i64_w, i32_w]
          rfl
        refine pure_ (i := 3) (N := some 72) (v := ?_) (a' := ?_) #[true, false, true, true, false, false, false, false, false, false, false, false, false, false, false, false, false, false, false] rfl rfl (by kernel_rfl) (fun _ _ _ h => h) (Or.inl ⟨by rfl, ?_⟩) ?_ ?_
        rotate_left
        · intro w'
          go_simp
          with_reducible rfl
        rotate_left
        · simp only [Act.put, List.setIfInBounds_toArray, List.set_cons_zero, List.set_cons_succ, i64_w, i32_w]
          rfl
        refine pure_ (i := 4) (N := some 73) (v := ?_) (a' := ?_) #[true, false, true, true, true, false, false, false, false, false, false, false, false, false, false, false, false, false, false] rfl rfl (by kernel_rfl) (fun _ _ _ h => h) (Or.inl ⟨by rfl, ?_⟩) ?_ ?_
        rotate_left
        · intro w'
          go_simp
          with_reducible rfl
        rotate_left
        · simp only [Act.put, List.setIfInBounds_toArray, List.set_cons_zero, List.set_cons_succ, i64_w, i32_w]
          rfl
        refine pure_ (i := 5) (N := some 74) (v := ?_) (a' := ?_) #[true, false, true, true, true, true, false, false, false, false, false, false, false, false, false, false, false, false, false] rfl rfl (by kernel_rfl) (fun _ _ _ h => h) (Or.inl ⟨by rfl, ?_⟩) ?_ ?_
        rotate_left
        · intro w'
          go_simp
          with_reducible rfl
        rotate_left
        · simp only [Act.put, List.setIfInBounds_toArray, List.set_cons_zero, List.set_cons_succ, i64_w, i32_w]
          rfl
        refine pure_ (i := 10) (N := some 79) (v := ?_) (a' := ?_) #[true, false, true, true, true, true, false, false, false, false, true, false, false, false, false, false, false, false, false] rfl rfl (by kernel_rfl) (fun _ _ _ h => h) (Or.inl ⟨by rfl, ?_⟩) ?_ ?_
        rotate_left
        · intro w'
          go_simp
          with_reducible rfl
        rotate_left
        · simp only [Act.put, List.setIfInBounds_toArray, List.set_cons_zero, List.set_cons_succ, i64_w, i32_w]
          rfl
        refine pure_ (i := 11) (N := some 80) (v := ?_) (a' := ?_) #[true, false, true, true, true, true, false, false, false, false, true, true, false, false, false, false, false, false, false] rfl rfl (by kernel_rfl) (fun _ _ _ h => h) (Or.inl ⟨by rfl, ?_⟩) ?_ ?_
        rotate_left
        · intro w'
          go_simp
          with_reducible rfl
        rotate_left
        · simp only [Act.put, List.setIfInBounds_toArray, List.set_cons_zero, List.set_cons_succ, i64_w, i32_w]
          rfl
        refine pure_ (i := 12) (N := some 81) (v := ?_) (a' := ?_) #[true, false, true, true, true, true, false, false, false, false, true, true, true, false, false, false, false, false, false] rfl rfl (by kernel_rfl) (fun _ _ _ h => h) (Or.inl ⟨by rfl, ?_⟩) ?_ ?_
        rotate_left
        · intro w'
          go_simp
          with_reducible rfl
        rotate_left
        · simp only [Act.put, List.setIfInBounds_toArray, List.set_cons_zero, List.set_cons_succ, i64_w, i32_w]
          rfl
        refine pure_ (i := 13) (N := some 82) (v := ?_) (a' := ?_) #[true, false, true, true, true, true, false, false, false, false, true, true, true, true, false, false, false, false, false] rfl rfl (by kernel_rfl) (fun _ _ _ h => h) (Or.inl ⟨by rfl, ?_⟩) ?_ ?_
        rotate_left
        · intro w'
          go_simp
          with_reducible rfl
        rotate_left
        · simp only [Act.put, List.setIfInBounds_toArray, List.set_cons_zero, List.set_cons_succ, i64_w, i32_w]
          rfl
        refine pure_ (i := 14) (N := some 83) (v := ?_) (a' := ?_) #[true, false, true, true, true, true, false, false, false, false, true, true, true, true, true, false, false, false, false] rfl rfl (by kernel_rfl) (fun _ _ _ h => h) (Or.inl ⟨by rfl, ?_⟩) ?_ ?_
        rotate_left
        · intro w'
          go_simp
          with_reducible rfl
        rotate_left
        · simp only [Act.put, List.setIfInBounds_toArray, List.set_cons_zero, List.set_cons_succ, i64_w, i32_w]
          rfl
        refine take_ (i := 6) (N := some 75) (v := ?_) (a' := ?_) #[true, false, true, true, true, true, true, false, false, false, true, true, true, true, true, false, false, false, false] rfl rfl (by kernel_rfl) (fun _ _ _ h => h) (Or.inl ⟨by rfl, ?_⟩) hHeld ?_ ?_
        rotate_left
        · intro w' s0
          go_simp
          with_reducible rfl
        rotate_left
        · simp only [Act.put, List.setIfInBounds_toArray, List.set_cons_zero, List.set_cons_succ, i64_w, i32_w]
          rfl
        refine take_ (i := 15) (N := some 84) (v := ?_) (a' := ?_) #[true, false, true, true, true, true, true, false, false, false, true, true, true, true, true, true, false, false, false] rfl rfl (by kernel_rfl) (fun _ _ _ h => h) (Or.inl ⟨by rfl, ?_⟩) hHeld ?_ ?_
        rotate_left
        · intro w' s0
          go_simp
          with_reducible rfl
        rotate_left
        · simp only [Act.put, List.setIfInBounds_toArray, List.set_cons_zero, List.set_cons_succ, i64_w, i32_w]
          rfl
        refine one_ (i := 1) (N := some 70) #[true, true, true, true, true, true, true, false, false, false, true, true, true, true, true, true, false, false, false] rfl rfl (by kernel_rfl) (by decide) (fun K hK => ?_)
        refine Kd.R_lit_step (Kd.int .i64) _ 3 ?hg (N := 70) ?hd (xs := ([] : List Int)) (inner := []) (ok := fun _ => True) (okp := fun _ => True) ?hr ?hp (fun _ hk => hk) trivial (Below.refl _ _) (Nat.le_refl _) (by simp) ?_; (case hd => rfl); (case hg => rfl); (case hr => first | (go_simp; done) | (go_simp; rfl)); (case hp => exact (Reps.none _ _))
        intro v2 w2 hR2 hB2 _ _
        have HR2 := Aside0.mk hR2
        have HB2 := Aside0.mk hB2
        have HT2 := Aside0.mk (HTd.out.below hB2)
        clear hR2 hB2
        refine hK.out _ _ (((HT2.out.bel.cell (World.block_lt_of_cell? w _ HK1.out)).trans HK1.out)) (fun hHeld => ?_)
        clear hK K
        refine norm_ (a' := ?_) ?_ ?_
        rotate_left
        · show Act.put _ (some 70) _ = _
          simp only [Act.put, List.setIfInBounds_toArray, List.set_cons_zero, List.set_cons_succ, i64_w, i32_w]
          rfl
        refine one_ (i := 7) (N := some 76) #[true, true, true, true, true, true, true, true, false, false, true, true, true, true, true, true, false, false, false] rfl rfl (by kernel_rfl) (by decide) (fun K hK => ?_)
        refine Kd.R_append_rows_step (Kd.int .i64) (w0 := wd) (Rr := (Kd.int .i64).K w2) wd.heap.size (by rfl) (.tmp 70) (.tmp 75) 46 3 (.int .i64 0) 8 rfl Try.underlying46 info3 rfl (by decide) (by omega) v2 [] f1 A1 f1.length c1 (fun _ => True) (fun _ => False) rfl rfl HR2.out (Kd.C_below HC1.out HT2.out.bel) (fun x cs hK => hK) (fun _ hk => hk.elim) (fun _ _ => trivial) HB2.out HB2.out.size (by simp only [List.length_nil, Nat.zero_add]; omega) ?_
        intro v3 w3 hR3 hB3 _ _
        rw [List.nil_append] at hR3
        obtain ⟨A3, c3, rfl, hc3, hC3⟩ := Kd.R_reads hR3
        have HC3 := Aside0.mk hC3
        have HT3 := Aside0.mk (HTd.out.below hB3)
        clear hR3 hC3 hB3
        refine hK.out _ _ (((HT3.out.bel.cell (World.block_lt_of_cell? w _ HK1.out)).trans HK1.out)) (fun hHeld => ?_)
        clear hK K
        refine norm_ (a' := ?_) ?_ ?_
        rotate_left
        · show Act.put _ (some 76) _ = _
          simp only [Act.put, List.setIfInBounds_toArray, List.set_cons_zero, List.set_cons_succ, i64_w, i32_w]
          rfl
        refine one_ (i := 8) (N := some 77) #[true, true, true, true, true, true, true, true, true, false, true, true, true, true, true, true, false, false, false] rfl rfl (by kernel_rfl) (by decide) (fun K hK => ?_)
        refine goes_ Try.func25 (by kernel_rfl) rfl #[.pointer (some ⟨g, 0, none⟩), .slice A3 f1.length c3] (by rfl) rfl rfl (by simp only [List.map_toArray, List.map_cons, List.map_nil]; rfl) ?_
        with_reducible refine (intW HT3.out A3 c3 f1 HC3.out hc3 HS1.out).mono ?_
        rintro e w4 ⟨rfl, hT4⟩
        refine ⟨_, rfl, ?_⟩
        have HT4 := Aside0.mk hT4
        clear hT4
        refine hK.out _ _ (((HT4.out.bel.cell (World.block_lt_of_cell? w _ HK1.out)).trans HK1.out)) (fun hHeld => ?_)
        clear hK K
        refine norm_ (a' := ?_) ?_ ?_
        rotate_left
        · show Act.put _ (some 77) _ = _
          simp only [Act.put, List.setIfInBounds_toArray, List.set_cons_zero, List.set_cons_succ, i64_w, i32_w]
          rfl
        refine one_ (i := 9) (N := some 78) #[true, true, true, true, true, true, true, true, true, true, true, true, true, true, true, true, false, false, false] rfl rfl (by kernel_rfl) (by decide) (fun K hK => ?_)
        refine goes_ Try.func17 (by kernel_rfl) rfl #[.int .i64 (wmore l (ints8 f1)).2] (by rfl) rfl rfl (by simp only [List.map_toArray, List.map_cons, List.map_nil]; rfl) ?_
        with_reducible refine (weighhouselaw01_num.calls (wmore l (ints8 f1)).2 (wmore l (ints8 f1)).2 _ rfl).mono ?_
        rintro e w5 ⟨rfl, hd5⟩
        refine ⟨_, rfl, ?_⟩
        have HT5 := Aside0.mk (HT4.out.below hd5.below)
        clear hd5
        refine hK.out _ _ (((HT5.out.bel.cell (World.block_lt_of_cell? w _ HK1.out)).trans HK1.out)) (fun hHeld => ?_)
        clear hK K
        refine norm_ (a' := ?_) ?_ ?_
        rotate_left
        · show Act.put _ (some 78) _ = _
          simp only [Act.put, List.setIfInBounds_toArray, List.set_cons_zero, List.set_cons_succ, i64_w, i32_w]
          rfl
        refine one_ (i := 16) (N := some 85) #[true, true, true, true, true, true, true, true, true, true, true, true, true, true, true, true, true, false, false] rfl rfl (by kernel_rfl) (by decide) (fun K hK => ?_)
        refine goes_ Try.func26 (by kernel_rfl) rfl #[.pointer (some ⟨g2, 0, none⟩), .slice A1 f1.length c1] (by rfl) rfl rfl (by simp only [List.map_toArray, List.map_cons, List.map_nil]; rfl) ?_
        with_reducible refine (intR HT5.out A1 c1 f1 (Kd.C_below HC1.out HT5.out.bel) hl1 HS1.out).mono ?_
        rintro e w6 ⟨rfl, hT6⟩
        refine ⟨_, rfl, ?_⟩
        have HT6 := Aside0.mk hT6
        clear hT6
        refine hK.out _ _ (((HT6.out.bel.cell (World.block_lt_of_cell? w _ HK1.out)).trans HK1.out)) (fun hHeld => ?_)
        clear hK K
        refine norm_ (a' := ?_) ?_ ?_
        rotate_left
        · show Act.put _ (some 85) _ = _
          simp only [Act.put, List.setIfInBounds_toArray, List.set_cons_zero, List.set_cons_succ, i64_w, i32_w]
          rfl
        refine pure_ (i := 17) (N := some 86) (v := ?_) (a' := ?_) #[true, true, true, true, true, true, true, true, true, true, true, true, true, true, true, true, true, true, false] rfl rfl (by kernel_rfl) (fun _ _ _ h => h) (Or.inl ⟨by rfl, ?_⟩) ?_ ?_
        rotate_left
        · intro w'
          go_simp
          with_reducible rfl
        rotate_left
        · simp only [Act.put, List.setIfInBounds_toArray, List.set_cons_zero, List.set_cons_succ, i64_w, i32_w]
          rfl
        refine pure_ (i := 18) (N := some 6) (v := ?_) (a' := ?_) #[true, true, true, true, true, true, true, true, true, true, true, true, true, true, true, true, true, true, true] rfl rfl (by kernel_rfl) (fun _ _ _ h => h) (Or.inl ⟨by rfl, ?_⟩) ?_ ?_
        rotate_left
        · intro w'
          go_simp
          with_reducible rfl
        rotate_left
        · simp only [Act.put, List.setIfInBounds_toArray, List.set_cons_zero, List.set_cons_succ, i64_w, i32_w]
          rfl
        refine done_ (by kernel_rfl) ?_
        obtain ⟨l1, hl1'⟩ : ∃ l1, l1 = (wmore l (ints8 f1)).1 := ⟨_, rfl⟩
        rw [← hl1'] at HT6
        clear hl1'
        go_upto_region 16 with (go_at_call 29; (with_reducible refine (bytesW HT6.out).mono ?_); rintro e w7 ⟨v7, rfl, hR7, hB7⟩; have HT7 := Aside0.mk (HT6.out.keep hB7); have HR7 := Aside0.mk (Kd.R_bound hR7); have HB6 := Aside0.mk HT6.out.bel.size; clear hR7 hB7)
        have hlb1 : l1.length ≤ 1048576 := by
          obtain ⟨_, _, _, _, _, _, hh, _⟩ := HT6.out
          exact hh.1
        clear HT6
        obtain ⟨A7, c7, rfl, hc7, hC7⟩ := Kd.R_reads HR7.out
        have HTd7 := Aside0.mk (HT7.out.below ((Below.refl _ _).drew))
        have HRd7 := Aside0.mk (Kd.R_below HR7.out ((Below.refl _ _).drew))
        have hCd7 := Kd.C_below hC7 ((Below.refl _ _).drew)
        obtain ⟨Ar, cr, hcr, hCr⟩ := HTd7.out.two.refB
        have hcv1 := Kd.C_string (P := Try.prog) (src := 22) (dst := 9) (e := 5) (c := c7) Try.underlying22 Try.underlying5 Try.underlying9 hCd7
        have hcv2 := Kd.C_string (P := Try.prog) (src := 22) (dst := 9) (e := 5) (c := cr) Try.underlying22 Try.underlying5 Try.underlying9 hCr
        obtain ⟨sB, hsB⟩ : ∃ sB, strOfNums l1 = sB := ⟨_, rfl⟩
        rw [hsB] at hcv1 hcv2
        clear hsB hC7 hCd7 hCr HT7 HR7
        refine start_ (n := 12) (S := fun w' => w' = w7.drew ∧ w'.cell? ⟨g2, 0, none⟩ = some (.slice Ar l1.length cr)) (ds := []) #[false, false, false, false, false, false, false, false, false, false, false, false] (by kernel_rfl) rfl rfl ⟨rfl, hcr⟩ (fun hHeld => ?_)
        generalize w7.drew = wd at HTd7 HRd7 hcr hcv1 hcv2 hHeld ⊢
        refine pure_ (i := 0) (N := some 89) (v := ?_) (a' := ?_) #[true, false, false, false, false, false, false, false, false, false, false, false] rfl rfl (by kernel_rfl) (fun _ _ _ h => h) (Or.inl ⟨by rfl, ?_⟩) ?_ ?_
        rotate_left
        · intro w'
          go_simp
          with_reducible rfl
        rotate_left
        · simp only [Act.put, List.setIfInBounds_toArray, List.set_cons_zero, List.set_cons_succ, i64_w, i32_w]
          rfl
        refine pure_ (i := 1) (N := some 90) (v := ?_) (a' := ?_) #[true, true, false, false, false, false, false, false, false, false, false, false] rfl rfl (by kernel_rfl) (fun _ _ _ h => h) (Or.inl ⟨by rfl, ?_⟩) ?_ ?_
        rotate_left
        · intro w'
          go_simp
          with_reducible rfl
        rotate_left
        · simp only [Act.put, List.setIfInBounds_toArray, List.set_cons_zero, List.set_cons_succ, i64_w, i32_w]
          rfl
        refine pure_ (i := 2) (N := some 91) (v := ?_) (a' := ?_) #[true, true, true, false, false, false, false, false, false, false, false, false] rfl rfl (by kernel_rfl) (fun _ _ _ h => h) (Or.inl ⟨by rfl, ?_⟩) ?_ ?_
        rotate_left
        · intro w'
          go_simp
          with_reducible rfl
        rotate_left
        · simp only [Act.put, List.setIfInBounds_toArray, List.set_cons_zero, List.set_cons_succ, i64_w, i32_w]
          rfl
        refine pure_ (i := 3) (N := some 92) (v := ?_) (a' := ?_) #[true, true, true, true, false, false, false, false, false, false, false, false] rfl rfl (by kernel_rfl) (fun _ _ _ h => h) (Or.inl ⟨by rfl, ?_⟩) ?_ ?_
        rotate_left
        · intro w'
          go_simp
          with_reducible rfl
        rotate_left
        · simp only [Act.put, List.setIfInBounds_toArray, List.set_cons_zero, List.set_cons_succ, i64_w, i32_w]
          rfl
        refine pure_ (i := 5) (N := some 94) (v := ?_) (a' := ?_) #[true, true, true, true, false, true, false, false, false, false, false, false] rfl rfl (by kernel_rfl) (fun _ _ _ h => h) (Or.inl ⟨by rfl, ?_⟩) ?_ ?_
        rotate_left
        · intro w'
          go_simp
          with_reducible rfl
        rotate_left
        · simp only [Act.put, List.setIfInBounds_toArray, List.set_cons_zero, List.set_cons_succ, i64_w, i32_w]
          rfl
        refine pure_ (i := 6) (N := some 95) (v := ?_) (a' := ?_) #[true, true, true, true, false, true, true, false, false, false, false, false] rfl rfl (by kernel_rfl) (fun _ _ _ h => h) (Or.inl ⟨by rfl, ?_⟩) ?_ ?_
        rotate_left
        · intro w'
          go_simp
          with_reducible rfl
        rotate_left
        · simp only [Act.put, List.setIfInBounds_toArray, List.set_cons_zero, List.set_cons_succ, i64_w, i32_w]
          rfl
        refine pure_ (i := 7) (N := some 96) (v := ?_) (a' := ?_) #[true, true, true, true, false, true, true, true, false, false, false, false] rfl rfl (by kernel_rfl) (fun _ _ _ h => h) (Or.inl ⟨by rfl, ?_⟩) ?_ ?_
        rotate_left
        · intro w'
          go_simp
          with_reducible rfl
        rotate_left
        · simp only [Act.put, List.setIfInBounds_toArray, List.set_cons_zero, List.set_cons_succ, i64_w, i32_w]
          rfl
        refine take_ (i := 4) (N := some 93) (v := ?_) (a' := ?_) #[true, true, true, true, true, true, true, true, false, false, false, false] rfl rfl (by kernel_rfl) (fun _ _ _ h => h) (Or.inl ⟨by rfl, ?_⟩) hHeld ?_ ?_
        rotate_left
        · rintro w' ⟨s0, s1⟩
          go_simp
          with_reducible rfl
        rotate_left
        · simp only [Act.put, List.setIfInBounds_toArray, List.set_cons_zero, List.set_cons_succ, i64_w, i32_w]
          rfl
        refine take_ (i := 8) (N := some 97) (v := ?_) (a' := ?_) #[true, true, true, true, true, true, true, true, true, false, false, false] rfl rfl (by kernel_rfl) (fun _ _ _ h => h) (Or.inl ⟨by rfl, ?_⟩) hHeld ?_ ?_
        rotate_left
        · rintro w' ⟨s0, s1⟩
          go_simp
          with_reducible rfl
        rotate_left
        · simp only [Act.put, List.setIfInBounds_toArray, List.set_cons_zero, List.set_cons_succ, i64_w, i32_w]
          rfl
        refine take_ (i := 9) (N := some 98) (v := ?_) (a' := ?_) #[true, true, true, true, true, true, true, true, true, true, false, false] rfl rfl (by kernel_rfl) (fun _ _ _ h => h) (Or.inl ⟨by rfl, ?_⟩) hHeld ?_ ?_
        rotate_left
        · rintro w' ⟨s0, s1⟩
          go_simp
          with_reducible rfl
        rotate_left
        · simp only [Act.put, List.setIfInBounds_toArray, List.set_cons_zero, List.set_cons_succ, i64_w, i32_w]
          rfl
        refine pure_ (i := 10) (N := some 99) (v := ?_) (a' := ?_) #[true, true, true, true, true, true, true, true, true, true, true, false] rfl rfl (by kernel_rfl) (fun _ _ _ h => h) (Or.inl ⟨by rfl, ?_⟩) ?_ ?_
        rotate_left
        · intro w'
          go_simp
          with_reducible rfl
        rotate_left
        · simp only [Act.put, List.setIfInBounds_toArray, List.set_cons_zero, List.set_cons_succ, i64_w, i32_w]
          rfl
        refine pure_ (i := 11) (N := some 100) (v := ?_) (a' := ?_) #[true, true, true, true, true, true, true, true, true, true, true, true] rfl rfl (by kernel_rfl) (fun _ _ _ h => h) (Or.inl ⟨by rfl, ?_⟩) ?_ ?_
        rotate_left
        · intro w'
          go_simp
          with_reducible rfl
        rotate_left
        · simp only [Act.put, List.setIfInBounds_toArray, List.set_cons_zero, List.set_cons_succ, i64_w, i32_w]
          rfl
        refine done_ (by kernel_rfl) ?_
        clear hHeld hcr hcv1 hcv2
        go_wp2
        go_loopw [8] (fun q wq => ∃ (m : Nat) (y : List Int), m ≤ l1.length ∧ q = .int .i64 m ∧ Aside0 (y.length = l1.length) ∧ Aside0 ((Kd.int .u8).R 5 wq w6.heap.size (fun k => w6.heap.size ≤ k) (.slice A7 l1.length c7) y) ∧ Aside0 (TwoK w wq w6.heap.size g g2 l1 l1)) (fun q _ => l1.length - (intOf q).toNat)
        case atStart => exact ⟨0, l1, Nat.zero_le _, rfl, ⟨rfl⟩, ⟨Kd.R_mono HRd7.out (fun k hk => hk.2.1)⟩, HTd7⟩
        case round =>
          clear HTd7 HRd7
          obtain ⟨m, y, hm1, rfl, HY, HRq, HTq⟩ := hrel
          by_cases hlt1 : m < l1.length
          · obtain ⟨inner, hin⟩ := Kd.R_own HRq.out
            obtain ⟨gb, cb, hgb, hgb1, _⟩ := hin.form (by have := HY.out; omega)
            injection hgb with e1 e2 e3
            subst e1
            subst e3
            clear hin e2
            have hcel := Kd.R_celln (0 : Int) HRq.out m (by omega) (by omega)
            rw [Int.toNat_natCast] at hcel
            obtain ⟨hce1, hce2⟩ := hcel
            obtain ⟨z, hz⟩ : ∃ z, rdOf (0 : Int) y (m : Int) = z := ⟨_, rfl⟩
            rw [hz] at hce1
            clear hz
            go_wp2
            go_roundw
            case rel => exact ⟨m + 1, _, by omega, by go_num, ⟨by rw [List.length_set]; exact HY.out⟩, ⟨Kd.R_putn HRq.out (m : Int) _⟩, ⟨HTq.out.set_ hgb1 (Nat.le_trans HB6.out hgb1) _⟩⟩
            case measure => simp [intOf]; omega
          · go_wp2
            go_roundw
            case rel => exact ⟨j + 1, l1, by omega, by go_num, ⟨HTq.out.two⟩⟩
            case measure => simp [intOf]; omega
      · have d2 : (f0 == 1) = false := by simp [h1]
        clear h0 h1
        go_upto_region 10 with (fail)
        have HTd := Aside0.mk (HT.out.below ((Below.refl _ _).drew))
        clear HT hk0
        refine start_ (n := 19) (S := fun w' => w'.cell? ⟨(ad.add (j * 3)).block, (ad.add (j * 3)).off + 2, none⟩ = some (.slice A2 f2.length c2)) (ds := []) #[false, false, false, false, false, false, false, false, false, false, false, false, false, false, false, false, false, false, false] (by kernel_rfl) rfl rfl (((HTd.out.bel.cell (World.block_lt_of_cell? w _ HK2.out)).trans HK2.out)) (fun hHeld => ?_)
        generalize wr.drew = wd at HTd hHeld ⊢
        refine pure_ (i := 0) (N := some 29) (v := ?_) (a' := ?_) #[true, false, false, false, false, false, false, false, false, false, false, false, false, false, false, false, false, false, false] rfl rfl (by kernel_rfl) (fun _ _ _ h => h) (Or.inl ⟨by rfl, ?_⟩) ?_ ?_
        rotate_left
        · intro w'
          go_simp
          with_reducible rfl
        rotate_left
        · simp only [Act.put, List.setIfInBounds_toArray, List.set_cons_zero, List.set_cons_succ, i64_w, i32_w]
          rfl
        refine pure_ (i := 2) (N := some 31) (v := ?_) (a' := ?_) #[true, false, true, false, false, false, false, false, false, false, false, false, false, false, false, false, false, false, false] rfl rfl (by kernel_rfl) (fun _ _ _ h => h) (Or.inl ⟨by rfl, ?_⟩) ?_ ?_
        rotate_left
        · intro w'
          go_simp
          with_reducible rfl
        rotate_left
        · simp only [Act.put, List.setIfInBounds_toArray, List.set_cons_zero, List.set_cons_succ, i64_w, i32_w]
          rfl
        refine pure_ (i := 3) (N := some 32) (v := ?_) (a' := ?_) #[true, false, true, true, false, false, false, false, false, false, false, false, false, false, false, false, false, false, false] rfl rfl (by kernel_rfl) (fun _ _ _ h => h) (Or.inl ⟨by rfl, ?_⟩) ?_ ?_
        rotate_left
        · intro w'
          go_simp
          with_reducible rfl
        rotate_left
        · simp only [Act.put, List.setIfInBounds_toArray, List.set_cons_zero, List.set_cons_succ, i64_w, i32_w]
          rfl
        refine pure_ (i := 4) (N := some 33) (v := ?_) (a' := ?_) #[true, false, true, true, true, false, false, false, false, false, false, false, false, false, false, false, false, false, false] rfl rfl (by kernel_rfl) (fun _ _ _ h => h) (Or.inl ⟨by rfl, ?_⟩) ?_ ?_
        rotate_left
        · intro w'
          go_simp
          with_reducible rfl
        rotate_left
        · simp only [Act.put, List.setIfInBounds_toArray, List.set_cons_zero, List.set_cons_succ, i64_w, i32_w]
          rfl
        refine pure_ (i := 5) (N := some 34) (v := ?_) (a' := ?_) #[true, false, true, true, true, true, false, false, false, false, false, false, false, false, false, false, false, false, false] rfl rfl (by kernel_rfl) (fun _ _ _ h => h) (Or.inl ⟨by rfl, ?_⟩) ?_ ?_
        rotate_left
        · intro w'
          go_simp
          with_reducible rfl
        rotate_left
        · simp only [Act.put, List.setIfInBounds_toArray, List.set_cons_zero, List.set_cons_succ, i64_w, i32_w]
          rfl
        refine pure_ (i := 10) (N := some 39) (v := ?_) (a' := ?_) #[true, false, true, true, true, true, false, false, false, false, true, false, false, false, false, false, false, false, false] rfl rfl (by kernel_rfl) (fun _ _ _ h => h) (Or.inl ⟨by rfl, ?_⟩) ?_ ?_
        rotate_left
        · intro w'
          go_simp
          with_reducible rfl
        rotate_left
        · simp only [Act.put, List.setIfInBounds_toArray, List.set_cons_zero, List.set_cons_succ, i64_w, i32_w]
          rfl
        refine pure_ (i := 11) (N := some 40) (v := ?_) (a' := ?_) #[true, false, true, true, true, true, false, false, false, false, true, true, false, false, false, false, false, false, false] rfl rfl (by kernel_rfl) (fun _ _ _ h => h) (Or.inl ⟨by rfl, ?_⟩) ?_ ?_
        rotate_left
        · intro w'
          go_simp
          with_reducible rfl
        rotate_left
        · simp only [Act.put, List.setIfInBounds_toArray, List.set_cons_zero, List.set_cons_succ, i64_w, i32_w]
          rfl
        refine pure_ (i := 12) (N := some 41) (v := ?_) (a' := ?_) #[true, false, true, true, true, true, false, false, false, false, true, true, true, false, false, false, false, false, false] rfl rfl (by kernel_rfl) (fun _ _ _ h => h) (Or.inl ⟨by rfl, ?_⟩) ?_ ?_
        rotate_left
        · intro w'
          go_simp
          with_reducible rfl
        rotate_left
        · simp only [Act.put, List.setIfInBounds_toArray, List.set_cons_zero, List.set_cons_succ, i64_w, i32_w]
          rfl
        refine pure_ (i := 13) (N := some 42) (v := ?_) (a' := ?_) #[true, false, true, true, true, true, false, false, false, false, true, true, true, true, false, false, false, false, false] rfl rfl (by kernel_rfl) (fun _ _ _ h => h) (Or.inl ⟨by rfl, ?_⟩) ?_ ?_
        rotate_left
        · intro w'
          go_simp
          with_reducible rfl
        rotate_left
        · simp only [Act.put, List.setIfInBounds_toArray, List.set_cons_zero, List.set_cons_succ, i64_w, i32_w]
          rfl
        refine pure_ (i := 14) (N := some 43) (v := ?_) (a' := ?_) #[true, false, true, true, true, true, false, false, false, false, true, true, true, true, true, false, false, false, false] rfl rfl (by kernel_rfl) (fun _ _ _ h => h) (Or.inl ⟨by rfl, ?_⟩) ?_ ?_
        rotate_left
        · intro w'
          go_simp
          with_reducible rfl
        rotate_left
        · simp only [Act.put, List.setIfInBounds_toArray, List.set_cons_zero, List.set_cons_succ, i64_w, i32_w]
          rfl
        refine take_ (i := 6) (N := some 35) (v := ?_) (a' := ?_) #[true, false, true, true, true, true, true, false, false, false, true, true, true, true, true, false, false, false, false] rfl rfl (by kernel_rfl) (fun _ _ _ h => h) (Or.inl ⟨by rfl, ?_⟩) hHeld ?_ ?_
        rotate_left
        · intro w' s0
          go_simp
          with_reducible rfl
        rotate_left
        · simp only [Act.put, List.setIfInBounds_toArray, List.set_cons_zero, List.set_cons_succ, i64_w, i32_w]
          rfl
        refine take_ (i := 15) (N := some 44) (v := ?_) (a' := ?_) #[true, false, true, true, true, true, true, false, false, false, true, true, true, true, true, true, false, false, false] rfl rfl (by kernel_rfl) (fun _ _ _ h => h) (Or.inl ⟨by rfl, ?_⟩) hHeld ?_ ?_
        rotate_left
        · intro w' s0
          go_simp
          with_reducible rfl
        rotate_left
        · simp only [Act.put, List.setIfInBounds_toArray, List.set_cons_zero, List.set_cons_succ, i64_w, i32_w]
          rfl
        refine one_ (i := 1) (N := some 30) #[true, true, true, true, true, true, true, false, false, false, true, true, true, true, true, true, false, false, false] rfl rfl (by kernel_rfl) (by decide) (fun K hK => ?_)
        refine Kd.R_lit_step (Kd.string) _ 9 ?hg (N := 30) ?hd (xs := ([] : List ByteArray)) (inner := []) (ok := fun _ => True) (okp := fun _ => True) ?hr ?hp (fun _ hk => hk) trivial (Below.refl _ _) (Nat.le_refl _) (by simp) ?_; (case hd => rfl); (case hg => rfl); (case hr => first | (go_simp; done) | (go_simp; rfl)); (case hp => exact (Reps.none _ _))
        intro v2 w2 hR2 hB2 _ _
        have HR2 := Aside0.mk hR2
        have HB2 := Aside0.mk hB2
        have HT2 := Aside0.mk (HTd.out.below hB2)
        clear hR2 hB2
        refine hK.out _ _ (((HT2.out.bel.cell (World.block_lt_of_cell? w _ HK2.out)).trans HK2.out)) (fun hHeld => ?_)
        clear hK K
        refine norm_ (a' := ?_) ?_ ?_
        rotate_left
        · show Act.put _ (some 30) _ = _
          simp only [Act.put, List.setIfInBounds_toArray, List.set_cons_zero, List.set_cons_succ, i64_w, i32_w]
          rfl
        refine one_ (i := 7) (N := some 36) #[true, true, true, true, true, true, true, true, false, false, true, true, true, true, true, true, false, false, false] rfl rfl (by kernel_rfl) (by decide) (fun K hK => ?_)
        refine Kd.R_append_rows_step (Kd.string) (w0 := wd) (Rr := (Kd.string).K w2) wd.heap.size (by rfl) (.tmp 30) (.tmp 35) 47 9 (.string ByteArray.empty) 16 rfl Try.underlying47 info9 rfl (by decide) (by omega) v2 [] f2 A2 f2.length c2 (fun _ => True) (fun _ => False) rfl rfl HR2.out (Kd.C_below HC2.out HT2.out.bel) (fun x cs hK => hK) (fun _ hk => hk.elim) (fun _ _ => trivial) HB2.out HB2.out.size (by simp only [List.length_nil, Nat.zero_add]; omega) ?_
        intro v3 w3 hR3 hB3 _ _
        rw [List.nil_append] at hR3
        obtain ⟨A3, c3, rfl, hc3, hC3⟩ := Kd.R_reads hR3
        have HC3 := Aside0.mk hC3
        have HT3 := Aside0.mk (HTd.out.below hB3)
        clear hR3 hC3 hB3
        refine hK.out _ _ (((HT3.out.bel.cell (World.block_lt_of_cell? w _ HK2.out)).trans HK2.out)) (fun hHeld => ?_)
        clear hK K
        refine norm_ (a' := ?_) ?_ ?_
        rotate_left
        · show Act.put _ (some 36) _ = _
          simp only [Act.put, List.setIfInBounds_toArray, List.set_cons_zero, List.set_cons_succ, i64_w, i32_w]
          rfl
        refine one_ (i := 8) (N := some 37) #[true, true, true, true, true, true, true, true, true, false, true, true, true, true, true, true, false, false, false] rfl rfl (by kernel_rfl) (by decide) (fun K hK => ?_)
        refine goes_ Try.func27 (by kernel_rfl) rfl #[.pointer (some ⟨g, 0, none⟩), .slice A3 f2.length c3] (by rfl) rfl rfl (by simp only [List.map_toArray, List.map_cons, List.map_nil]; rfl) ?_
        with_reducible refine (textW HT3.out A3 c3 f2 HC3.out hc3 HS3.out HS2.out).mono ?_
        rintro e w4 ⟨rfl, hT4⟩
        refine ⟨_, rfl, ?_⟩
        have HT4 := Aside0.mk hT4
        clear hT4
        refine hK.out _ _ (((HT4.out.bel.cell (World.block_lt_of_cell? w _ HK2.out)).trans HK2.out)) (fun hHeld => ?_)
        clear hK K
        refine norm_ (a' := ?_) ?_ ?_
        rotate_left
        · show Act.put _ (some 37) _ = _
          simp only [Act.put, List.setIfInBounds_toArray, List.set_cons_zero, List.set_cons_succ, i64_w, i32_w]
          rfl
        refine one_ (i := 9) (N := some 38) #[true, true, true, true, true, true, true, true, true, true, true, true, true, true, true, true, false, false, false] rfl rfl (by kernel_rfl) (by decide) (fun K hK => ?_)
        refine goes_ Try.func17 (by kernel_rfl) rfl #[.int .i64 (wtexts l f2).2] (by rfl) rfl rfl (by simp only [List.map_toArray, List.map_cons, List.map_nil]; rfl) ?_
        with_reducible refine (weighhouselaw01_num.calls (wtexts l f2).2 (wtexts l f2).2 _ rfl).mono ?_
        rintro e w5 ⟨rfl, hd5⟩
        refine ⟨_, rfl, ?_⟩
        have HT5 := Aside0.mk (HT4.out.below hd5.below)
        clear hd5
        refine hK.out _ _ (((HT5.out.bel.cell (World.block_lt_of_cell? w _ HK2.out)).trans HK2.out)) (fun hHeld => ?_)
        clear hK K
        refine norm_ (a' := ?_) ?_ ?_
        rotate_left
        · show Act.put _ (some 38) _ = _
          simp only [Act.put, List.setIfInBounds_toArray, List.set_cons_zero, List.set_cons_succ, i64_w, i32_w]
          rfl
        refine one_ (i := 16) (N := some 45) #[true, true, true, true, true, true, true, true, true, true, true, true, true, true, true, true, true, false, false] rfl rfl (by kernel_rfl) (by decide) (fun K hK => ?_)
        refine goes_ Try.func28 (by kernel_rfl) rfl #[.pointer (some ⟨g2, 0, none⟩), .slice A2 f2.length c2] (by rfl) rfl rfl (by simp only [List.map_toArray, List.map_cons, List.map_nil]; rfl) ?_
        with_reducible refine (textR HT5.out A2 c2 f2 (Kd.C_below HC2.out HT5.out.bel) hl2 HS3.out).mono ?_
        rintro e w6 ⟨rfl, hT6⟩
        refine ⟨_, rfl, ?_⟩
        have HT6 := Aside0.mk hT6
        clear hT6
        refine hK.out _ _ (((HT6.out.bel.cell (World.block_lt_of_cell? w _ HK2.out)).trans HK2.out)) (fun hHeld => ?_)
        clear hK K
        refine norm_ (a' := ?_) ?_ ?_
        rotate_left
        · show Act.put _ (some 45) _ = _
          simp only [Act.put, List.setIfInBounds_toArray, List.set_cons_zero, List.set_cons_succ, i64_w, i32_w]
          rfl
        refine pure_ (i := 17) (N := some 46) (v := ?_) (a' := ?_) #[true, true, true, true, true, true, true, true, true, true, true, true, true, true, true, true, true, true, false] rfl rfl (by kernel_rfl) (fun _ _ _ h => h) (Or.inl ⟨by rfl, ?_⟩) ?_ ?_
        rotate_left
        · intro w'
          go_simp
          with_reducible rfl
        rotate_left
        · simp only [Act.put, List.setIfInBounds_toArray, List.set_cons_zero, List.set_cons_succ, i64_w, i32_w]
          rfl
        refine pure_ (i := 18) (N := some 6) (v := ?_) (a' := ?_) #[true, true, true, true, true, true, true, true, true, true, true, true, true, true, true, true, true, true, true] rfl rfl (by kernel_rfl) (fun _ _ _ h => h) (Or.inl ⟨by rfl, ?_⟩) ?_ ?_
        rotate_left
        · intro w'
          go_simp
          with_reducible rfl
        rotate_left
        · simp only [Act.put, List.setIfInBounds_toArray, List.set_cons_zero, List.set_cons_succ, i64_w, i32_w]
          rfl
        refine done_ (by kernel_rfl) ?_
        obtain ⟨l1, hl1'⟩ : ∃ l1, l1 = (wtexts l f2).1 := ⟨_, rfl⟩
        rw [← hl1'] at HT6
        clear hl1'
        go_upto_region 16 with (go_at_call 29; (with_reducible refine (bytesW HT6.out).mono ?_); rintro e w7 ⟨v7, rfl, hR7, hB7⟩; have HT7 := Aside0.mk (HT6.out.keep hB7); have HR7 := Aside0.mk (Kd.R_bound hR7); have HB6 := Aside0.mk HT6.out.bel.size; clear hR7 hB7)
        have hlb1 : l1.length ≤ 1048576 := by
          obtain ⟨_, _, _, _, _, _, hh, _⟩ := HT6.out
          exact hh.1
        clear HT6
        obtain ⟨A7, c7, rfl, hc7, hC7⟩ := Kd.R_reads HR7.out
        have HTd7 := Aside0.mk (HT7.out.below ((Below.refl _ _).drew))
        have HRd7 := Aside0.mk (Kd.R_below HR7.out ((Below.refl _ _).drew))
        have hCd7 := Kd.C_below hC7 ((Below.refl _ _).drew)
        obtain ⟨Ar, cr, hcr, hCr⟩ := HTd7.out.two.refB
        have hcv1 := Kd.C_string (P := Try.prog) (src := 22) (dst := 9) (e := 5) (c := c7) Try.underlying22 Try.underlying5 Try.underlying9 hCd7
        have hcv2 := Kd.C_string (P := Try.prog) (src := 22) (dst := 9) (e := 5) (c := cr) Try.underlying22 Try.underlying5 Try.underlying9 hCr
        obtain ⟨sB, hsB⟩ : ∃ sB, strOfNums l1 = sB := ⟨_, rfl⟩
        rw [hsB] at hcv1 hcv2
        clear hsB hC7 hCd7 hCr HT7 HR7
        refine start_ (n := 12) (S := fun w' => w' = w7.drew ∧ w'.cell? ⟨g2, 0, none⟩ = some (.slice Ar l1.length cr)) (ds := []) #[false, false, false, false, false, false, false, false, false, false, false, false] (by kernel_rfl) rfl rfl ⟨rfl, hcr⟩ (fun hHeld => ?_)
        generalize w7.drew = wd at HTd7 HRd7 hcr hcv1 hcv2 hHeld ⊢
        refine pure_ (i := 0) (N := some 89) (v := ?_) (a' := ?_) #[true, false, false, false, false, false, false, false, false, false, false, false] rfl rfl (by kernel_rfl) (fun _ _ _ h => h) (Or.inl ⟨by rfl, ?_⟩) ?_ ?_
        rotate_left
        · intro w'
          go_simp
          with_reducible rfl
        rotate_left
        · simp only [Act.put, List.setIfInBounds_toArray, List.set_cons_zero, List.set_cons_succ, i64_w, i32_w]
          rfl
        refine pure_ (i := 1) (N := some 90) (v := ?_) (a' := ?_) #[true, true, false, false, false, false, false, false, false, false, false, false] rfl rfl (by kernel_rfl) (fun _ _ _ h => h) (Or.inl ⟨by rfl, ?_⟩) ?_ ?_
        rotate_left
        · intro w'
          go_simp
          with_reducible rfl
        rotate_left
        · simp only [Act.put, List.setIfInBounds_toArray, List.set_cons_zero, List.set_cons_succ, i64_w, i32_w]
          rfl
        refine pure_ (i := 2) (N := some 91) (v := ?_) (a' := ?_) #[true, true, true, false, false, false, false, false, false, false, false, false] rfl rfl (by kernel_rfl) (fun _ _ _ h => h) (Or.inl ⟨by rfl, ?_⟩) ?_ ?_
        rotate_left
        · intro w'
          go_simp
          with_reducible rfl
        rotate_left
        · simp only [Act.put, List.setIfInBounds_toArray, List.set_cons_zero, List.set_cons_succ, i64_w, i32_w]
          rfl
        refine pure_ (i := 3) (N := some 92) (v := ?_) (a' := ?_) #[true, true, true, true, false, false, false, false, false, false, false, false] rfl rfl (by kernel_rfl) (fun _ _ _ h => h) (Or.inl ⟨by rfl, ?_⟩) ?_ ?_
        rotate_left
        · intro w'
          go_simp
          with_reducible rfl
        rotate_left
        · simp only [Act.put, List.setIfInBounds_toArray, List.set_cons_zero, List.set_cons_succ, i64_w, i32_w]
          rfl
        refine pure_ (i := 5) (N := some 94) (v := ?_) (a' := ?_) #[true, true, true, true, false, true, false, false, false, false, false, false] rfl rfl (by kernel_rfl) (fun _ _ _ h => h) (Or.inl ⟨by rfl, ?_⟩) ?_ ?_
        rotate_left
        · intro w'
          go_simp
          with_reducible rfl
        rotate_left
        · simp only [Act.put, List.setIfInBounds_toArray, List.set_cons_zero, List.set_cons_succ, i64_w, i32_w]
          rfl
        refine pure_ (i := 6) (N := some 95) (v := ?_) (a' := ?_) #[true, true, true, true, false, true, true, false, false, false, false, false] rfl rfl (by kernel_rfl) (fun _ _ _ h => h) (Or.inl ⟨by rfl, ?_⟩) ?_ ?_
        rotate_left
        · intro w'
          go_simp
          with_reducible rfl
        rotate_left
        · simp only [Act.put, List.setIfInBounds_toArray, List.set_cons_zero, List.set_cons_succ, i64_w, i32_w]
          rfl
        refine pure_ (i := 7) (N := some 96) (v := ?_) (a' := ?_) #[true, true, true, true, false, true, true, true, false, false, false, false] rfl rfl (by kernel_rfl) (fun _ _ _ h => h) (Or.inl ⟨by rfl, ?_⟩) ?_ ?_
        rotate_left
        · intro w'
          go_simp
          with_reducible rfl
        rotate_left
        · simp only [Act.put, List.setIfInBounds_toArray, List.set_cons_zero, List.set_cons_succ, i64_w, i32_w]
          rfl
        refine take_ (i := 4) (N := some 93) (v := ?_) (a' := ?_) #[true, true, true, true, true, true, true, true, false, false, false, false] rfl rfl (by kernel_rfl) (fun _ _ _ h => h) (Or.inl ⟨by rfl, ?_⟩) hHeld ?_ ?_
        rotate_left
        · rintro w' ⟨s0, s1⟩
          go_simp
          with_reducible rfl
        rotate_left
        · simp only [Act.put, List.setIfInBounds_toArray, List.set_cons_zero, List.set_cons_succ, i64_w, i32_w]
          rfl
        refine take_ (i := 8) (N := some 97) (v := ?_) (a' := ?_) #[true, true, true, true, true, true, true, true, true, false, false, false] rfl rfl (by kernel_rfl) (fun _ _ _ h => h) (Or.inl ⟨by rfl, ?_⟩) hHeld ?_ ?_
        rotate_left
        · rintro w' ⟨s0, s1⟩
          go_simp
          with_reducible rfl
        rotate_left
        · simp only [Act.put, List.setIfInBounds_toArray, List.set_cons_zero, List.set_cons_succ, i64_w, i32_w]
          rfl
        refine take_ (i := 9) (N := some 98) (v := ?_) (a' := ?_) #[true, true, true, true, true, true, true, true, true, true, false, false] rfl rfl (by kernel_rfl) (fun _ _ _ h => h) (Or.inl ⟨by rfl, ?_⟩) hHeld ?_ ?_
        rotate_left
        · rintro w' ⟨s0, s1⟩
          go_simp
          with_reducible rfl
        rotate_left
        · simp only [Act.put, List.setIfInBounds_toArray, List.set_cons_zero, List.set_cons_succ, i64_w, i32_w]
          rfl
        refine pure_ (i := 10) (N := some 99) (v := ?_) (a' := ?_) #[true, true, true, true, true, true, true, true, true, true, true, false] rfl rfl (by kernel_rfl) (fun _ _ _ h => h) (Or.inl ⟨by rfl, ?_⟩) ?_ ?_
        rotate_left
        · intro w'
          go_simp
          with_reducible rfl
        rotate_left
        · simp only [Act.put, List.setIfInBounds_toArray, List.set_cons_zero, List.set_cons_succ, i64_w, i32_w]
          rfl
        refine pure_ (i := 11) (N := some 100) (v := ?_) (a' := ?_) #[true, true, true, true, true, true, true, true, true, true, true, true] rfl rfl (by kernel_rfl) (fun _ _ _ h => h) (Or.inl ⟨by rfl, ?_⟩) ?_ ?_
        rotate_left
        · intro w'
          go_simp
          with_reducible rfl
        rotate_left
        · simp only [Act.put, List.setIfInBounds_toArray, List.set_cons_zero, List.set_cons_succ, i64_w, i32_w]
          rfl
        refine done_ (by kernel_rfl) ?_
        clear hHeld hcr hcv1 hcv2
        go_wp2
        go_loopw [8] (fun q wq => ∃ (m : Nat) (y : List Int), m ≤ l1.length ∧ q = .int .i64 m ∧ Aside0 (y.length = l1.length) ∧ Aside0 ((Kd.int .u8).R 5 wq w6.heap.size (fun k => w6.heap.size ≤ k) (.slice A7 l1.length c7) y) ∧ Aside0 (TwoK w wq w6.heap.size g g2 l1 l1)) (fun q _ => l1.length - (intOf q).toNat)
        case atStart => exact ⟨0, l1, Nat.zero_le _, rfl, ⟨rfl⟩, ⟨Kd.R_mono HRd7.out (fun k hk => hk.2.1)⟩, HTd7⟩
        case round =>
          clear HTd7 HRd7
          obtain ⟨m, y, hm1, rfl, HY, HRq, HTq⟩ := hrel
          by_cases hlt1 : m < l1.length
          · obtain ⟨inner, hin⟩ := Kd.R_own HRq.out
            obtain ⟨gb, cb, hgb, hgb1, _⟩ := hin.form (by have := HY.out; omega)
            injection hgb with e1 e2 e3
            subst e1
            subst e3
            clear hin e2
            have hcel := Kd.R_celln (0 : Int) HRq.out m (by omega) (by omega)
            rw [Int.toNat_natCast] at hcel
            obtain ⟨hce1, hce2⟩ := hcel
            obtain ⟨z, hz⟩ : ∃ z, rdOf (0 : Int) y (m : Int) = z := ⟨_, rfl⟩
            rw [hz] at hce1
            clear hz
            go_wp2
            go_roundw
            case rel => exact ⟨m + 1, _, by omega, by go_num, ⟨by rw [List.length_set]; exact HY.out⟩, ⟨Kd.R_putn HRq.out (m : Int) _⟩, ⟨HTq.out.set_ hgb1 (Nat.le_trans HB6.out hgb1) _⟩⟩
            case measure => simp [intOf]; omega
          · go_wp2
            go_roundw
            case rel => exact ⟨j + 1, l1, by omega, by go_num, ⟨HTq.out.two⟩⟩
            case measure => simp [intOf]; omega
    · go_wp2
      go_ret
      exact ⟨rfl, HT.out.bel⟩


end Go.Proofs.Ytjkimfjhfncldaa.Q
end

section
-- written by hprint.py (a program of these sessions) out of the translation; Lean checks it
namespace Go.Proofs.Ytjkimfjhfncldaa.Q
open Go.RowKit Go.Proofs.YtjkimfjhfncldaaW.Hb Go.Proofs.YtjkimfjhfncldaaW.PrintWords Go.Proofs.YtjkimfjhfncldaaW.PrintLast Go.Proofs.YtjkimfjhfncldaaW.PrintMore
attribute [local go_sem] max2_int min2_int max_two min_two max_three min_three max_four min_four   -- for this text's walks alone
set_option linter.unusedVariables false
set_option linter.unusedSimpArgs false

/-! ### wire_Reader_Byte: function 34, by hand -/
def rByte (xs : List Int) (e : Int) : Int × List Int × Int := if e ≠ 0 then (0, xs, e) else if xs.length < 1 then (0, xs, 20) else (rd xs 0, xs.drop 1, 0)
theorem rd_take {xs : List Int} {n i : Nat} (h : i < n) : rd (xs.take n) (i : Int) = rd xs (i : Int) := by
  simp only [rd, Int.toNat_natCast, List.getD_eq_getElem?_getD, List.getElem?_take, h, if_true]
theorem rd_in {xs : List Int} (hx : ∀ x ∈ xs, 0 ≤ x ∧ x ≤ 255) (i : Nat) (hi : i < xs.length) : 0 ≤ rd xs (i : Int) ∧ rd xs (i : Int) ≤ 255 := by
  simp only [rd, Int.toNat_natCast, List.getD_eq_getElem?_getD, List.getElem?_eq_getElem hi, Option.getD_some]
  exact hx _ (List.getElem_mem hi)
theorem Rd.B {w : World} {S : Nat → Prop} {g : Nat} {xs : List Int} {e : Int} (h : Rd w S g xs e) : ∀ x ∈ xs, 0 ≤ x ∧ x ≤ 255 := by
  obtain ⟨_, _, _, _, _, _, _, hx⟩ := h
  exact hx
theorem Rd.len {w : World} {S : Nat → Prop} {g : Nat} {xs : List Int} {e : Int} (h : Rd w S g xs e) : xs.length ≤ 9223372036854775807 := by
  obtain ⟨_, _, _, _, _, _, hC, _⟩ := h
  exact hC.2.1
set_option maxRecDepth 100000 in
set_option maxHeartbeats 1000000 in
theorem wire_Reader_Byte.calls (S : Nat → Prop) (g : Nat) (xs : List Int) (ev : Int) (w : World) (hR : Rd w S g xs ev) :
    Calls Try.prog 34 #[.pointer (some ⟨g, 0, none⟩)] w fun e w' => e = .returned (.int .i64 (rByte xs ev).1) ∧ Rd w' S g (rByte xs ev).2.1 (rByte xs ev).2.2 ∧ Fr w w' (fun k => k = g) := by
  have qT : ∀ (w : World) (a : Option Addr) (n c n' c' : Nat), (binOp .neq 22 (.slice a n c) (.slice none n' c')).run Try.prog w = .ok (.bool (!a.isNone)) w := fun w a n c n' c' => run_neq_slice_nil_any w _ _ a n c n' c' Try.underlying22
  have HR := Aside0.mk hR
  clear hR
  by_cases he : ev ≠ 0
  · have HS := Aside0.mk (show rByte xs ev = (0, xs, ev) from if_pos he)
    have HE := Aside0.mk he
    clear he
    go_enter Try.func34, Try.ntmps34
    go_wp2_with (go_at_call 56; (with_reducible refine (wire_Reader_take.calls_err S g xs ev 1 _ HR.out HE.out).mono ?_); rintro e2 w2 ⟨rfl, hw2⟩; subst w2)
    go_ret
    rw [HS.out]
    exact ⟨rfl, HR.out, Fr.of_below (Below.refl _ _) _⟩
  · obtain rfl : ev = 0 := by omega
    by_cases h1 : xs.length < 1
    · have HS := Aside0.mk (show rByte xs 0 = (0, xs, 20) by unfold rByte; rw [if_neg (by decide), if_pos h1])
      have HL := Aside0.mk (show (xs.length : Int) < 1 by omega)
      clear he h1
      go_enter Try.func34, Try.ntmps34
      go_wp2_with (go_at_call 56; (with_reducible refine (wire_Reader_take.calls_end S g xs 1 _ HR.out HL.out).mono ?_); rintro e2 w2 ⟨rfl, hR2, hF2⟩; have HR2 := Aside0.mk hR2; have HF2 := Aside0.mk hF2; clear hR2 hF2)
      go_ret
      rw [HS.out]
      exact ⟨rfl, HR2.out, HF2.out⟩
    · have hz0 := rd_in HR.out.B 0 (by omega)
      have hrd := rd_take (xs := xs) (n := 1) (i := 0) (by omega)
      have hyl : (xs.take 1).length = 1 := by rw [List.length_take]; omega
      have HL := Aside0.mk (show 1 ≤ xs.length by omega)
      have HS := Aside0.mk (show rByte xs 0 = (rd xs (0 : Nat), xs.drop 1, 0) by unfold rByte; rw [if_neg (by decide), if_neg h1]; rfl)
      obtain ⟨x0, hx0⟩ : ∃ x0, rd xs (0 : Nat) = x0 := ⟨_, rfl⟩
      obtain ⟨y, hy⟩ : ∃ y, xs.take 1 = y := ⟨_, rfl⟩
      obtain ⟨z, hz⟩ : ∃ z, xs.drop 1 = z := ⟨_, rfl⟩
      have HY := Aside0.mk hy
      have HZ := Aside0.mk hz
      rw [hx0] at hz0 hrd HS
      rw [hz] at HS
      rw [hy] at hrd hyl
      obtain ⟨hz1, hz2⟩ := hz0
      have HRD := Aside0.mk hrd
      have hy1 : 0 < y.length := by omega
      have hy2 : y.length ≤ 1 := by omega
      clear he h1 hx0 hy hz hrd hyl
      go_enter Try.func34, Try.ntmps34
      go_upto_region 2 with (go_at_call 56; (with_reducible refine (wire_Reader_take.calls_ok S g xs 1 1 rfl y z HY.out HZ.out _ HR.out HL.out).mono ?_); rintro e2 w2 ⟨A2, c2, rfl, hc2, hC2, hA2, hR2, hF2⟩; have HR2 := Aside0.mk hR2; have HF2 := Aside0.mk hF2; have HC2 := Aside0.mk hC2; clear hR2 hF2 hC2 hA2)
      obtain ⟨ad, e, hcell⟩ := Kd.at_int HC2.out (0 : Nat) (by omega) (by omega)
      subst e
      rw [HRD.out] at hcell
      replace hcell : w2.cell? ad = some (.int .u8 x0) := by
        have e0 : ad.add ((0 : Nat) : Int).toNat = ad := by cases ad; simp [Addr.add]
        rwa [e0] at hcell
      clear HC2
      go_wp2
      go_ret
      rw [HS.out]
      exact ⟨rfl, HR2.out, HF2.out⟩


end Go.Proofs.Ytjkimfjhfncldaa.Q
end

section
-- written by hprint.py (a program of these sessions) out of the translation; Lean checks it
namespace Go.Proofs.Ytjkimfjhfncldaa.Q
open Go.RowKit Go.Proofs.YtjkimfjhfncldaaW.Hb Go.Proofs.YtjkimfjhfncldaaW.PrintWords Go.Proofs.YtjkimfjhfncldaaW.PrintLast Go.Proofs.YtjkimfjhfncldaaW.PrintMore
attribute [local go_sem] max2_int min2_int max_two min_two max_three min_three max_four min_four   -- for this text's walks alone
set_option linter.unusedVariables false
set_option linter.unusedSimpArgs false

/-! ### wire_Reader_Int: function 36, by hand -/
def numB (n : Nat) (l : List Int) : Nat := l.foldl (fun n b => n * 256 + b.toNat) n
theorem orB (n b : Nat) (hb : b < 256) : (n * 256) ||| b = n * 256 + b := by
  have h : n * 256 = n <<< 8 := by rw [Nat.shiftLeft_eq]
  rw [h]
  exact (Nat.shiftLeft_add_eq_or_of_lt (by omega) n).symm
theorem wrapU64 (n : Int) : IntKind.u64.wrap n = n % 18446744073709551616 := by simp [IntKind.wrap, IntKind.bits, IntKind.signed]
theorem wrapI {n : Int} (h1 : -9223372036854775808 ≤ n) (h2 : n ≤ 9223372036854775807) : wrap64 n = n := by unfold wrap64; omega
theorem rdN (l : List Int) (i : Nat) (hi : i < l.length) : rd l (i : Int) = l[i] := by
  simp [rd, List.getD_eq_getElem?_getD, hi]
set_option maxRecDepth 10000 in
theorem numB_step (n : Nat) (b : Int) (hb : 0 ≤ b ∧ b ≤ 255) (hn : n * 256 + 255 < 18446744073709551616) : Go.bits .or .u64 (IntKind.u64.wrap ((n : Int) * 256)) (IntKind.u64.wrap b) = ((n * 256 + b.toNat : Nat) : Int) := by
  have h0 := hb.1
  have h1 := hb.2
  have e1 : IntKind.u64.wrap ((n : Int) * 256) = ((n * 256 : Nat) : Int) := by rw [wrapU64]; omega
  have e2 : IntKind.u64.wrap b = ((b.toNat : Nat) : Int) := by rw [wrapU64]; omega
  rw [e1, e2, bits_or_u64_nat _ _ (by omega) (by omega), orB _ _ (by omega)]
theorem numB_run (l : List Int) (hl : ∀ x ∈ l, 0 ≤ x ∧ x ≤ 255) (hm : l.length < 9223372036854775807) : ∀ (m i k n : Nat), i + m = l.length → (n + 1) * 256 ^ m ≤ 18446744073709551616 → wire_number.l0 (k + m + 1) (n : Int) l (l.length : Int) (i : Int) = some ((numB n (l.drop i) : Nat) : Int)
  | 0, i, k, n, hi, hn => by
    rw [wire_number.l0, if_neg (by omega), List.drop_eq_nil_of_le (by omega)]
    rfl
  | m + 1, i, k, n, hi, hn => by
    have hil : i < l.length := by omega
    have hb : 0 ≤ l[i] ∧ l[i] ≤ 255 := hl _ (List.getElem_mem hil)
    have hp : 0 < 256 ^ m := Nat.pow_pos (by omega)
    have hn1 : (n + 1) * 256 * 256 ^ m ≤ 18446744073709551616 := by rw [Nat.mul_assoc, Nat.mul_comm 256, ← Nat.pow_succ]; exact hn
    have hn2 : (n + 1) * 256 ≤ 18446744073709551616 := Nat.le_trans (Nat.le_mul_of_pos_right _ (by omega)) hn1
    rw [show k + (m + 1) + 1 = (k + m + 1) + 1 by omega, wire_number.l0, if_pos (by omega), if_pos (by omega), if_pos (by omega), rdN l i hil, numB_step n _ hb (by omega)]
    have e : wrap64 ((i : Int) + 1) = ((i + 1 : Nat) : Int) := by rw [wrapI (by omega) (by omega)]; omega
    have hbt : l[i].toNat ≤ 255 := by have := hb.2; omega
    rw [e, numB_run l hl hm m (i + 1) k (n * 256 + l[i].toNat) (by omega) (Nat.le_trans (Nat.mul_le_mul_right _ (by omega)) hn1), List.drop_eq_getElem_cons hil]
    rfl
theorem numB_eq (l : List Int) (hl : ∀ x ∈ l, 0 ≤ x ∧ x ≤ 255) (h4 : l.length ≤ 8) (k : Nat) : wire_number.f (k + l.length + 1) l = some (numB 0 l : Int) := by
  have hp : 256 ^ l.length ≤ 256 ^ 8 := Nat.pow_le_pow_right (by omega) h4
  exact numB_run l hl (by omega) l.length 0 k 0 (by omega) (by omega)
def rInt (xs : List Int) (e : Int) : Int × List Int × Int := if e ≠ 0 then (0, xs, e) else if xs.length < 8 then (0, xs, 20) else (wrap64 (numB 0 (xs.take 8) : Int), xs.drop 8, 0)
set_option maxRecDepth 100000 in
set_option maxHeartbeats 1000000 in
theorem wire_Reader_Int.calls (S : Nat → Prop) (g : Nat) (xs : List Int) (ev : Int) (w : World) (hR : Rd w S g xs ev) :
    Calls Try.prog 36 #[.pointer (some ⟨g, 0, none⟩)] w fun e w' => e = .returned (.int .i64 (rInt xs ev).1) ∧ Rd w' S g (rInt xs ev).2.1 (rInt xs ev).2.2 ∧ Fr w w' (fun k => k = g) := by
  have qT : ∀ (w : World) (a : Option Addr) (n c n' c' : Nat), (binOp .neq 22 (.slice a n c) (.slice none n' c')).run Try.prog w = .ok (.bool (!a.isNone)) w := fun w a n c n' c' => run_neq_slice_nil_any w _ _ a n c n' c' Try.underlying22
  have HR := Aside0.mk hR
  clear hR
  by_cases he : ev ≠ 0
  · have HS := Aside0.mk (show rInt xs ev = (0, xs, ev) from if_pos he)
    have HE := Aside0.mk he
    clear he
    go_enter Try.func36, Try.ntmps36
    go_wp2_with (go_at_call 56; (with_reducible refine (wire_Reader_take.calls_err S g xs ev 8 _ HR.out HE.out).mono ?_); rintro e2 w2 ⟨rfl, hw2⟩; subst w2)
    go_ret
    rw [HS.out]
    exact ⟨rfl, HR.out, Fr.of_below (Below.refl _ _) _⟩
  · obtain rfl : ev = 0 := by omega
    by_cases h1 : xs.length < 8
    · have HS := Aside0.mk (show rInt xs 0 = (0, xs, 20) by unfold rInt; rw [if_neg (by decide), if_pos h1])
      have HL := Aside0.mk (show (xs.length : Int) < 8 by omega)
      clear he h1
      go_enter Try.func36, Try.ntmps36
      go_wp2_with (go_at_call 56; (with_reducible refine (wire_Reader_take.calls_end S g xs 8 _ HR.out HL.out).mono ?_); rintro e2 w2 ⟨rfl, hR2, hF2⟩; have HR2 := Aside0.mk hR2; have HF2 := Aside0.mk hF2; clear hR2 hF2)
      go_ret
      rw [HS.out]
      exact ⟨rfl, HR2.out, HF2.out⟩
    · have hyl : (xs.take 8).length = 8 := by rw [List.length_take]; omega
      have hyB : ∀ x ∈ xs.take 8, 0 ≤ x ∧ x ≤ 255 := fun x hx => Rd.B HR.out x (List.mem_of_mem_take hx)
      have hnum := numB_eq (xs.take 8) hyB (by omega) 0
      have HL := Aside0.mk (show 8 ≤ xs.length by omega)
      have HS := Aside0.mk (show rInt xs 0 = (wrap64 (numB 0 (xs.take 8) : Int), xs.drop 8, 0) by unfold rInt; rw [if_neg (by decide), if_neg h1])
      obtain ⟨y, hy⟩ : ∃ y, xs.take 8 = y := ⟨_, rfl⟩
      obtain ⟨z, hz⟩ : ∃ z, xs.drop 8 = z := ⟨_, rfl⟩
      have HY := Aside0.mk hy
      have HZ := Aside0.mk hz
      rw [hy] at hyl hnum HS
      rw [hz] at HS
      obtain ⟨nv, hnv⟩ : ∃ nv : Int, (numB 0 y : Int) = nv := ⟨_, rfl⟩
      rw [hnv] at hnum HS
      have HN := Aside0.mk hnum
      have hy1 : 0 < y.length := by omega
      obtain ⟨kk, hkk⟩ : ∃ kk, 0 + y.length + 1 = kk := ⟨_, rfl⟩
      rw [hkk] at HN
      clear he h1 hy hz hnum hnv hyl hyB hkk
      go_enter Try.func36, Try.ntmps36
      go_upto_region 2 with (go_at_call 56; (with_reducible refine (wire_Reader_take.calls_ok S g xs 8 8 rfl y z HY.out HZ.out _ HR.out HL.out).mono ?_); rintro e2 w2 ⟨A2, c2, rfl, hc2, hC2, hA2, hR2, hF2⟩; have HR2 := Aside0.mk hR2; have HF2 := Aside0.mk hF2; have HC2 := Aside0.mk hC2; clear hR2 hF2 hC2 hA2)
      obtain ⟨ad, e, _⟩ := Kd.at_int HC2.out (0 : Nat) (by omega) (by omega)
      subst e
      go_wp2_with (go_at_call 47; (with_reducible refine (wire_number.calls kk (some ad) c2 y nv _ HC2.out hc2 HN.out).mono ?_); rintro e1 w1 ⟨rfl, hd1⟩; have HD1 := Aside0.mk hd1.below; clear hd1)
      go_ret
      rw [HS.out]
      exact ⟨rfl, HR2.out.below HD1.out, HF2.out.then_ (Fr.of_below HD1.out (fun k => k = g)) (fun _ h => .inl h)⟩


end Go.Proofs.Ytjkimfjhfncldaa.Q
end

section
-- written by hprint.py (a program of these sessions) out of the translation; Lean checks it
namespace Go.Proofs.Ytjkimfjhfncldaa.Q
open Go.RowKit Go.Proofs.YtjkimfjhfncldaaW.Hb Go.Proofs.YtjkimfjhfncldaaW.PrintWords Go.Proofs.YtjkimfjhfncldaaW.PrintLast Go.Proofs.YtjkimfjhfncldaaW.PrintMore
attribute [local go_sem] max2_int min2_int max_two min_two max_three min_three max_four min_four   -- for this text's walks alone
set_option linter.unusedVariables false
set_option linter.unusedSimpArgs false

/-! ### wire_Reader_Text: function 31, by hand -/
theorem or_i64 (a b : Nat) (ha : a < 256) (hb : b < 256) : Go.bits .or .i64 ((a : Int) * 256) (b : Int) = ((a * 256 + b : Nat) : Int) := by
  have h1 : (BitVec.ofInt 64 (((a * 256 : Nat) : Int))).toNat = a * 256 := by
    rw [BitVec.ofInt_natCast, BitVec.toNat_ofNat]; exact Nat.mod_eq_of_lt (by omega)
  have h2 : (BitVec.ofInt 64 (b : Int)).toNat = b := by
    rw [BitVec.ofInt_natCast, BitVec.toNat_ofNat]; exact Nat.mod_eq_of_lt (by omega)
  have h3 := orB a b hb
  show IntKind.i64.wrap ((BitVec.ofInt 64 ((a : Int) * 256) ||| BitVec.ofInt 64 (b : Int)).toNat : Int) = _
  rw [show ((a : Int) * 256) = ((a * 256 : Nat) : Int) by omega, BitVec.toNat_or, h1, h2, h3]
  rw [i64_w]
  exact wrapI (n := ((a * 256 + b : Nat) : Int)) (by omega) (by omega)
def tlen (xs : List Int) : Nat := (rd xs (0 : Nat) * 256 + rd xs (1 : Nat)).toNat
def rText (xs : List Int) (e : Int) : ByteArray × List Int × Int := if e ≠ 0 then (ByteArray.empty, xs, e) else if xs.length < 2 then (ByteArray.empty, xs, 20) else if xs.length < 2 + tlen xs then (ByteArray.empty, xs, 20) else (strOfNums ((xs.drop 2).take (tlen xs)), xs.drop (2 + tlen xs), 0)
theorem add1 (ad : Addr) : ad.add 1 = ⟨ad.block, ad.off + 1, none⟩ := by simp [Addr.add]
theorem add0 (ad : Addr) : ad.add ((0 : Nat) : Int).toNat = ad := by cases ad; simp [Addr.add]
set_option maxRecDepth 100000 in
set_option maxHeartbeats 2000000 in
theorem wire_Reader_Text.calls (S : Nat → Prop) (g : Nat) (xs : List Int) (ev : Int) (w : World) (hR : Rd w S g xs ev) :
    Calls Try.prog 31 #[.pointer (some ⟨g, 0, none⟩)] w fun e w' => e = .returned (.string (rText xs ev).1) ∧ Rd w' S g (rText xs ev).2.1 (rText xs ev).2.2 ∧ Fr w w' (fun k => k = g) := by
  have qT : ∀ (w : World) (a : Option Addr) (n c n' c' : Nat), (binOp .eql 22 (.slice a n c) (.slice none n' c')).run Try.prog w = .ok (.bool a.isNone) w := fun w a n c n' c' => Lib.run_eql_slice_nil w _ _ a n c n' c' Try.underlying22
  have HR := Aside0.mk hR
  obtain ⟨A0, c0, hb, hc, hS, hA, hC, hx⟩ := hR
  have HB := Aside0.mk hb
  have h0 : w.cell? ⟨g, 0, none⟩ = some (.slice A0 xs.length c0) := hb.cell 0
  have HC := Aside0.mk hC
  have HA := Aside0.mk hA
  have HX := Aside0.mk hx
  have hm : xs.length ≤ 9223372036854775807 := hC.2.1
  clear hb hC hA hx
  by_cases he : ev ≠ 0
  · have HS := Aside0.mk (show rText xs ev = (ByteArray.empty, xs, ev) from if_pos he)
    have HE := Aside0.mk he
    clear he
    go_enter Try.func31, Try.ntmps31
    go_wp2_with (first | (go_at_call 55; (with_reducible refine (wire_Reader_none.calls g _ _ true _ HB.out).mono ?_); rintro e2 w2 ⟨rfl, hw2⟩; subst w2) | (go_at_call 56; (with_reducible refine (wire_Reader_take.calls_err S g xs ev 2 _ HR.out HE.out).mono ?_); rintro e2 w2 ⟨rfl, hw2⟩; subst w2))
    go_ret
    rw [HS.out]
    exact ⟨rfl, HR.out, Fr.of_below (Below.refl _ _) _⟩
  obtain rfl : ev = 0 := by omega
  by_cases h1 : xs.length < 2
  · have HS := Aside0.mk (show rText xs 0 = (ByteArray.empty, xs, 20) by unfold rText; rw [if_neg (by decide), if_pos h1])
    have HL := Aside0.mk (show (xs.length : Int) < 2 by omega)
    clear he h1
    go_enter Try.func31, Try.ntmps31
    go_wp2_with (first | (go_at_call 55; (with_reducible refine (wire_Reader_none.calls g _ _ true _ HB.out).mono ?_); rintro e2 w2 ⟨rfl, hw2⟩; subst w2) | (go_at_call 56; (with_reducible refine (wire_Reader_take.calls_end S g xs 2 _ HR.out HL.out).mono ?_); rintro e2 w2 ⟨rfl, hR2, hF2⟩; have HR2 := Aside0.mk hR2; have HF2 := Aside0.mk hF2; clear hR2 hF2))
    go_ret
    rw [HS.out]
    exact ⟨rfl, HR2.out, HF2.out⟩
  have hz0 := rd_in HX.out 0 (by omega)
  have hz1 := rd_in HX.out 1 (by omega)
  have hr0 := rd_take (xs := xs) (n := 2) (i := 0) (by omega)
  have hr1 := rd_take (xs := xs) (n := 2) (i := 1) (by omega)
  have hyl : (xs.take 2).length = 2 := by rw [List.length_take]; omega
  have hzl : (xs.drop 2).length = xs.length - 2 := by rw [List.length_drop]
  have HL := Aside0.mk (show 2 ≤ xs.length by omega)
  have hn : tlen xs = (rd xs (0 : Nat) * 256 + rd xs (1 : Nat)).toNat := rfl
  have HS1 := Aside0.mk (show xs.length < 2 + tlen xs → rText xs 0 = (ByteArray.empty, xs, 20) from fun h => by unfold rText; rw [if_neg (by decide), if_neg h1, if_pos h])
  have HS2 := Aside0.mk (show ¬ xs.length < 2 + tlen xs → rText xs 0 = (strOfNums ((xs.drop 2).take (tlen xs)), (xs.drop 2).drop (tlen xs), 0) from fun h => by unfold rText; rw [if_neg (by decide), if_neg h1, if_neg h, List.drop_drop])
  obtain ⟨x0, hx0⟩ : ∃ x0, rd xs (0 : Nat) = x0 := ⟨_, rfl⟩
  obtain ⟨x1, hx1⟩ : ∃ x1, rd xs (1 : Nat) = x1 := ⟨_, rfl⟩
  obtain ⟨y, hy⟩ : ∃ y, xs.take 2 = y := ⟨_, rfl⟩
  obtain ⟨z, hz⟩ : ∃ z, xs.drop 2 = z := ⟨_, rfl⟩
  obtain ⟨n, hnn⟩ : ∃ n, tlen xs = n := ⟨_, rfl⟩
  have HY := Aside0.mk hy
  have HZ := Aside0.mk hz
  rw [hx0] at hz0 hr0 hn
  rw [hx1] at hz1 hr1 hn
  rw [hy] at hr0 hr1 hyl
  rw [hz] at hzl HS2
  rw [hnn] at hn HS1 HS2
  obtain ⟨p1, p2⟩ := hz0
  obtain ⟨p3, p4⟩ := hz1
  have hy2 : 2 ≤ y.length := by omega
  have HR0 := Aside0.mk hr0
  have HR1 := Aside0.mk hr1
  have HZL := Aside0.mk hzl
  obtain ⟨a, rfl⟩ := Int.eq_ofNat_of_zero_le p1
  obtain ⟨b, rfl⟩ := Int.eq_ofNat_of_zero_le p3
  have hor := or_i64 a b (by omega) (by omega)
  have hn' : a * 256 + b = n := by omega
  rw [hn'] at hor
  have HOR := Aside0.mk hor
  clear he h1 hx0 hx1 hy hz hnn hr0 hr1 hyl hzl hor hn hn'
  by_cases h3 : xs.length < 2 + n
  · have HS := Aside0.mk (HS1.out h3)
    have HL3 := Aside0.mk (show (z.length : Int) < (n : Int) by have := HZL.out; have := HL.out; omega)
    clear HS1 HS2 h3
    go_enter Try.func31, Try.ntmps31
    go_upto_region 5 with (first | (go_at_call 55; (with_reducible refine (wire_Reader_none.calls g _ _ true _ HB.out).mono ?_); rintro e2 w2 ⟨rfl, hw2⟩; subst w2) | (go_at_call 56; (with_reducible refine (wire_Reader_take.calls_ok S g xs 2 2 rfl y z HY.out HZ.out _ HR.out HL.out).mono ?_); rintro e2 w2 ⟨A2, c2, rfl, hc2, hC2, hA2, hR2, hF2⟩; have HR2 := Aside0.mk hR2; have HF2 := Aside0.mk hF2; have HC2 := Aside0.mk hC2; clear hR2 hF2 hC2 hA2))
    obtain ⟨ad, e, hcd0⟩ := Kd.at_int HC2.out (0 : Nat) (by omega) (by omega)
    subst e
    obtain ⟨ad', e, hcd1⟩ := Kd.at_int HC2.out (1 : Nat) (by omega) (by omega)
    cases e
    rw [HR0.out, add0] at hcd0
    rw [HR1.out, Int.toNat_natCast, add1] at hcd1
    have q0 : 0 < y.length := by omega
    have q1 : 1 < (y.length : Int) := by omega
    replace hcd0 : w2.drew.cell? ad = some (.int .u8 a) := hcd0
    replace hcd1 : w2.drew.cell? ⟨ad.block, ad.off + 1, none⟩ = some (.int .u8 b) := hcd1
    have HRd2 := Aside0.mk (HR2.out.below ((Below.refl _ _).drew))
    have HFd2 := Aside0.mk (HF2.out.then_ (Fr.of_below ((Below.refl _ _).drew) (fun k => k = g)) (fun _ h => .inl h))
    have hor := HOR.out
    have hw1 : wrap64 (a : Int) = (a : Int) := wrapI (by omega) (by omega)
    have hw2 : wrap64 ((a : Int) * 256) = (a : Int) * 256 := wrapI (by omega) (by omega)
    have hw3 : wrap64 (b : Int) = (b : Int) := wrapI (by omega) (by omega)
    clear HC2 HR2 HF2
    go_upto_region 7 with (fail)
    refine start_ (n := 13) (S := fun w' => w'.cell? ad = some (.int .u8 a) ∧ w'.cell? ⟨ad.block, ad.off + 1, none⟩ = some (.int .u8 b)) (ds := [11]) #[false, false, false, false, false, false, false, false, false, false, false, false, false] (by kernel_rfl) rfl rfl ⟨hcd0, hcd1⟩ (fun hHeld => ?_)
    generalize w2.drew = wd at HRd2 HFd2 hcd0 hcd1 hHeld ⊢
    refine pure_ (i := 0) (N := some 17) (v := ?_) (a' := ?_) #[true, false, false, false, false, false, false, false, false, false, false, false, false] rfl rfl (by kernel_rfl) (fun _ _ _ h => h) (Or.inl ⟨by rfl, ?_⟩) ?_ ?_
    rotate_left
    · intro w'
      go_simp
      with_reducible rfl
    rotate_left
    · simp only [Act.put, List.setIfInBounds_toArray, List.set_cons_zero, List.set_cons_succ, i64_w, i32_w]
      rfl
    refine pure_ (i := 1) (N := some 18) (v := ?_) (a' := ?_) #[true, true, false, false, false, false, false, false, false, false, false, false, false] rfl rfl (by kernel_rfl) (fun _ _ _ h => h) (Or.inl ⟨by rfl, ?_⟩) ?_ ?_
    rotate_left
    · intro w'
      go_simp
      with_reducible rfl
    rotate_left
    · simp only [Act.put, List.setIfInBounds_toArray, List.set_cons_zero, List.set_cons_succ, i64_w, i32_w]
      rfl
    refine pure_ (i := 2) (N := some 19) (v := ?_) (a' := ?_) #[true, true, true, false, false, false, false, false, false, false, false, false, false] rfl rfl (by kernel_rfl) (fun _ _ _ h => h) (Or.inl ⟨by rfl, ?_⟩) ?_ ?_
    rotate_left
    · intro w'
      go_simp
      with_reducible rfl
    rotate_left
    · simp only [Act.put, List.setIfInBounds_toArray, List.set_cons_zero, List.set_cons_succ, i64_w, i32_w]
      rfl
    refine pure_ (i := 6) (N := some 23) (v := ?_) (a' := ?_) #[true, true, true, false, false, false, true, false, false, false, false, false, false] rfl rfl (by kernel_rfl) (fun _ _ _ h => h) (Or.inl ⟨by rfl, ?_⟩) ?_ ?_
    rotate_left
    · intro w'
      go_simp
      with_reducible rfl
    rotate_left
    · simp only [Act.put, List.setIfInBounds_toArray, List.set_cons_zero, List.set_cons_succ, i64_w, i32_w]
      rfl
    refine pure_ (i := 7) (N := some 24) (v := ?_) (a' := ?_) #[true, true, true, false, false, false, true, true, false, false, false, false, false] rfl rfl (by kernel_rfl) (fun _ _ _ h => h) (Or.inl ⟨by rfl, ?_⟩) ?_ ?_
    rotate_left
    · intro w'
      go_simp
      with_reducible rfl
    rotate_left
    · simp only [Act.put, List.setIfInBounds_toArray, List.set_cons_zero, List.set_cons_succ, i64_w, i32_w]
      rfl
    refine take_ (i := 3) (N := some 20) (v := ?_) (a' := ?_) #[true, true, true, true, false, false, true, true, false, false, false, false, false] rfl rfl (by kernel_rfl) (fun _ _ _ h => h) (Or.inl ⟨by rfl, ?_⟩) hHeld ?_ ?_
    rotate_left
    · rintro w' ⟨s0, s1⟩
      go_simp
      with_reducible rfl
    rotate_left
    · simp only [Act.put, List.setIfInBounds_toArray, List.set_cons_zero, List.set_cons_succ, i64_w, i32_w]
      rfl
    refine pure_ (i := 4) (N := some 21) (v := ?_) (a' := ?_) #[true, true, true, true, true, false, true, true, false, false, false, false, false] rfl rfl (by kernel_rfl) (fun _ _ _ h => h) (Or.inl ⟨by rfl, ?_⟩) ?_ ?_
    rotate_left
    · intro w'
      go_simp
      with_reducible rfl
    rotate_left
    · simp only [Act.put, List.setIfInBounds_toArray, List.set_cons_zero, List.set_cons_succ, i64_w, i32_w]
      rfl
    refine pure_ (i := 5) (N := some 22) (v := ?_) (a' := ?_) #[true, true, true, true, true, true, true, true, false, false, false, false, false] rfl rfl (by kernel_rfl) (fun _ _ _ h => h) (Or.inl ⟨by rfl, ?_⟩) ?_ ?_
    rotate_left
    · intro w'
      go_simp
      with_reducible rfl
    rotate_left
    · simp only [Act.put, List.setIfInBounds_toArray, List.set_cons_zero, List.set_cons_succ, i64_w, i32_w]
      rfl
    refine take_ (i := 8) (N := some 25) (v := ?_) (a' := ?_) #[true, true, true, true, true, true, true, true, true, false, false, false, false] rfl rfl (by kernel_rfl) (fun _ _ _ h => h) (Or.inl ⟨by rfl, ?_⟩) hHeld ?_ ?_
    rotate_left
    · rintro w' ⟨s0, s1⟩
      go_simp
      with_reducible rfl
    rotate_left
    · simp only [Act.put, List.setIfInBounds_toArray, List.set_cons_zero, List.set_cons_succ, i64_w, i32_w]
      rfl
    refine pure_ (i := 9) (N := some 26) (v := ?_) (a' := ?_) #[true, true, true, true, true, true, true, true, true, true, false, false, false] rfl rfl (by kernel_rfl) (fun _ _ _ h => h) (Or.inl ⟨by rfl, ?_⟩) ?_ ?_
    rotate_left
    · intro w'
      go_simp
      with_reducible rfl
    rotate_left
    · simp only [Act.put, List.setIfInBounds_toArray, List.set_cons_zero, List.set_cons_succ, i64_w, i32_w]
      rfl
    refine pure_ (i := 10) (N := some 27) (v := ?_) (a' := ?_) #[true, true, true, true, true, true, true, true, true, true, true, false, false] rfl rfl (by kernel_rfl) (fun _ _ _ h => h) (Or.inl ⟨by rfl, ?_⟩) ?_ ?_
    rotate_left
    · intro w'
      go_simp
      with_reducible rfl
    rotate_left
    · simp only [Act.put, List.setIfInBounds_toArray, List.set_cons_zero, List.set_cons_succ, i64_w, i32_w]
      rfl
    refine last_ (i := 11) (N := some 28) #[true, true, true, true, true, true, true, true, true, true, true, true, false] rfl rfl (by kernel_rfl) (by decide) (fun K hK => ?_)
    refine goes_ Try.func56 (by kernel_rfl) rfl #[.pointer (some ⟨g, 0, none⟩), .int .i64 (n : Int)] (by rfl) rfl rfl (by simp only [List.map_toArray, List.map_cons, List.map_nil]; rfl) ?_
    with_reducible refine (wire_Reader_take.calls_end S g z n _ HRd2.out HL3.out).mono ?_
    rintro e w4 ⟨rfl, hR4, hF4⟩
    refine ⟨_, rfl, ?_⟩
    have HR4 := Aside0.mk hR4
    have HF4 := Aside0.mk (HFd2.out.then_ hF4 (fun _ h => .inl h))
    clear hR4 hF4
    refine hK.out _ _ ?_
    clear hK K
    refine norm_ (a' := ?_) ?_ ?_
    rotate_left
    · show Act.put _ (some 28) _ = _
      simp only [Act.put, List.setIfInBounds_toArray, List.set_cons_zero, List.set_cons_succ, i64_w, i32_w]
      rfl
    refine pure_ (i := 12) (N := some 5) (v := ?_) (a' := ?_) #[true, true, true, true, true, true, true, true, true, true, true, true, true] rfl rfl (by kernel_rfl) (fun _ _ _ h => h) (Or.inl ⟨by rfl, ?_⟩) ?_ ?_
    rotate_left
    · intro w'
      go_simp
      with_reducible rfl
    rotate_left
    · simp only [Act.put, List.setIfInBounds_toArray, List.set_cons_zero, List.set_cons_succ, i64_w, i32_w]
      rfl
    refine done_ (by kernel_rfl) ?_
    clear hHeld hcd0 hcd1 hor hw1 hw2 hw3 HRd2
    obtain ⟨A4, c4, hb4, _, _, _, _, _⟩ := HR4.out
    have HB4 := Aside0.mk hb4
    have k0 : w4.cell? ⟨g, 0, none⟩ = some (.slice A4 z.length c4) := hb4.cell 0
    have k2 : w4.cell? ⟨g, 2, none⟩ = some (.int .i64 20) := hb4.cell 2
    have f0 : w4.frozen? ⟨g, 0, none⟩ = false := hb4.frozen 0
    have hcvn : ∀ (W : World) (c : Nat), (convert 22 9 (.slice none 0 c)).run Try.prog W = .ok (.string ByteArray.empty) W := fun W c => Kd.C_string (P := Try.prog) (src := 22) (dst := 9) (e := 5) (c := c) Try.underlying22 Try.underlying5 Try.underlying9 (Kd.C_nil (Kd.int .u8) W)
    clear hb4
    go_wp2
    go_ret
    rw [HS.out]
    have hA4 : ∀ ad, A0 = some ad → ad.block ≠ g ∧ ad.block < w4.heap.size := fun ad e => ⟨(HA.out ad e).2.1, Nat.lt_of_lt_of_le (HA.out ad e).2.2 HF4.out.1.size⟩
    have hC4 : (Kd.int .u8).C w4 A0 xs.length xs := C_keptb HC.out HF4.out.2 (fun ad e => ⟨(HA.out ad e).2.1, (HA.out ad e).2.2⟩)
    exact ⟨rfl, ⟨A0, c0, by simpa using HB4.out.set_ 0 (.slice A0 xs.length c0), hc, hS, fun ad e => ⟨(HA.out ad e).1, (hA4 ad e).1, by simpa [World.setCell] using (hA4 ad e).2⟩, Rd.far hC4 hA4 0 _, HX.out⟩, HF4.out.then_ (Fr.set_ w4 g 0 _) (fun _ h => .inl h)⟩
  · have HS := HS2.out h3
    have HL5 := Aside0.mk (show n ≤ z.length by have := HZL.out; omega)
    obtain ⟨y5, hy5⟩ : ∃ y5, z.take n = y5 := ⟨_, rfl⟩
    obtain ⟨z5, hz5⟩ : ∃ z5, z.drop n = z5 := ⟨_, rfl⟩
    rw [hy5, hz5] at HS
    have HY5 := Aside0.mk hy5
    have HZ5 := Aside0.mk hz5
    replace HS := Aside0.mk HS
    clear HS1 HS2 h3 hy5 hz5
    go_enter Try.func31, Try.ntmps31
    go_upto_region 5 with (first | (go_at_call 55; (with_reducible refine (wire_Reader_none.calls g _ _ true _ HB.out).mono ?_); rintro e2 w2 ⟨rfl, hw2⟩; subst w2) | (go_at_call 56; (with_reducible refine (wire_Reader_take.calls_ok S g xs 2 2 rfl y z HY.out HZ.out _ HR.out HL.out).mono ?_); rintro e2 w2 ⟨A2, c2, rfl, hc2, hC2, hA2, hR2, hF2⟩; have HR2 := Aside0.mk hR2; have HF2 := Aside0.mk hF2; have HC2 := Aside0.mk hC2; clear hR2 hF2 hC2 hA2))
    obtain ⟨ad, e, hcd0⟩ := Kd.at_int HC2.out (0 : Nat) (by omega) (by omega)
    subst e
    obtain ⟨ad', e, hcd1⟩ := Kd.at_int HC2.out (1 : Nat) (by omega) (by omega)
    cases e
    rw [HR0.out, add0] at hcd0
    rw [HR1.out, Int.toNat_natCast, add1] at hcd1
    have q0 : 0 < y.length := by omega
    have q1 : 1 < (y.length : Int) := by omega
    replace hcd0 : w2.drew.cell? ad = some (.int .u8 a) := hcd0
    replace hcd1 : w2.drew.cell? ⟨ad.block, ad.off + 1, none⟩ = some (.int .u8 b) := hcd1
    have HRd2 := Aside0.mk (HR2.out.below ((Below.refl _ _).drew))
    have HFd2 := Aside0.mk (HF2.out.then_ (Fr.of_below ((Below.refl _ _).drew) (fun k => k = g)) (fun _ h => .inl h))
    have hor := HOR.out
    have hw1 : wrap64 (a : Int) = (a : Int) := wrapI (by omega) (by omega)
    have hw2 : wrap64 ((a : Int) * 256) = (a : Int) * 256 := wrapI (by omega) (by omega)
    have hw3 : wrap64 (b : Int) = (b : Int) := wrapI (by omega) (by omega)
    clear HC2 HR2 HF2
    go_upto_region 7 with (fail)
    refine start_ (n := 13) (S := fun w' => w'.cell? ad = some (.int .u8 a) ∧ w'.cell? ⟨ad.block, ad.off + 1, none⟩ = some (.int .u8 b)) (ds := [11]) #[false, false, false, false, false, false, false, false, false, false, false, false, false] (by kernel_rfl) rfl rfl ⟨hcd0, hcd1⟩ (fun hHeld => ?_)
    generalize w2.drew = wd at HRd2 HFd2 hcd0 hcd1 hHeld ⊢
    refine pure_ (i := 0) (N := some 17) (v := ?_) (a' := ?_) #[true, false, false, false, false, false, false, false, false, false, false, false, false] rfl rfl (by kernel_rfl) (fun _ _ _ h => h) (Or.inl ⟨by rfl, ?_⟩) ?_ ?_
    rotate_left
    · intro w'
      go_simp
      with_reducible rfl
    rotate_left
    · simp only [Act.put, List.setIfInBounds_toArray, List.set_cons_zero, List.set_cons_succ, i64_w, i32_w]
      rfl
    refine pure_ (i := 1) (N := some 18) (v := ?_) (a' := ?_) #[true, true, false, false, false, false, false, false, false, false, false, false, false] rfl rfl (by kernel_rfl) (fun _ _ _ h => h) (Or.inl ⟨by rfl, ?_⟩) ?_ ?_
    rotate_left
    · intro w'
      go_simp
      with_reducible rfl
    rotate_left
    · simp only [Act.put, List.setIfInBounds_toArray, List.set_cons_zero, List.set_cons_succ, i64_w, i32_w]
      rfl
    refine pure_ (i := 2) (N := some 19) (v := ?_) (a' := ?_) #[true, true, true, false, false, false, false, false, false, false, false, false, false] rfl rfl (by kernel_rfl) (fun _ _ _ h => h) (Or.inl ⟨by rfl, ?_⟩) ?_ ?_
    rotate_left
    · intro w'
      go_simp
      with_reducible rfl
    rotate_left
    · simp only [Act.put, List.setIfInBounds_toArray, List.set_cons_zero, List.set_cons_succ, i64_w, i32_w]
      rfl
    refine pure_ (i := 6) (N := some 23) (v := ?_) (a' := ?_) #[true, true, true, false, false, false, true, false, false, false, false, false, false] rfl rfl (by kernel_rfl) (fun _ _ _ h => h) (Or.inl ⟨by rfl, ?_⟩) ?_ ?_
    rotate_left
    · intro w'
      go_simp
      with_reducible rfl
    rotate_left
    · simp only [Act.put, List.setIfInBounds_toArray, List.set_cons_zero, List.set_cons_succ, i64_w, i32_w]
      rfl
    refine pure_ (i := 7) (N := some 24) (v := ?_) (a' := ?_) #[true, true, true, false, false, false, true, true, false, false, false, false, false] rfl rfl (by kernel_rfl) (fun _ _ _ h => h) (Or.inl ⟨by rfl, ?_⟩) ?_ ?_
    rotate_left
    · intro w'
      go_simp
      with_reducible rfl
    rotate_left
    · simp only [Act.put, List.setIfInBounds_toArray, List.set_cons_zero, List.set_cons_succ, i64_w, i32_w]
      rfl
    refine take_ (i := 3) (N := some 20) (v := ?_) (a' := ?_) #[true, true, true, true, false, false, true, true, false, false, false, false, false] rfl rfl (by kernel_rfl) (fun _ _ _ h => h) (Or.inl ⟨by rfl, ?_⟩) hHeld ?_ ?_
    rotate_left
    · rintro w' ⟨s0, s1⟩
      go_simp
      with_reducible rfl
    rotate_left
    · simp only [Act.put, List.setIfInBounds_toArray, List.set_cons_zero, List.set_cons_succ, i64_w, i32_w]
      rfl
    refine pure_ (i := 4) (N := some 21) (v := ?_) (a' := ?_) #[true, true, true, true, true, false, true, true, false, false, false, false, false] rfl rfl (by kernel_rfl) (fun _ _ _ h => h) (Or.inl ⟨by rfl, ?_⟩) ?_ ?_
    rotate_left
    · intro w'
      go_simp
      with_reducible rfl
    rotate_left
    · simp only [Act.put, List.setIfInBounds_toArray, List.set_cons_zero, List.set_cons_succ, i64_w, i32_w]
      rfl
    refine pure_ (i := 5) (N := some 22) (v := ?_) (a' := ?_) #[true, true, true, true, true, true, true, true, false, false, false, false, false] rfl rfl (by kernel_rfl) (fun _ _ _ h => h) (Or.inl ⟨by rfl, ?_⟩) ?_ ?_
    rotate_left
    · intro w'
      go_simp
      with_reducible rfl
    rotate_left
    · simp only [Act.put, List.setIfInBounds_toArray, List.set_cons_zero, List.set_cons_succ, i64_w, i32_w]
      rfl
    refine take_ (i := 8) (N := some 25) (v := ?_) (a' := ?_) #[true, true, true, true, true, true, true, true, true, false, false, false, false] rfl rfl (by kernel_rfl) (fun _ _ _ h => h) (Or.inl ⟨by rfl, ?_⟩) hHeld ?_ ?_
    rotate_left
    · rintro w' ⟨s0, s1⟩
      go_simp
      with_reducible rfl
    rotate_left
    · simp only [Act.put, List.setIfInBounds_toArray, List.set_cons_zero, List.set_cons_succ, i64_w, i32_w]
      rfl
    refine pure_ (i := 9) (N := some 26) (v := ?_) (a' := ?_) #[true, true, true, true, true, true, true, true, true, true, false, false, false] rfl rfl (by kernel_rfl) (fun _ _ _ h => h) (Or.inl ⟨by rfl, ?_⟩) ?_ ?_
    rotate_left
    · intro w'
      go_simp
      with_reducible rfl
    rotate_left
    · simp only [Act.put, List.setIfInBounds_toArray, List.set_cons_zero, List.set_cons_succ, i64_w, i32_w]
      rfl
    refine pure_ (i := 10) (N := some 27) (v := ?_) (a' := ?_) #[true, true, true, true, true, true, true, true, true, true, true, false, false] rfl rfl (by kernel_rfl) (fun _ _ _ h => h) (Or.inl ⟨by rfl, ?_⟩) ?_ ?_
    rotate_left
    · intro w'
      go_simp
      with_reducible rfl
    rotate_left
    · simp only [Act.put, List.setIfInBounds_toArray, List.set_cons_zero, List.set_cons_succ, i64_w, i32_w]
      rfl
    refine last_ (i := 11) (N := some 28) #[true, true, true, true, true, true, true, true, true, true, true, true, false] rfl rfl (by kernel_rfl) (by decide) (fun K hK => ?_)
    refine goes_ Try.func56 (by kernel_rfl) rfl #[.pointer (some ⟨g, 0, none⟩), .int .i64 (n : Int)] (by rfl) rfl rfl (by simp only [List.map_toArray, List.map_cons, List.map_nil]; rfl) ?_
    with_reducible refine (wire_Reader_take.calls_ok S g z n n rfl y5 z5 HY5.out HZ5.out _ HRd2.out HL5.out).mono ?_
    rintro e w4 ⟨A5, c5, rfl, hc5, hC5, hA5, hR4, hF4⟩
    refine ⟨_, rfl, ?_⟩
    have HR4 := Aside0.mk hR4
    have HC5 := Aside0.mk hC5
    have HF4 := Aside0.mk (HFd2.out.then_ hF4 (fun _ h => .inl h))
    clear hR4 hF4 hC5 hA5
    refine hK.out _ _ ?_
    clear hK K
    refine norm_ (a' := ?_) ?_ ?_
    rotate_left
    · show Act.put _ (some 28) _ = _
      simp only [Act.put, List.setIfInBounds_toArray, List.set_cons_zero, List.set_cons_succ, i64_w, i32_w]
      rfl
    refine pure_ (i := 12) (N := some 5) (v := ?_) (a' := ?_) #[true, true, true, true, true, true, true, true, true, true, true, true, true] rfl rfl (by kernel_rfl) (fun _ _ _ h => h) (Or.inl ⟨by rfl, ?_⟩) ?_ ?_
    rotate_left
    · intro w'
      go_simp
      with_reducible rfl
    rotate_left
    · simp only [Act.put, List.setIfInBounds_toArray, List.set_cons_zero, List.set_cons_succ, i64_w, i32_w]
      rfl
    refine done_ (by kernel_rfl) ?_
    clear hHeld hcd0 hcd1 hor hw1 hw2 hw3 HRd2
    obtain ⟨A4, c4, hb4, _, _, _, _, _⟩ := HR4.out
    have k2 : w4.cell? ⟨g, 2, none⟩ = some (.int .i64 0) := hb4.cell 2
    have hcv := Kd.C_string (P := Try.prog) (src := 22) (dst := 9) (e := 5) (c := c5) Try.underlying22 Try.underlying5 Try.underlying9 HC5.out
    clear hb4
    go_wp2
    go_ret
    rw [HS.out]
    exact ⟨rfl, HR4.out, HF4.out⟩


end Go.Proofs.Ytjkimfjhfncldaa.Q
end

section
-- written by hprint.py (a program of these sessions) out of the translation; Lean checks it
namespace Go.Proofs.Ytjkimfjhfncldaa.Q
open Go.RowKit Go.Proofs.YtjkimfjhfncldaaW.Hb Go.Proofs.YtjkimfjhfncldaaW.PrintWords Go.Proofs.YtjkimfjhfncldaaW.PrintLast Go.Proofs.YtjkimfjhfncldaaW.PrintMore
attribute [local go_sem] max2_int min2_int max_two min_two max_three min_three max_four min_four   -- for this text's walks alone
set_option linter.unusedVariables false
set_option linter.unusedSimpArgs false

/-! ### weighhouseref01_Reader_Left: function 40, by hand -/
/-- The document's reader: its block g, all bytes, its place, its error; S: its blocks. -/
def Rq (w : World) (S : Nat → Prop) (g : Nat) (B : List Int) (a : Nat) (e : Int) : Prop := ∃ A c, Blk w g 65 #[.slice A B.length c, .int .i64 a, .int .i64 e] ∧ B.length ≤ c ∧ S g ∧ (∀ ad, A = some ad → S ad.block ∧ ad.block ≠ g ∧ ad.block < w.heap.size) ∧ (Kd.int .u8).C w A B.length B ∧ (∀ x ∈ B, 0 ≤ x ∧ x ≤ 255) ∧ a ≤ B.length ∧ B.length ≤ 140737488355328
theorem Rq.lt {w : World} {S : Nat → Prop} {g : Nat} {B : List Int} {a : Nat} {e : Int} (h : Rq w S g B a e) : g < w.heap.size := by
  obtain ⟨A, c, hb, _⟩ := h
  exact hb.lt
theorem Rq.info {w : World} {S : Nat → Prop} {g : Nat} {B : List Int} {a : Nat} {e : Int} (h : Rq w S g B a e) : (∀ x ∈ B, 0 ≤ x ∧ x ≤ 255) ∧ a ≤ B.length ∧ B.length ≤ 140737488355328 := by
  obtain ⟨_, _, _, _, _, _, _, h⟩ := h
  exact h
theorem Rq.kept {w w' : World} {S S2 : Nat → Prop} {g : Nat} {B : List Int} {a : Nat} {e : Int} (h : Rq w S g B a e) (hk : Kept w w' S2) (hd : ∀ k, S k → ¬ S2 k) : Rq w' S g B a e := by
  obtain ⟨A, c, hb, hc, hS, hA, hC, hx⟩ := h
  exact ⟨A, c, blk_kept hb hk (hd g hS), hc, hS, fun ad e => ⟨(hA ad e).1, (hA ad e).2.1, Nat.lt_of_lt_of_le (hA ad e).2.2 hk.1⟩, C_keptb hC hk (fun ad e => ⟨hd _ (hA ad e).1, (hA ad e).2.2⟩), hx⟩
theorem Rq.below {w w' : World} {S : Nat → Prop} {g : Nat} {B : List Int} {a : Nat} {e : Int} (h : Rq w S g B a e) (hb : Below w.heap.size w w') : Rq w' S g B a e := h.kept (Kept.of_below hb (fun _ => False)) (fun _ _ hk => hk)
theorem Rq.set_at {w : World} {S : Nat → Prop} {g : Nat} {B : List Int} {a a' : Nat} {e : Int} (h : Rq w S g B a e) (ha : a' ≤ B.length) : Rq (w.setCell ⟨g, 1, none⟩ (.int .i64 a')) S g B a' e := by
  obtain ⟨A, c, hb, hc, hS, hA, hC, hx, _, hl⟩ := h
  exact ⟨A, c, by simpa using hb.set_ 1 (.int .i64 a'), hc, hS, fun ad e => ⟨(hA ad e).1, (hA ad e).2.1, by simpa [World.setCell] using (hA ad e).2.2⟩, Rd.far hC (fun ad e => (hA ad e).2) 1 _, hx, ha, hl⟩
theorem Rq.set_e {w : World} {S : Nat → Prop} {g : Nat} {B : List Int} {a : Nat} {e e' : Int} (h : Rq w S g B a e) : Rq (w.setCell ⟨g, 2, none⟩ (.int .i64 e')) S g B a e' := by
  obtain ⟨A, c, hb, hc, hS, hA, hC, hx, ha, hl⟩ := h
  exact ⟨A, c, by simpa using hb.set_ 2 (.int .i64 e'), hc, hS, fun ad e => ⟨(hA ad e).1, (hA ad e).2.1, by simpa [World.setCell] using (hA ad e).2.2⟩, Rd.far hC (fun ad e => (hA ad e).2) 2 _, hx, ha, hl⟩
set_option maxRecDepth 100000 in
theorem weighhouseref01_Reader_Left.calls (S : Nat → Prop) (g : Nat) (B : List Int) (a : Nat) (ev : Int) (w : World) (hR : Rq w S g B a ev) :
    Calls Try.prog 40 #[.pointer (some ⟨g, 0, none⟩)] w fun e w' => e = .returned (.int .i64 ((B.drop a).length : Int)) ∧ Below w.heap.size w w' := by
  obtain ⟨A, c, hb, hc, hS, hA, hC, hx, ha, hl⟩ := hR
  have k0 : w.drew.cell? ⟨g, 0, none⟩ = some (.slice A B.length c) := hb.cell 0
  have k1 : w.drew.cell? ⟨g, 1, none⟩ = some (.int .i64 a) := hb.cell 1
  have hd : wrap64 ((B.length : Int) - (a : Int)) = ((B.drop a).length : Int) := by
    rw [wrapI (by omega) (by omega), List.length_drop]
    omega
  obtain ⟨n, hn⟩ : ∃ n : Int, ((B.drop a).length : Int) = n := ⟨_, rfl⟩
  rw [hn] at hd ⊢
  clear hb hC hx hA hn
  go_enter Try.func40, Try.ntmps40
  go_wp2
  have HBd := Aside0.mk ((Below.refl w.heap.size w).drew)
  refine start_ (n := 11) (S := fun w' => w'.cell? ⟨g, 0, none⟩ = some (.slice A B.length c) ∧ w'.cell? ⟨g, 1, none⟩ = some (.int .i64 a)) (ds := []) #[false, false, false, false, false, false, false, false, false, false, false] (by kernel_rfl) rfl rfl ⟨k0, k1⟩ (fun hHeld => ?_)
  generalize w.drew = wd at k0 k1 HBd hHeld ⊢
  refine pure_ (i := 0) (N := some 3) (v := ?_) (a' := ?_) #[true, false, false, false, false, false, false, false, false, false, false] rfl rfl (by kernel_rfl) (fun _ _ _ h => h) (Or.inl ⟨by rfl, ?_⟩) ?_ ?_
  rotate_left
  · intro w'
    go_simp
    with_reducible rfl
  rotate_left
  · simp only [Act.put, List.setIfInBounds_toArray, List.set_cons_zero, List.set_cons_succ, i64_w, i32_w]
    rfl
  refine pure_ (i := 1) (N := some 4) (v := ?_) (a' := ?_) #[true, true, false, false, false, false, false, false, false, false, false] rfl rfl (by kernel_rfl) (fun _ _ _ h => h) (Or.inl ⟨by rfl, ?_⟩) ?_ ?_
  rotate_left
  · intro w'
    go_simp
    with_reducible rfl
  rotate_left
  · simp only [Act.put, List.setIfInBounds_toArray, List.set_cons_zero, List.set_cons_succ, i64_w, i32_w]
    rfl
  refine pure_ (i := 2) (N := some 5) (v := ?_) (a' := ?_) #[true, true, true, false, false, false, false, false, false, false, false] rfl rfl (by kernel_rfl) (fun _ _ _ h => h) (Or.inl ⟨by rfl, ?_⟩) ?_ ?_
  rotate_left
  · intro w'
    go_simp
    with_reducible rfl
  rotate_left
  · simp only [Act.put, List.setIfInBounds_toArray, List.set_cons_zero, List.set_cons_succ, i64_w, i32_w]
    rfl
  refine pure_ (i := 5) (N := some 8) (v := ?_) (a' := ?_) #[true, true, true, false, false, true, false, false, false, false, false] rfl rfl (by kernel_rfl) (fun _ _ _ h => h) (Or.inl ⟨by rfl, ?_⟩) ?_ ?_
  rotate_left
  · intro w'
    go_simp
    with_reducible rfl
  rotate_left
  · simp only [Act.put, List.setIfInBounds_toArray, List.set_cons_zero, List.set_cons_succ, i64_w, i32_w]
    rfl
  refine pure_ (i := 6) (N := some 9) (v := ?_) (a' := ?_) #[true, true, true, false, false, true, true, false, false, false, false] rfl rfl (by kernel_rfl) (fun _ _ _ h => h) (Or.inl ⟨by rfl, ?_⟩) ?_ ?_
  rotate_left
  · intro w'
    go_simp
    with_reducible rfl
  rotate_left
  · simp only [Act.put, List.setIfInBounds_toArray, List.set_cons_zero, List.set_cons_succ, i64_w, i32_w]
    rfl
  refine pure_ (i := 7) (N := some 10) (v := ?_) (a' := ?_) #[true, true, true, false, false, true, true, true, false, false, false] rfl rfl (by kernel_rfl) (fun _ _ _ h => h) (Or.inl ⟨by rfl, ?_⟩) ?_ ?_
  rotate_left
  · intro w'
    go_simp
    with_reducible rfl
  rotate_left
  · simp only [Act.put, List.setIfInBounds_toArray, List.set_cons_zero, List.set_cons_succ, i64_w, i32_w]
    rfl
  refine take_ (i := 3) (N := some 6) (v := ?_) (a' := ?_) #[true, true, true, true, false, true, true, true, false, false, false] rfl rfl (by kernel_rfl) (fun _ _ _ h => h) (Or.inl ⟨by rfl, ?_⟩) hHeld ?_ ?_
  rotate_left
  · rintro w' ⟨s0, s1⟩
    go_simp
    with_reducible rfl
  rotate_left
  · simp only [Act.put, List.setIfInBounds_toArray, List.set_cons_zero, List.set_cons_succ, i64_w, i32_w]
    rfl
  refine pure_ (i := 4) (N := some 7) (v := ?_) (a' := ?_) #[true, true, true, true, true, true, true, true, false, false, false] rfl rfl (by kernel_rfl) (fun _ _ _ h => h) (Or.inl ⟨by rfl, ?_⟩) ?_ ?_
  rotate_left
  · intro w'
    go_simp
    with_reducible rfl
  rotate_left
  · simp only [Act.put, List.setIfInBounds_toArray, List.set_cons_zero, List.set_cons_succ, i64_w, i32_w]
    rfl
  refine take_ (i := 8) (N := some 11) (v := ?_) (a' := ?_) #[true, true, true, true, true, true, true, true, true, false, false] rfl rfl (by kernel_rfl) (fun _ _ _ h => h) (Or.inl ⟨by rfl, ?_⟩) hHeld ?_ ?_
  rotate_left
  · rintro w' ⟨s0, s1⟩
    go_simp
    with_reducible rfl
  rotate_left
  · simp only [Act.put, List.setIfInBounds_toArray, List.set_cons_zero, List.set_cons_succ, i64_w, i32_w]
    rfl
  refine pure_ (i := 9) (N := some 12) (v := ?_) (a' := ?_) #[true, true, true, true, true, true, true, true, true, true, false] rfl rfl (by kernel_rfl) (fun _ _ _ h => h) (Or.inl ⟨by rfl, ?_⟩) ?_ ?_
  rotate_left
  · intro w'
    go_simp
    with_reducible rfl
  rotate_left
  · simp only [Act.put, List.setIfInBounds_toArray, List.set_cons_zero, List.set_cons_succ, i64_w, i32_w]
    rfl
  refine pure_ (i := 10) (N := some 2) (v := ?_) (a' := ?_) #[true, true, true, true, true, true, true, true, true, true, true] rfl rfl (by kernel_rfl) (fun _ _ _ h => h) (Or.inl ⟨by rfl, ?_⟩) ?_ ?_
  rotate_left
  · intro w'
    go_simp
    with_reducible rfl
  rotate_left
  · simp only [Act.put, List.setIfInBounds_toArray, List.set_cons_zero, List.set_cons_succ, i64_w, i32_w]
    rfl
  refine done_ (by kernel_rfl) ?_
  clear hHeld k0 k1 hd
  go_wp2
  go_ret
  exact ⟨rfl, HBd.out⟩


end Go.Proofs.Ytjkimfjhfncldaa.Q
end

section
-- written by hprint.py (a program of these sessions) out of the translation; Lean checks it
namespace Go.Proofs.Ytjkimfjhfncldaa.Q
open Go.RowKit Go.Proofs.YtjkimfjhfncldaaW.Hb Go.Proofs.YtjkimfjhfncldaaW.PrintWords Go.Proofs.YtjkimfjhfncldaaW.PrintLast Go.Proofs.YtjkimfjhfncldaaW.PrintMore
attribute [local go_sem] max2_int min2_int max_two min_two max_three min_three max_four min_four   -- for this text's walks alone
set_option linter.unusedVariables false
set_option linter.unusedSimpArgs false

/-! ### weighhouseref01_Reader_has: function 57, by hand -/
def hasS (l : Nat) (e n : Int) : Bool × Int := if e = 0 then (if (l : Int) < n then (false, 20) else (true, 0)) else (false, e)
set_option maxRecDepth 100000 in
theorem weighhouseref01_Reader_has.calls (S : Nat → Prop) (g : Nat) (B : List Int) (a : Nat) (ev n : Int) (b : Bool) (e1 : Int) (w : World) (hR : Rq w S g B a ev) (hh : hasS (B.drop a).length ev n = (b, e1)) :
    Calls Try.prog 57 #[.pointer (some ⟨g, 0, none⟩), .int .i64 n] w fun e w' => e = .returned (.bool b) ∧ Rq w' S g B a e1 ∧ Fr w w' (fun k => k = g) := by
  have HR := Aside0.mk hR
  obtain ⟨A, c, hb, hc, hS, hA, hC, hx, ha, hl⟩ := hR
  have k2 : w.cell? ⟨g, 2, none⟩ = some (.int .i64 ev) := hb.cell 2
  have HB := Aside0.mk hb
  clear hb hC hx hA
  unfold hasS at hh
  by_cases he : ev = 0
  · subst he
    rw [if_pos rfl] at hh
    obtain ⟨ln, hln⟩ : ∃ ln : Int, ((B.drop a).length : Int) = ln := ⟨_, rfl⟩
    have HLN := Aside0.mk hln
    rw [hln] at hh
    clear hln
    by_cases h1 : ln < n
    · rw [if_pos h1] at hh
      cases hh
      have d1 : decide (ln < n) = true := decide_eq_true h1
      have f2 : w.frozen? ⟨g, 2, none⟩ = false := HB.out.frozen 2
      clear h1
      go_enter Try.func57, Try.ntmps57
      go_wp2_with (go_at_call 40; (with_reducible refine (weighhouseref01_Reader_Left.calls S g B a 0 _ HR.out).mono ?_); rintro e2 w2 ⟨rfl, hB2⟩; rw [HLN.out]; have hbk := HB.out.after hB2; have k3 : w2.cell? ⟨g, 2, none⟩ = some (.int .i64 0) := hbk.cell 2; have f3 : w2.frozen? ⟨g, 2, none⟩ = false := hbk.frozen 2; have HB2 := Aside0.mk hB2; clear hB2 hbk)
      go_ret
      exact ⟨rfl, (HR.out.below HB2.out).set_e, (Fr.of_below HB2.out _).then_ (Fr.set_ w2 g 2 _) (fun _ h => .inl h)⟩
    · rw [if_neg h1] at hh
      cases hh
      have d1 : decide (ln < n) = false := decide_eq_false h1
      clear h1
      go_enter Try.func57, Try.ntmps57
      go_wp2_with (go_at_call 40; (with_reducible refine (weighhouseref01_Reader_Left.calls S g B a 0 _ HR.out).mono ?_); rintro e2 w2 ⟨rfl, hB2⟩; rw [HLN.out]; have HB2 := Aside0.mk hB2; clear hB2)
      go_ret
      exact ⟨rfl, HR.out.below HB2.out, Fr.of_below HB2.out _⟩
  · rw [if_neg he] at hh
    cases hh
    have d1 : (ev == 0) = false := by simp [he]
    have d2 : (ev != 0) = true := by simp [he]
    clear he
    go_enter Try.func57, Try.ntmps57
    go_wp2
    go_ret
    exact ⟨rfl, HR.out, Fr.of_below (Below.refl _ _) _⟩


end Go.Proofs.Ytjkimfjhfncldaa.Q
end

section
-- written by hprint.py (a program of these sessions) out of the translation; Lean checks it
namespace Go.Proofs.Ytjkimfjhfncldaa.Q
open Go.RowKit Go.Proofs.YtjkimfjhfncldaaW.Hb Go.Proofs.YtjkimfjhfncldaaW.PrintWords Go.Proofs.YtjkimfjhfncldaaW.PrintLast Go.Proofs.YtjkimfjhfncldaaW.PrintMore
attribute [local go_sem] max2_int min2_int max_two min_two max_three min_three max_four min_four   -- for this text's walks alone
set_option linter.unusedVariables false
set_option linter.unusedSimpArgs false

/-! ### weighhouseref01_Reader_Byte: function 35, by hand -/
theorem rByte_err {xs : List Int} {e : Int} (h : e ≠ 0) : rByte xs e = (0, xs, e) := if_pos h
theorem rByte_end {xs : List Int} (h : xs.length < 1) : rByte xs 0 = (0, xs, 20) := by unfold rByte; rw [if_neg (by decide), if_pos h]
theorem rByte_ok {xs : List Int} (h : ¬ xs.length < 1) : rByte xs 0 = (rd xs 0, xs.drop 1, 0) := by unfold rByte; rw [if_neg (by decide), if_neg h]
theorem drop_rd (B : List Int) (a i : Nat) : rd (B.drop a) (i : Int) = rd B ((a + i : Nat) : Int) := by
  simp only [rd, Int.toNat_natCast, List.getD_eq_getElem?_getD, List.getElem?_drop]
theorem hasS_err {l : Nat} {e n : Int} (h : e ≠ 0) : hasS l e n = (false, e) := if_neg h
theorem hasS_end {l : Nat} {n : Int} (h : (l : Int) < n) : hasS l 0 n = (false, 20) := by unfold hasS; rw [if_pos rfl, if_pos h]
theorem hasS_ok {l : Nat} {n : Int} (h : ¬ (l : Int) < n) : hasS l 0 n = (true, 0) := by unfold hasS; rw [if_pos rfl, if_neg h]
set_option maxRecDepth 100000 in
set_option maxHeartbeats 1000000 in
theorem weighhouseref01_Reader_Byte.calls (S : Nat → Prop) (g : Nat) (B : List Int) (a : Nat) (ev : Int) (w : World) (hR : Rq w S g B a ev) :
    Calls Try.prog 35 #[.pointer (some ⟨g, 0, none⟩)] w fun e w' => e = .returned (.int .i64 (rByte (B.drop a) ev).1) ∧ (∃ a', Rq w' S g B a' (rByte (B.drop a) ev).2.2 ∧ B.drop a' = (rByte (B.drop a) ev).2.1) ∧ Fr w w' (fun k => k = g) := by
  have HR := Aside0.mk hR
  by_cases he : ev = 0
  rotate_left
  · have HH := Aside0.mk (hasS_err (l := (B.drop a).length) (n := 1) he)
    rw [rByte_err he]
    clear hR he
    go_enter Try.func35, Try.ntmps35
    go_wp2_with (go_at_call 57; (with_reducible refine (weighhouseref01_Reader_has.calls S g B a ev 1 _ _ _ HR.out HH.out).mono ?_); rintro e2 w2 ⟨rfl, hR2, hF2⟩; have HR2 := Aside0.mk hR2; have HF2 := Aside0.mk hF2; clear hR2 hF2)
    go_ret
    exact ⟨rfl, ⟨a, HR2.out, rfl⟩, HF2.out⟩
  subst he
  by_cases h1 : (B.drop a).length < 1
  · have HH := Aside0.mk (hasS_end (l := (B.drop a).length) (n := 1) (by omega))
    rw [rByte_end h1]
    clear hR h1
    go_enter Try.func35, Try.ntmps35
    go_wp2_with (go_at_call 57; (with_reducible refine (weighhouseref01_Reader_has.calls S g B a 0 1 _ _ _ HR.out HH.out).mono ?_); rintro e2 w2 ⟨rfl, hR2, hF2⟩; have HR2 := Aside0.mk hR2; have HF2 := Aside0.mk hF2; clear hR2 hF2)
    go_ret
    exact ⟨rfl, ⟨a, HR2.out, rfl⟩, HF2.out⟩
  · have HH := Aside0.mk (hasS_ok (l := (B.drop a).length) (n := 1) (by omega))
    rw [rByte_ok h1]
    obtain ⟨hx, ha, hl⟩ := Rq.info hR
    clear hR
    have hln : (B.drop a).length = B.length - a := List.length_drop
    have hal0 : a < B.length := by omega
    have hrd : rd (B.drop a) 0 = B[a]'hal0 := (drop_rd B a 0).trans (rdN B a hal0)
    have hp := hx _ (List.getElem_mem hal0)
    obtain ⟨p, hpp⟩ : ∃ p, B[a]'hal0 = p := ⟨_, rfl⟩
    have HP := Aside0.mk hpp
    rw [hrd, hpp]
    rw [hpp] at hp
    obtain ⟨p0, p1⟩ := hp
    clear hx hrd hpp hln h1
    go_enter Try.func35, Try.ntmps35
    go_upto_region 3 with (go_at_call 57; (with_reducible refine (weighhouseref01_Reader_has.calls S g B a 0 1 _ _ _ HR.out HH.out).mono ?_); rintro e2 w2 ⟨rfl, hR2, hF2⟩; have HR2 := Aside0.mk hR2; have HF2 := Aside0.mk hF2; clear hR2 hF2)
    obtain ⟨A, c, hb, _⟩ := HR2.out
    have k1 : w2.cell? ⟨g, 1, none⟩ = some (.int .i64 a) := hb.cell 1
    have f1 : w2.frozen? ⟨g, 1, none⟩ = false := hb.frozen 1
    clear hb
    go_wp2
    have HR3 := Aside0.mk (Rq.set_at (a' := a + 1) HR2.out (by omega))
    have HF3 := Aside0.mk (HF2.out.then_ (Fr.set_ w2 g 1 (.int .i64 ((a + 1 : Nat) : Int))) (fun _ h => .inl h))
    rw [show ((a + 1 : Nat) : Int) = (a : Int) + 1 from by omega] at HR3 HF3
    obtain ⟨w3, hw3⟩ : ∃ w3, w2.setCell ⟨g, 1, none⟩ (.int .i64 ((a : Int) + 1)) = w3 := ⟨_, rfl⟩
    rw [hw3] at HR3 HF3 ⊢
    clear hw3 k1 f1 HR2 HF2
    obtain ⟨A, c, hb, hc, _, _, hC, _⟩ := HR3.out
    obtain ⟨ad, e, hc0⟩ := at_intN hC a hal0
    subst e
    rw [HP.out] at hc0
    have k0 : w3.drew.cell? ⟨g, 0, none⟩ = some (.slice (some ad) B.length c) := hb.cell 0
    have k1 : w3.drew.cell? ⟨g, 1, none⟩ = some (.int .i64 ((a : Int) + 1)) := hb.cell 1
    have k2 : w3.drew.cell? (ad.add a) = some (.int .u8 p) := hc0
    have HR4 := Aside0.mk (HR3.out.below ((Below.refl _ _).drew))
    have HF4 := Aside0.mk (HF3.out.then_ (Fr.of_below ((Below.refl _ _).drew) (fun k => k = g)) (fun _ h => .inl h))
    have hw1 : wrap64 (a : Int) = (a : Int) := wrapI (by omega) (by omega)
    have hw2 : wrap64 p = p := by clear hw1; exact wrapI (by omega) (by omega)
    clear hb hC hc0 HR3 HF3
    refine start_ (n := 13) (S := fun w' => w'.cell? ⟨g, 0, none⟩ = some (.slice (some ad) B.length c) ∧ w'.cell? ⟨g, 1, none⟩ = some (.int .i64 ((a : Int) + 1)) ∧ w'.cell? (ad.add a) = some (.int .u8 p)) (ds := []) #[false, false, false, false, false, false, false, false, false, false, false, false, false] (by kernel_rfl) rfl rfl ⟨k0, k1, k2⟩ (fun hHeld => ?_)
    generalize w3.drew = wd at HR4 HF4 k0 k1 k2 hHeld ⊢
    refine pure_ (i := 0) (N := some 13) (v := ?_) (a' := ?_) #[true, false, false, false, false, false, false, false, false, false, false, false, false] rfl rfl (by kernel_rfl) (fun _ _ _ h => h) (Or.inl ⟨by rfl, ?_⟩) ?_ ?_
    rotate_left
    · intro w'
      go_simp
      with_reducible rfl
    rotate_left
    · simp only [Act.put, List.setIfInBounds_toArray, List.set_cons_zero, List.set_cons_succ, i64_w, i32_w]
      rfl
    refine pure_ (i := 1) (N := some 14) (v := ?_) (a' := ?_) #[true, true, false, false, false, false, false, false, false, false, false, false, false] rfl rfl (by kernel_rfl) (fun _ _ _ h => h) (Or.inl ⟨by rfl, ?_⟩) ?_ ?_
    rotate_left
    · intro w'
      go_simp
      with_reducible rfl
    rotate_left
    · simp only [Act.put, List.setIfInBounds_toArray, List.set_cons_zero, List.set_cons_succ, i64_w, i32_w]
      rfl
    refine pure_ (i := 2) (N := some 15) (v := ?_) (a' := ?_) #[true, true, true, false, false, false, false, false, false, false, false, false, false] rfl rfl (by kernel_rfl) (fun _ _ _ h => h) (Or.inl ⟨by rfl, ?_⟩) ?_ ?_
    rotate_left
    · intro w'
      go_simp
      with_reducible rfl
    rotate_left
    · simp only [Act.put, List.setIfInBounds_toArray, List.set_cons_zero, List.set_cons_succ, i64_w, i32_w]
      rfl
    refine pure_ (i := 4) (N := some 17) (v := ?_) (a' := ?_) #[true, true, true, false, true, false, false, false, false, false, false, false, false] rfl rfl (by kernel_rfl) (fun _ _ _ h => h) (Or.inl ⟨by rfl, ?_⟩) ?_ ?_
    rotate_left
    · intro w'
      go_simp
      with_reducible rfl
    rotate_left
    · simp only [Act.put, List.setIfInBounds_toArray, List.set_cons_zero, List.set_cons_succ, i64_w, i32_w]
      rfl
    refine pure_ (i := 5) (N := some 18) (v := ?_) (a' := ?_) #[true, true, true, false, true, true, false, false, false, false, false, false, false] rfl rfl (by kernel_rfl) (fun _ _ _ h => h) (Or.inl ⟨by rfl, ?_⟩) ?_ ?_
    rotate_left
    · intro w'
      go_simp
      with_reducible rfl
    rotate_left
    · simp only [Act.put, List.setIfInBounds_toArray, List.set_cons_zero, List.set_cons_succ, i64_w, i32_w]
      rfl
    refine pure_ (i := 6) (N := some 19) (v := ?_) (a' := ?_) #[true, true, true, false, true, true, true, false, false, false, false, false, false] rfl rfl (by kernel_rfl) (fun _ _ _ h => h) (Or.inl ⟨by rfl, ?_⟩) ?_ ?_
    rotate_left
    · intro w'
      go_simp
      with_reducible rfl
    rotate_left
    · simp only [Act.put, List.setIfInBounds_toArray, List.set_cons_zero, List.set_cons_succ, i64_w, i32_w]
      rfl
    refine take_ (i := 3) (N := some 16) (v := ?_) (a' := ?_) #[true, true, true, true, true, true, true, false, false, false, false, false, false] rfl rfl (by kernel_rfl) (fun _ _ _ h => h) (Or.inl ⟨by rfl, ?_⟩) hHeld ?_ ?_
    rotate_left
    · rintro w' ⟨s0, s1, s2⟩
      go_simp
      with_reducible rfl
    rotate_left
    · simp only [Act.put, List.setIfInBounds_toArray, List.set_cons_zero, List.set_cons_succ, i64_w, i32_w]
      rfl
    refine take_ (i := 7) (N := some 20) (v := ?_) (a' := ?_) #[true, true, true, true, true, true, true, true, false, false, false, false, false] rfl rfl (by kernel_rfl) (fun _ _ _ h => h) (Or.inl ⟨by rfl, ?_⟩) hHeld ?_ ?_
    rotate_left
    · rintro w' ⟨s0, s1, s2⟩
      go_simp
      with_reducible rfl
    rotate_left
    · simp only [Act.put, List.setIfInBounds_toArray, List.set_cons_zero, List.set_cons_succ, i64_w, i32_w]
      rfl
    refine pure_ (i := 8) (N := some 21) (v := ?_) (a' := ?_) #[true, true, true, true, true, true, true, true, true, false, false, false, false] rfl rfl (by kernel_rfl) (fun _ _ _ h => h) (Or.inl ⟨by rfl, ?_⟩) ?_ ?_
    rotate_left
    · intro w'
      go_simp
      with_reducible rfl
    rotate_left
    · simp only [Act.put, List.setIfInBounds_toArray, List.set_cons_zero, List.set_cons_succ, i64_w, i32_w]
      rfl
    refine pure_ (i := 9) (N := some 22) (v := ?_) (a' := ?_) #[true, true, true, true, true, true, true, true, true, true, false, false, false] rfl rfl (by kernel_rfl) (fun _ _ _ h => h) (Or.inl ⟨by rfl, ?_⟩) ?_ ?_
    rotate_left
    · intro w'
      go_simp
      with_reducible rfl
    rotate_left
    · simp only [Act.put, List.setIfInBounds_toArray, List.set_cons_zero, List.set_cons_succ, i64_w, i32_w]
      rfl
    refine take_ (i := 10) (N := some 23) (v := ?_) (a' := ?_) #[true, true, true, true, true, true, true, true, true, true, true, false, false] rfl rfl (by kernel_rfl) (fun _ _ _ h => h) (Or.inl ⟨by rfl, ?_⟩) hHeld ?_ ?_
    rotate_left
    · rintro w' ⟨s0, s1, s2⟩
      go_simp
      with_reducible rfl
    rotate_left
    · simp only [Act.put, List.setIfInBounds_toArray, List.set_cons_zero, List.set_cons_succ, i64_w, i32_w]
      rfl
    refine pure_ (i := 11) (N := some 24) (v := ?_) (a' := ?_) #[true, true, true, true, true, true, true, true, true, true, true, true, false] rfl rfl (by kernel_rfl) (fun _ _ _ h => h) (Or.inl ⟨by rfl, ?_⟩) ?_ ?_
    rotate_left
    · intro w'
      go_simp
      with_reducible rfl
    rotate_left
    · simp only [Act.put, List.setIfInBounds_toArray, List.set_cons_zero, List.set_cons_succ, i64_w, i32_w]
      rfl
    refine pure_ (i := 12) (N := some 2) (v := ?_) (a' := ?_) #[true, true, true, true, true, true, true, true, true, true, true, true, true] rfl rfl (by kernel_rfl) (fun _ _ _ h => h) (Or.inl ⟨by rfl, ?_⟩) ?_ ?_
    rotate_left
    · intro w'
      go_simp
      with_reducible rfl
    rotate_left
    · simp only [Act.put, List.setIfInBounds_toArray, List.set_cons_zero, List.set_cons_succ, i64_w, i32_w]
      rfl
    refine done_ (by kernel_rfl) ?_
    clear hHeld k0 k1 k2 hw1 hw2
    go_wp2
    go_ret
    exact ⟨rfl, ⟨a + 1, HR4.out, by rw [List.drop_drop]⟩, HF4.out⟩


end Go.Proofs.Ytjkimfjhfncldaa.Q
end

section
-- written by hprint.py (a program of these sessions) out of the translation; Lean checks it
namespace Go.Proofs.Ytjkimfjhfncldaa.Q
open Go.RowKit Go.Proofs.YtjkimfjhfncldaaW.Hb Go.Proofs.YtjkimfjhfncldaaW.PrintWords Go.Proofs.YtjkimfjhfncldaaW.PrintLast Go.Proofs.YtjkimfjhfncldaaW.PrintMore
attribute [local go_sem] max2_int min2_int max_two min_two max_three min_three max_four min_four   -- for this text's walks alone
set_option linter.unusedVariables false
set_option linter.unusedSimpArgs false

/-! ### weighhouseref01_Reader_Int: function 37, by hand -/
theorem rInt_err {xs : List Int} {e : Int} (h : e ≠ 0) : rInt xs e = (0, xs, e) := if_pos h
theorem rInt_end {xs : List Int} (h : xs.length < 8) : rInt xs 0 = (0, xs, 20) := by unfold rInt; rw [if_neg (by decide), if_pos h]
theorem rInt_ok {xs : List Int} (h : ¬ xs.length < 8) : rInt xs 0 = (wrap64 (numB 0 (xs.take 8) : Int), xs.drop 8, 0) := by unfold rInt; rw [if_neg (by decide), if_neg h]
theorem numB_snoc (n : Nat) (l : List Int) (x : Int) : numB n (l ++ [x]) = numB n l * 256 + x.toNat := by
  unfold numB
  rw [List.foldl_append]
  rfl
theorem numB_lt (l : List Int) (hl : ∀ x ∈ l, 0 ≤ x ∧ x ≤ 255) : ∀ n, numB n l < (n + 1) * 256 ^ l.length := by
  induction l with
  | nil => intro n; simp [numB]
  | cons x l ih =>
    intro n
    have hx := hl x (by simp)
    have := ih (fun y hy => hl y (by simp [hy])) (n * 256 + x.toNat)
    show numB (n * 256 + x.toNat) l < _
    refine Nat.lt_of_lt_of_le this ?_
    rw [List.length_cons, Nat.pow_succ, Nat.mul_comm (256 ^ l.length) 256, ← Nat.mul_assoc]
    exact Nat.mul_le_mul_right _ (by omega)
/-- One byte more of a number. -/
theorem numB_next (xs : List Int) (hx : ∀ x ∈ xs, 0 ≤ x ∧ x ≤ 255) (i : Nat) (hi : i < 8) (hl : i < xs.length) : (numB 0 (xs.take (i + 1)) : Int) = 256 * (numB 0 (xs.take i) : Int) + xs[i] ∧ 256 * (numB 0 (xs.take i) : Int) + xs[i] < 18446744073709551616 ∧ 0 ≤ xs[i] ∧ xs[i] ≤ 255 := by
  have h1 := hx _ (List.getElem_mem hl)
  have hlt := numB_lt (xs.take i) (fun x hm => hx x (List.mem_of_mem_take hm)) 0
  have hpow : 256 ^ (xs.take i).length ≤ 256 ^ 7 := Nat.pow_le_pow_right (by omega) (by rw [List.length_take]; omega)
  rw [List.take_succ_eq_append_getElem hl, numB_snoc]
  refine ⟨by omega, by omega, h1⟩
theorem u64words (N x N2 : Int) (h0 : 0 ≤ N) (h1 : N2 = 256 * N + x) (h2 : 256 * N + x < 18446744073709551616) (h3 : 0 ≤ x) (h4 : x ≤ 255) : IntKind.u64.wrap (256 * N) = 256 * N ∧ IntKind.u64.wrap x = x ∧ IntKind.u64.wrap (256 * N + x) = N2 ∧ (256 * N) % 18446744073709551616 = 256 * N ∧ x % 18446744073709551616 = x ∧ (256 * N + x) % 18446744073709551616 = N2 := by
  rw [wrapU64, wrapU64, wrapU64]
  omega
set_option maxRecDepth 100000 in
set_option maxHeartbeats 2000000 in
theorem weighhouseref01_Reader_Int.calls (S : Nat → Prop) (g : Nat) (B : List Int) (a : Nat) (ev : Int) (w : World) (hR : Rq w S g B a ev) :
    Calls Try.prog 37 #[.pointer (some ⟨g, 0, none⟩)] w fun e w' => e = .returned (.int .i64 (rInt (B.drop a) ev).1) ∧ (∃ a', Rq w' S g B a' (rInt (B.drop a) ev).2.2 ∧ B.drop a' = (rInt (B.drop a) ev).2.1) ∧ Fr w w' (fun k => k = g) := by
  have HR := Aside0.mk hR
  by_cases he : ev = 0
  rotate_left
  · have HH := Aside0.mk (hasS_err (l := (B.drop a).length) (n := 8) he)
    rw [rInt_err he]
    clear hR he
    go_enter Try.func37, Try.ntmps37
    go_wp2_with (go_at_call 57; (with_reducible refine (weighhouseref01_Reader_has.calls S g B a ev 8 _ _ _ HR.out HH.out).mono ?_); rintro e2 w2 ⟨rfl, hR2, hF2⟩; have HR2 := Aside0.mk hR2; have HF2 := Aside0.mk hF2; clear hR2 hF2)
    go_ret
    exact ⟨rfl, ⟨a, HR2.out, rfl⟩, HF2.out⟩
  subst he
  by_cases h1 : (B.drop a).length < 8
  · have HH := Aside0.mk (hasS_end (l := (B.drop a).length) (n := 8) (by omega))
    rw [rInt_end h1]
    clear hR h1
    go_enter Try.func37, Try.ntmps37
    go_wp2_with (go_at_call 57; (with_reducible refine (weighhouseref01_Reader_has.calls S g B a 0 8 _ _ _ HR.out HH.out).mono ?_); rintro e2 w2 ⟨rfl, hR2, hF2⟩; have HR2 := Aside0.mk hR2; have HF2 := Aside0.mk hF2; clear hR2 hF2)
    go_ret
    exact ⟨rfl, ⟨a, HR2.out, rfl⟩, HF2.out⟩
  · have HH := Aside0.mk (hasS_ok (l := (B.drop a).length) (n := 8) (by omega))
    rw [rInt_ok h1]
    obtain ⟨hx, ha, hl⟩ := Rq.info hR
    have hln : (B.drop a).length = B.length - a := List.length_drop
    have hal : a + 8 ≤ B.length := by omega
    have HX := Aside0.mk hx
    have HXD := Aside0.mk (show ∀ x ∈ B.drop a, 0 ≤ x ∧ x ≤ 255 from fun x h => hx x (List.mem_of_mem_drop h))
    clear hR hx hln h1
    go_enter Try.func37, Try.ntmps37
    go_wp2_with (go_at_call 57; (with_reducible refine (weighhouseref01_Reader_has.calls S g B a 0 8 _ _ _ HR.out HH.out).mono ?_); rintro e2 w2 ⟨rfl, hR2, hF2⟩; have HR2 := Aside0.mk hR2; have HF2 := Aside0.mk hF2; clear hR2 hF2)
    go_loopw [3, 4] (fun n i wr => ∃ j : Nat, j ≤ 8 ∧ i = .int .i64 j ∧ n = .int .u64 (numB 0 ((B.drop a).take j) : Int) ∧ Aside0 (Rq wr S g B a 0) ∧ Aside0 (Fr w wr (fun k => k = g))) (fun _ i _ => 8 - (intOf i).toNat)
    case atStart => exact ⟨0, Nat.zero_le _, rfl, rfl, HR2, HF2⟩
    case round =>
      clear HR2 HF2
      obtain ⟨j, hj, rfl, rfl, HRj, HFj⟩ := hrel
      by_cases hlt : j < 8
      · have hjl : a + j < B.length := by omega
        have hjd : j < (B.drop a).length := by rw [List.length_drop]; omega
        obtain ⟨n1, n2, n3, n4⟩ := numB_next (B.drop a) HXD.out j hlt hjd
        have hge : (B.drop a)[j]'hjd = B[a + j]'hjl := List.getElem_drop
        rw [hge] at n1 n2 n3 n4
        obtain ⟨x, hxx⟩ : ∃ x, B[a + j]'hjl = x := ⟨_, rfl⟩
        have HXX := Aside0.mk hxx
        rw [hxx] at n1 n2 n3 n4
        have N0 : (0 : Int) ≤ (numB 0 ((B.drop a).take j) : Int) := by omega
        obtain ⟨N, hN⟩ : ∃ N : Int, (numB 0 ((B.drop a).take j) : Int) = N := ⟨_, rfl⟩
        obtain ⟨N2, hN2⟩ : ∃ N2 : Int, (numB 0 ((B.drop a).take (j + 1)) : Int) = N2 := ⟨_, rfl⟩
        have HN2 := Aside0.mk hN2
        rw [hN] at n1 n2 N0 ⊢
        rw [hN2] at n1
        have HUW := Aside0.mk (u64words N x N2 N0 n1 n2 n3 n4)
        clear hge hxx hN hN2 n1 n2 hjd
        obtain ⟨A, c, hb, hc, _, _, hC, _⟩ := HRj.out
        obtain ⟨ad, e, hc0⟩ := at_intN hC (a + j) hjl
        subst e
        rw [HXX.out] at hc0
        have k0 : wr.drew.cell? ⟨g, 0, none⟩ = some (.slice (some ad) B.length c) := hb.cell 0
        have k1 : wr.drew.cell? ⟨g, 1, none⟩ = some (.int .i64 a) := hb.cell 1
        have k2 : wr.drew.cell? (ad.add (a + j)) = some (.int .u8 x) := hc0
        have HR4 := Aside0.mk (HRj.out.below ((Below.refl _ _).drew))
        have HF4 := Aside0.mk (HFj.out.then_ (Fr.of_below ((Below.refl _ _).drew) (fun k => k = g)) (fun _ h => .inl h))
        have r0 : (0 : Int) ≤ (a : Int) + (j : Int) := by omega
        have r1 : (a : Int) + (j : Int) < (B.length : Int) := by omega
        have r2 : ((a : Int) + (j : Int)).toNat = a + j := by omega
        have hw1 : wrap64 ((a : Int) + (j : Int)) = (a : Int) + (j : Int) := wrapI (by omega) (by omega)
        obtain ⟨u1, u2, u3, u4, u5, u6⟩ := HUW.out
        clear hb hC hc0
        go_wp2
        refine start_ (n := 17) (S := fun w' => w'.cell? ⟨g, 0, none⟩ = some (.slice (some ad) B.length c) ∧ w'.cell? ⟨g, 1, none⟩ = some (.int .i64 a) ∧ w'.cell? (ad.add (a + j)) = some (.int .u8 x)) (ds := []) #[false, false, false, false, false, false, false, false, false, false, false, false, false, false, false, false, false] (by kernel_rfl) rfl rfl ⟨k0, k1, k2⟩ (fun hHeld => ?_)
        generalize wr.drew = wd at HR4 HF4 k0 k1 k2 hHeld ⊢
        refine pure_ (i := 0) (N := some 12) (v := ?_) (a' := ?_) #[true, false, false, false, false, false, false, false, false, false, false, false, false, false, false, false, false] rfl rfl (by kernel_rfl) (fun _ _ _ h => h) (Or.inl ⟨by rfl, ?_⟩) ?_ ?_
        rotate_left
        · intro w'
          go_simp
          with_reducible rfl
        rotate_left
        · simp only [Act.put, List.setIfInBounds_toArray, List.set_cons_zero, List.set_cons_succ, i64_w, i32_w]
          rfl
        refine pure_ (i := 1) (N := some 13) (v := ?_) (a' := ?_) #[true, true, false, false, false, false, false, false, false, false, false, false, false, false, false, false, false] rfl rfl (by kernel_rfl) (fun _ _ _ h => h) (Or.inl ⟨by rfl, ?_⟩) ?_ ?_
        rotate_left
        · intro w'
          go_simp
          with_reducible rfl
        rotate_left
        · simp only [Act.put, List.setIfInBounds_toArray, List.set_cons_zero, List.set_cons_succ, i64_w, i32_w]
          rfl
        refine pure_ (i := 2) (N := some 14) (v := ?_) (a' := ?_) #[true, true, true, false, false, false, false, false, false, false, false, false, false, false, false, false, false] rfl rfl (by kernel_rfl) (fun _ _ _ h => h) (Or.inl ⟨by rfl, ?_⟩) ?_ ?_
        rotate_left
        · intro w'
          go_simp
          with_reducible rfl
        rotate_left
        · simp only [Act.put, List.setIfInBounds_toArray, List.set_cons_zero, List.set_cons_succ, i64_w, i32_w]
          rfl
        refine pure_ (i := 3) (N := some 15) (v := ?_) (a' := ?_) #[true, true, true, true, false, false, false, false, false, false, false, false, false, false, false, false, false] rfl rfl (by kernel_rfl) (fun _ _ _ h => h) (Or.inl ⟨by rfl, ?_⟩) ?_ ?_
        rotate_left
        · intro w'
          go_simp
          with_reducible rfl
        rotate_left
        · simp only [Act.put, List.setIfInBounds_toArray, List.set_cons_zero, List.set_cons_succ, i64_w, i32_w]
          rfl
        refine pure_ (i := 4) (N := some 16) (v := ?_) (a' := ?_) #[true, true, true, true, true, false, false, false, false, false, false, false, false, false, false, false, false] rfl rfl (by kernel_rfl) (fun _ _ _ h => h) (Or.inl ⟨by rfl, ?_⟩) ?_ ?_
        rotate_left
        · intro w'
          go_simp
          with_reducible rfl
        rotate_left
        · simp only [Act.put, List.setIfInBounds_toArray, List.set_cons_zero, List.set_cons_succ, i64_w, i32_w]
          rfl
        refine pure_ (i := 6) (N := some 18) (v := ?_) (a' := ?_) #[true, true, true, true, true, false, true, false, false, false, false, false, false, false, false, false, false] rfl rfl (by kernel_rfl) (fun _ _ _ h => h) (Or.inl ⟨by rfl, ?_⟩) ?_ ?_
        rotate_left
        · intro w'
          go_simp
          with_reducible rfl
        rotate_left
        · simp only [Act.put, List.setIfInBounds_toArray, List.set_cons_zero, List.set_cons_succ, i64_w, i32_w]
          rfl
        refine pure_ (i := 7) (N := some 19) (v := ?_) (a' := ?_) #[true, true, true, true, true, false, true, true, false, false, false, false, false, false, false, false, false] rfl rfl (by kernel_rfl) (fun _ _ _ h => h) (Or.inl ⟨by rfl, ?_⟩) ?_ ?_
        rotate_left
        · intro w'
          go_simp
          with_reducible rfl
        rotate_left
        · simp only [Act.put, List.setIfInBounds_toArray, List.set_cons_zero, List.set_cons_succ, i64_w, i32_w]
          rfl
        refine pure_ (i := 8) (N := some 20) (v := ?_) (a' := ?_) #[true, true, true, true, true, false, true, true, true, false, false, false, false, false, false, false, false] rfl rfl (by kernel_rfl) (fun _ _ _ h => h) (Or.inl ⟨by rfl, ?_⟩) ?_ ?_
        rotate_left
        · intro w'
          go_simp
          with_reducible rfl
        rotate_left
        · simp only [Act.put, List.setIfInBounds_toArray, List.set_cons_zero, List.set_cons_succ, i64_w, i32_w]
          rfl
        refine pure_ (i := 10) (N := some 22) (v := ?_) (a' := ?_) #[true, true, true, true, true, false, true, true, true, false, true, false, false, false, false, false, false] rfl rfl (by kernel_rfl) (fun _ _ _ h => h) (Or.inl ⟨by rfl, ?_⟩) ?_ ?_
        rotate_left
        · intro w'
          go_simp
          with_reducible rfl
        rotate_left
        · simp only [Act.put, List.setIfInBounds_toArray, List.set_cons_zero, List.set_cons_succ, i64_w, i32_w]
          rfl
        refine take_ (i := 5) (N := some 17) (v := ?_) (a' := ?_) #[true, true, true, true, true, true, true, true, true, false, true, false, false, false, false, false, false] rfl rfl (by kernel_rfl) (fun _ _ _ h => h) (Or.inl ⟨by rfl, ?_⟩) hHeld ?_ ?_
        rotate_left
        · rintro w' ⟨s0, s1, s2⟩
          go_simp
          with_reducible rfl
        rotate_left
        · simp only [Act.put, List.setIfInBounds_toArray, List.set_cons_zero, List.set_cons_succ, i64_w, i32_w]
          rfl
        refine take_ (i := 9) (N := some 21) (v := ?_) (a' := ?_) #[true, true, true, true, true, true, true, true, true, true, true, false, false, false, false, false, false] rfl rfl (by kernel_rfl) (fun _ _ _ h => h) (Or.inl ⟨by rfl, ?_⟩) hHeld ?_ ?_
        rotate_left
        · rintro w' ⟨s0, s1, s2⟩
          go_simp
          with_reducible rfl
        rotate_left
        · simp only [Act.put, List.setIfInBounds_toArray, List.set_cons_zero, List.set_cons_succ, i64_w, i32_w]
          rfl
        refine pure_ (i := 11) (N := some 23) (v := ?_) (a' := ?_) #[true, true, true, true, true, true, true, true, true, true, true, true, false, false, false, false, false] rfl rfl (by kernel_rfl) (fun _ _ _ h => h) (Or.inl ⟨by rfl, ?_⟩) ?_ ?_
        rotate_left
        · intro w'
          go_simp
          with_reducible rfl
        rotate_left
        · simp only [Act.put, List.setIfInBounds_toArray, List.set_cons_zero, List.set_cons_succ, i64_w, i32_w]
          rfl
        refine pure_ (i := 12) (N := some 24) (v := ?_) (a' := ?_) #[true, true, true, true, true, true, true, true, true, true, true, true, true, false, false, false, false] rfl rfl (by kernel_rfl) (fun _ _ _ h => h) (Or.inl ⟨by rfl, ?_⟩) ?_ ?_
        rotate_left
        · intro w'
          go_simp
          with_reducible rfl
        rotate_left
        · simp only [Act.put, List.setIfInBounds_toArray, List.set_cons_zero, List.set_cons_succ, i64_w, i32_w]
          rfl
        refine take_ (i := 13) (N := some 25) (v := ?_) (a' := ?_) #[true, true, true, true, true, true, true, true, true, true, true, true, true, true, false, false, false] rfl rfl (by kernel_rfl) (fun _ _ _ h => h) (Or.inl ⟨by rfl, ?_⟩) hHeld ?_ ?_
        rotate_left
        · rintro w' ⟨s0, s1, s2⟩
          go_simp
          with_reducible rfl
        rotate_left
        · simp only [Act.put, List.setIfInBounds_toArray, List.set_cons_zero, List.set_cons_succ, i64_w, i32_w]
          rfl
        refine pure_ (i := 14) (N := some 26) (v := ?_) (a' := ?_) #[true, true, true, true, true, true, true, true, true, true, true, true, true, true, true, false, false] rfl rfl (by kernel_rfl) (fun _ _ _ h => h) (Or.inl ⟨by rfl, ?_⟩) ?_ ?_
        rotate_left
        · intro w'
          go_simp
          with_reducible rfl
        rotate_left
        · simp only [Act.put, List.setIfInBounds_toArray, List.set_cons_zero, List.set_cons_succ, i64_w, i32_w]
          rfl
        refine pure_ (i := 15) (N := some 27) (v := ?_) (a' := ?_) #[true, true, true, true, true, true, true, true, true, true, true, true, true, true, true, true, false] rfl rfl (by kernel_rfl) (fun _ _ _ h => h) (Or.inl ⟨by rfl, ?_⟩) ?_ ?_
        rotate_left
        · intro w'
          go_simp
          with_reducible rfl
        rotate_left
        · simp only [Act.put, List.setIfInBounds_toArray, List.set_cons_zero, List.set_cons_succ, i64_w, i32_w]
          rfl
        refine pure_ (i := 16) (N := some 3) (v := ?_) (a' := ?_) #[true, true, true, true, true, true, true, true, true, true, true, true, true, true, true, true, true] rfl rfl (by kernel_rfl) (fun _ _ _ h => h) (Or.inl ⟨by rfl, ?_⟩) ?_ ?_
        rotate_left
        · intro w'
          go_simp
          with_reducible rfl
        rotate_left
        · simp only [Act.put, List.setIfInBounds_toArray, List.set_cons_zero, List.set_cons_succ, i64_w, i32_w]
          rfl
        refine done_ (by kernel_rfl) ?_
        clear hHeld k0 k1 k2 hw1 u1 u2 u3 u4 u5 u6 r2
        go_wp2
        go_roundw
        case rel => exact ⟨j + 1, by omega, by go_num, by rw [HN2.out], HR4, HF4⟩
        case measure => simp [intOf]; omega
      · obtain rfl : j = 8 := by omega
        obtain ⟨N, hN⟩ : ∃ N : Int, (numB 0 ((B.drop a).take 8) : Int) = N := ⟨_, rfl⟩
        have HN := Aside0.mk hN
        rw [hN]
        clear hN
        obtain ⟨A, c, hb, _⟩ := HRj.out
        have k1 : wr.cell? ⟨g, 1, none⟩ = some (.int .i64 a) := hb.cell 1
        have f1 : wr.frozen? ⟨g, 1, none⟩ = false := hb.frozen 1
        clear hb
        go_wp2
        go_ret
        have h8 : (a : Int) + 8 = ((a + 8 : Nat) : Int) := by omega
        rw [h8, HN.out]
        exact ⟨rfl, ⟨a + 8, HRj.out.set_at hal, by rw [List.drop_drop]⟩, HFj.out.then_ (Fr.set_ wr g 1 _) (fun _ h => .inl h)⟩


end Go.Proofs.Ytjkimfjhfncldaa.Q
end

section
-- written by hprint.py (a program of these sessions) out of the translation; Lean checks it
namespace Go.Proofs.Ytjkimfjhfncldaa.Q
open Go.RowKit Go.Proofs.YtjkimfjhfncldaaW.Hb Go.Proofs.YtjkimfjhfncldaaW.PrintWords Go.Proofs.YtjkimfjhfncldaaW.PrintLast Go.Proofs.YtjkimfjhfncldaaW.PrintMore
attribute [local go_sem] max2_int min2_int max_two min_two max_three min_three max_four min_four   -- for this text's walks alone
set_option linter.unusedVariables false
set_option linter.unusedSimpArgs false

/-! ### weighhouseref01_Reader_Text: function 38, by hand -/
theorem rText_err {xs : List Int} {e : Int} (h : e ≠ 0) : rText xs e = (ByteArray.empty, xs, e) := if_pos h
theorem rText_end {xs : List Int} (h : xs.length < 2) : rText xs 0 = (ByteArray.empty, xs, 20) := by unfold rText; rw [if_neg (by decide), if_pos h]
theorem rText_end2 {xs : List Int} (h : ¬ xs.length < 2) (h2 : xs.length < 2 + tlen xs) : rText xs 0 = (ByteArray.empty, xs, 20) := by unfold rText; rw [if_neg (by decide), if_neg h, if_pos h2]
theorem rText_ok {xs : List Int} (h : ¬ xs.length < 2) (h2 : ¬ xs.length < 2 + tlen xs) : rText xs 0 = (strOfNums ((xs.drop 2).take (tlen xs)), xs.drop (2 + tlen xs), 0) := by unfold rText; rw [if_neg (by decide), if_neg h, if_neg h2]
theorem refWords (a p q n : Nat) (ha : a ≤ 140737488355328) (hp : (p : Int) ≤ 255) (hq : (q : Int) ≤ 255) (hn : n = ((p : Int) * 256 + (q : Int)).toNat) : wrap64 (p : Int) = (p : Int) ∧ wrap64 (256 * (p : Int)) = 256 * (p : Int) ∧ wrap64 (q : Int) = (q : Int) ∧ wrap64 (256 * (p : Int) + (q : Int)) = (n : Int) ∧ wrap64 ((a : Int) + 1) = (a : Int) + 1 := by
  refine ⟨wrapI (by omega) (by omega), wrapI (by omega) (by omega), wrapI (by omega) (by omega), ?_, wrapI (by omega) (by omega)⟩
  rw [wrapI (by omega) (by omega)]
  omega
theorem cutb_ex {P : Program} (t e : TypeId) {i : TypeInfo} (ht : P.underlying t = some (.slice e)) (hi : P.info? e = some i) (hsz : i.size = 1) (A : Option Addr) (c : Nat) (xs : List Int) (lo hi' : Int) (h0 : 0 ≤ lo) (h1 : lo ≤ hi') (h2 : hi' ≤ xs.length) (hc : xs.length ≤ c) (ys : List Int) (hys : ys = (xs.take hi'.toNat).drop lo.toNat) :
    ∃ A' c', (∀ W : World, (Instr.slice t (.slice A xs.length c) (some (.int .i64 lo)) (some (.int .i64 hi')) none).run P W = .ok (.slice A' ys.length c') W) ∧ ys.length ≤ c' ∧ ∀ (w : World) (k : IntKind), (Kd.int k).C w A xs.length xs → (Kd.int k).C w A' ys.length ys := by
  subst hys
  have hl : ((xs.take hi'.toNat).drop lo.toNat).length = hi'.toNat - lo.toNat := by simp; omega
  refine ⟨(if c = lo.toNat then A else A.map (·.add (lo.toNat * 1))), c - lo.toNat, fun W => ?_, by rw [hl]; omega, fun w k h => ?_⟩
  · rw [hl]
    exact cut_mid t e .i64 .i64 ht hi 1 hsz A xs.length c lo hi' h0 h1 h2 hc W
  · exact Kd.C_mid h (by omega) (by omega) hc
set_option maxRecDepth 100000 in
set_option maxHeartbeats 2000000 in
theorem weighhouseref01_Reader_Text.calls (S : Nat → Prop) (g : Nat) (B : List Int) (a : Nat) (ev : Int) (w : World) (hR : Rq w S g B a ev) :
    Calls Try.prog 38 #[.pointer (some ⟨g, 0, none⟩)] w fun e w' => e = .returned (.string (rText (B.drop a) ev).1) ∧ (∃ a', Rq w' S g B a' (rText (B.drop a) ev).2.2 ∧ B.drop a' = (rText (B.drop a) ev).2.1) ∧ Fr w w' (fun k => k = g) := by
  have HR := Aside0.mk hR
  by_cases he : ev = 0
  rotate_left
  · have HH := Aside0.mk (hasS_err (l := (B.drop a).length) (n := 2) he)
    rw [rText_err he]
    clear hR he
    go_enter Try.func38, Try.ntmps38
    go_wp2_with (go_at_call 57; (with_reducible refine (weighhouseref01_Reader_has.calls S g B a ev 2 _ _ _ HR.out HH.out).mono ?_); rintro e2 w2 ⟨rfl, hR2, hF2⟩; have HR2 := Aside0.mk hR2; have HF2 := Aside0.mk hF2; clear hR2 hF2)
    go_ret
    exact ⟨rfl, ⟨a, HR2.out, rfl⟩, HF2.out⟩
  subst he
  by_cases h1 : (B.drop a).length < 2
  · have HH := Aside0.mk (hasS_end (l := (B.drop a).length) (n := 2) (by omega))
    rw [rText_end h1]
    clear hR h1
    go_enter Try.func38, Try.ntmps38
    go_wp2_with (go_at_call 57; (with_reducible refine (weighhouseref01_Reader_has.calls S g B a 0 2 _ _ _ HR.out HH.out).mono ?_); rintro e2 w2 ⟨rfl, hR2, hF2⟩; have HR2 := Aside0.mk hR2; have HF2 := Aside0.mk hF2; clear hR2 hF2)
    go_ret
    exact ⟨rfl, ⟨a, HR2.out, rfl⟩, HF2.out⟩
  have HH := Aside0.mk (hasS_ok (l := (B.drop a).length) (n := 2) (by omega))
  obtain ⟨hx, ha, hl⟩ := Rq.info hR
  have hln : (B.drop a).length = B.length - a := List.length_drop
  obtain ⟨n, hn⟩ : ∃ n, tlen (B.drop a) = n := ⟨_, rfl⟩
  have hal0 : a < B.length := by omega
  have hal : a + 1 < B.length := by omega
  have hp0 := hx _ (List.getElem_mem hal0)
  have hp1 := hx _ (List.getElem_mem hal)
  have hn' : n = (rd B ((a : Nat) : Int) * 256 + rd B ((a + 1 : Nat) : Int)).toNat := by rw [← hn]; unfold tlen; rw [drop_rd, drop_rd]; rfl
  rw [rdN B a hal0, rdN B (a + 1) hal] at hn'
  have HE2 := Aside0.mk (show (B.drop a).length < 2 + n → rText (B.drop a) 0 = (ByteArray.empty, B.drop a, 20) from fun h => rText_end2 h1 (by rw [hn]; exact h))
  have HE3 := Aside0.mk (show ¬ (B.drop a).length < 2 + n → rText (B.drop a) 0 = (strOfNums (((B.drop a).drop 2).take n), (B.drop a).drop (2 + n), 0) from fun h => by have := rText_ok h1 (by rw [hn]; exact h); rwa [hn] at this)
  obtain ⟨p, hp⟩ : ∃ p, B[a]'hal0 = p := ⟨_, rfl⟩
  obtain ⟨q, hq⟩ : ∃ q, B[a + 1]'hal = q := ⟨_, rfl⟩
  rw [hp] at hp0 hn'
  rw [hq] at hp1 hn'
  have HP := Aside0.mk hp
  have HQ := Aside0.mk hq
  obtain ⟨p0, p1⟩ := hp0
  obtain ⟨q0, q1⟩ := hp1
  obtain ⟨p, hpp⟩ := Int.eq_ofNat_of_zero_le p0
  obtain ⟨q, hqq⟩ := Int.eq_ofNat_of_zero_le q0
  subst hpp
  subst hqq
  have HL := Aside0.mk hln
  have HN := Aside0.mk hn'
  have hnb : n ≤ 65535 := by omega
  clear hR hx hln hn hp hq hn' h1
  go_enter Try.func38, Try.ntmps38
  go_upto_region 3 with (go_at_call 57; (with_reducible refine (weighhouseref01_Reader_has.calls S g B a 0 2 _ _ _ HR.out HH.out).mono ?_); rintro e2 w1 ⟨rfl, hR2, hF2⟩; have HR2 := Aside0.mk hR2; have HF2 := Aside0.mk hF2; clear hR2 hF2)
  obtain ⟨A1, c1, hb1, hcc1, _, _, hC1, _⟩ := HR2.out
  obtain ⟨ad, e, hc0⟩ := at_intN hC1 a hal0
  subst e
  obtain ⟨ad', e, hc1⟩ := at_intN hC1 (a + 1) hal
  cases e
  rw [HP.out] at hc0
  rw [HQ.out] at hc1
  have k0 : w1.drew.cell? ⟨g, 0, none⟩ = some (.slice (some ad) B.length c1) := hb1.cell 0
  have k1 : w1.drew.cell? ⟨g, 1, none⟩ = some (.int .i64 a) := hb1.cell 1
  have k2 : w1.drew.cell? (ad.add a) = some (.int .u8 p) := hc0
  have k3 : w1.drew.cell? (ad.add (a + 1)) = some (.int .u8 q) := hc1
  have HRd := Aside0.mk (HR2.out.below ((Below.refl _ _).drew))
  have HFd := Aside0.mk (HF2.out.then_ (Fr.of_below ((Below.refl _ _).drew) (fun k => k = g)) (fun _ h => .inl h))
  have r0 : (0 : Int) ≤ (a : Int) + 1 := by omega
  have r1 : (a : Int) + 1 < (B.length : Int) := by omega
  have e1 : ad.add (a + 1) = ⟨ad.block, ad.off + (a + 1), none⟩ := by simp [Addr.add]
  rw [e1] at k3
  clear e1
  obtain ⟨hw1, hw2, hw3, hw4, hw5⟩ := refWords a p q n (by omega) p1 q1 HN.out
  clear hb1 hC1 hc0 hc1 HR2 HF2
  refine start_ (n := 26) (S := fun w' => w'.cell? ⟨g, 0, none⟩ = some (.slice (some ad) B.length c1) ∧ w'.cell? ⟨g, 1, none⟩ = some (.int .i64 a) ∧ w'.cell? (ad.add a) = some (.int .u8 p) ∧ w'.cell? ⟨ad.block, ad.off + (a + 1), none⟩ = some (.int .u8 q)) (ds := []) #[false, false, false, false, false, false, false, false, false, false, false, false, false, false, false, false, false, false, false, false, false, false, false, false, false, false] (by kernel_rfl) rfl rfl ⟨k0, k1, k2, k3⟩ (fun hHeld => ?_)
  generalize w1.drew = wd at HRd HFd k0 k1 k2 k3 hHeld ⊢
  refine pure_ (i := 0) (N := some 7) (v := ?_) (a' := ?_) #[true, false, false, false, false, false, false, false, false, false, false, false, false, false, false, false, false, false, false, false, false, false, false, false, false, false] rfl rfl (by kernel_rfl) (fun _ _ _ h => h) (Or.inl ⟨by rfl, ?_⟩) ?_ ?_
  rotate_left
  · intro w'
    go_simp
    with_reducible rfl
  rotate_left
  · simp only [Act.put, List.setIfInBounds_toArray, List.set_cons_zero, List.set_cons_succ, i64_w, i32_w]
    rfl
  refine pure_ (i := 1) (N := some 8) (v := ?_) (a' := ?_) #[true, true, false, false, false, false, false, false, false, false, false, false, false, false, false, false, false, false, false, false, false, false, false, false, false, false] rfl rfl (by kernel_rfl) (fun _ _ _ h => h) (Or.inl ⟨by rfl, ?_⟩) ?_ ?_
  rotate_left
  · intro w'
    go_simp
    with_reducible rfl
  rotate_left
  · simp only [Act.put, List.setIfInBounds_toArray, List.set_cons_zero, List.set_cons_succ, i64_w, i32_w]
    rfl
  refine pure_ (i := 2) (N := some 9) (v := ?_) (a' := ?_) #[true, true, true, false, false, false, false, false, false, false, false, false, false, false, false, false, false, false, false, false, false, false, false, false, false, false] rfl rfl (by kernel_rfl) (fun _ _ _ h => h) (Or.inl ⟨by rfl, ?_⟩) ?_ ?_
  rotate_left
  · intro w'
    go_simp
    with_reducible rfl
  rotate_left
  · simp only [Act.put, List.setIfInBounds_toArray, List.set_cons_zero, List.set_cons_succ, i64_w, i32_w]
    rfl
  refine pure_ (i := 4) (N := some 11) (v := ?_) (a' := ?_) #[true, true, true, false, true, false, false, false, false, false, false, false, false, false, false, false, false, false, false, false, false, false, false, false, false, false] rfl rfl (by kernel_rfl) (fun _ _ _ h => h) (Or.inl ⟨by rfl, ?_⟩) ?_ ?_
  rotate_left
  · intro w'
    go_simp
    with_reducible rfl
  rotate_left
  · simp only [Act.put, List.setIfInBounds_toArray, List.set_cons_zero, List.set_cons_succ, i64_w, i32_w]
    rfl
  refine pure_ (i := 5) (N := some 12) (v := ?_) (a' := ?_) #[true, true, true, false, true, true, false, false, false, false, false, false, false, false, false, false, false, false, false, false, false, false, false, false, false, false] rfl rfl (by kernel_rfl) (fun _ _ _ h => h) (Or.inl ⟨by rfl, ?_⟩) ?_ ?_
  rotate_left
  · intro w'
    go_simp
    with_reducible rfl
  rotate_left
  · simp only [Act.put, List.setIfInBounds_toArray, List.set_cons_zero, List.set_cons_succ, i64_w, i32_w]
    rfl
  refine pure_ (i := 6) (N := some 13) (v := ?_) (a' := ?_) #[true, true, true, false, true, true, true, false, false, false, false, false, false, false, false, false, false, false, false, false, false, false, false, false, false, false] rfl rfl (by kernel_rfl) (fun _ _ _ h => h) (Or.inl ⟨by rfl, ?_⟩) ?_ ?_
  rotate_left
  · intro w'
    go_simp
    with_reducible rfl
  rotate_left
  · simp only [Act.put, List.setIfInBounds_toArray, List.set_cons_zero, List.set_cons_succ, i64_w, i32_w]
    rfl
  refine pure_ (i := 12) (N := some 19) (v := ?_) (a' := ?_) #[true, true, true, false, true, true, true, false, false, false, false, false, true, false, false, false, false, false, false, false, false, false, false, false, false, false] rfl rfl (by kernel_rfl) (fun _ _ _ h => h) (Or.inl ⟨by rfl, ?_⟩) ?_ ?_
  rotate_left
  · intro w'
    go_simp
    with_reducible rfl
  rotate_left
  · simp only [Act.put, List.setIfInBounds_toArray, List.set_cons_zero, List.set_cons_succ, i64_w, i32_w]
    rfl
  refine pure_ (i := 13) (N := some 20) (v := ?_) (a' := ?_) #[true, true, true, false, true, true, true, false, false, false, false, false, true, true, false, false, false, false, false, false, false, false, false, false, false, false] rfl rfl (by kernel_rfl) (fun _ _ _ h => h) (Or.inl ⟨by rfl, ?_⟩) ?_ ?_
  rotate_left
  · intro w'
    go_simp
    with_reducible rfl
  rotate_left
  · simp only [Act.put, List.setIfInBounds_toArray, List.set_cons_zero, List.set_cons_succ, i64_w, i32_w]
    rfl
  refine pure_ (i := 14) (N := some 21) (v := ?_) (a' := ?_) #[true, true, true, false, true, true, true, false, false, false, false, false, true, true, true, false, false, false, false, false, false, false, false, false, false, false] rfl rfl (by kernel_rfl) (fun _ _ _ h => h) (Or.inl ⟨by rfl, ?_⟩) ?_ ?_
  rotate_left
  · intro w'
    go_simp
    with_reducible rfl
  rotate_left
  · simp only [Act.put, List.setIfInBounds_toArray, List.set_cons_zero, List.set_cons_succ, i64_w, i32_w]
    rfl
  refine pure_ (i := 16) (N := some 23) (v := ?_) (a' := ?_) #[true, true, true, false, true, true, true, false, false, false, false, false, true, true, true, false, true, false, false, false, false, false, false, false, false, false] rfl rfl (by kernel_rfl) (fun _ _ _ h => h) (Or.inl ⟨by rfl, ?_⟩) ?_ ?_
  rotate_left
  · intro w'
    go_simp
    with_reducible rfl
  rotate_left
  · simp only [Act.put, List.setIfInBounds_toArray, List.set_cons_zero, List.set_cons_succ, i64_w, i32_w]
    rfl
  refine pure_ (i := 17) (N := some 24) (v := ?_) (a' := ?_) #[true, true, true, false, true, true, true, false, false, false, false, false, true, true, true, false, true, true, false, false, false, false, false, false, false, false] rfl rfl (by kernel_rfl) (fun _ _ _ h => h) (Or.inl ⟨by rfl, ?_⟩) ?_ ?_
  rotate_left
  · intro w'
    go_simp
    with_reducible rfl
  rotate_left
  · simp only [Act.put, List.setIfInBounds_toArray, List.set_cons_zero, List.set_cons_succ, i64_w, i32_w]
    rfl
  refine pure_ (i := 18) (N := some 25) (v := ?_) (a' := ?_) #[true, true, true, false, true, true, true, false, false, false, false, false, true, true, true, false, true, true, true, false, false, false, false, false, false, false] rfl rfl (by kernel_rfl) (fun _ _ _ h => h) (Or.inl ⟨by rfl, ?_⟩) ?_ ?_
  rotate_left
  · intro w'
    go_simp
    with_reducible rfl
  rotate_left
  · simp only [Act.put, List.setIfInBounds_toArray, List.set_cons_zero, List.set_cons_succ, i64_w, i32_w]
    rfl
  refine take_ (i := 3) (N := some 10) (v := ?_) (a' := ?_) #[true, true, true, true, true, true, true, false, false, false, false, false, true, true, true, false, true, true, true, false, false, false, false, false, false, false] rfl rfl (by kernel_rfl) (fun _ _ _ h => h) (Or.inl ⟨by rfl, ?_⟩) hHeld ?_ ?_
  rotate_left
  · rintro w' ⟨s0, s1, s2, s3⟩
    go_simp
    with_reducible rfl
  rotate_left
  · simp only [Act.put, List.setIfInBounds_toArray, List.set_cons_zero, List.set_cons_succ, i64_w, i32_w]
    rfl
  refine take_ (i := 7) (N := some 14) (v := ?_) (a' := ?_) #[true, true, true, true, true, true, true, true, false, false, false, false, true, true, true, false, true, true, true, false, false, false, false, false, false, false] rfl rfl (by kernel_rfl) (fun _ _ _ h => h) (Or.inl ⟨by rfl, ?_⟩) hHeld ?_ ?_
  rotate_left
  · rintro w' ⟨s0, s1, s2, s3⟩
    go_simp
    with_reducible rfl
  rotate_left
  · simp only [Act.put, List.setIfInBounds_toArray, List.set_cons_zero, List.set_cons_succ, i64_w, i32_w]
    rfl
  refine pure_ (i := 8) (N := some 15) (v := ?_) (a' := ?_) #[true, true, true, true, true, true, true, true, true, false, false, false, true, true, true, false, true, true, true, false, false, false, false, false, false, false] rfl rfl (by kernel_rfl) (fun _ _ _ h => h) (Or.inl ⟨by rfl, ?_⟩) ?_ ?_
  rotate_left
  · intro w'
    go_simp
    with_reducible rfl
  rotate_left
  · simp only [Act.put, List.setIfInBounds_toArray, List.set_cons_zero, List.set_cons_succ, i64_w, i32_w]
    rfl
  refine take_ (i := 9) (N := some 16) (v := ?_) (a' := ?_) #[true, true, true, true, true, true, true, true, true, true, false, false, true, true, true, false, true, true, true, false, false, false, false, false, false, false] rfl rfl (by kernel_rfl) (fun _ _ _ h => h) (Or.inl ⟨by rfl, ?_⟩) hHeld ?_ ?_
  rotate_left
  · rintro w' ⟨s0, s1, s2, s3⟩
    go_simp
    with_reducible rfl
  rotate_left
  · simp only [Act.put, List.setIfInBounds_toArray, List.set_cons_zero, List.set_cons_succ, i64_w, i32_w]
    rfl
  refine pure_ (i := 10) (N := some 17) (v := ?_) (a' := ?_) #[true, true, true, true, true, true, true, true, true, true, true, false, true, true, true, false, true, true, true, false, false, false, false, false, false, false] rfl rfl (by kernel_rfl) (fun _ _ _ h => h) (Or.inl ⟨by rfl, ?_⟩) ?_ ?_
  rotate_left
  · intro w'
    go_simp
    with_reducible rfl
  rotate_left
  · simp only [Act.put, List.setIfInBounds_toArray, List.set_cons_zero, List.set_cons_succ, i64_w, i32_w]
    rfl
  refine pure_ (i := 11) (N := some 18) (v := ?_) (a' := ?_) #[true, true, true, true, true, true, true, true, true, true, true, true, true, true, true, false, true, true, true, false, false, false, false, false, false, false] rfl rfl (by kernel_rfl) (fun _ _ _ h => h) (Or.inl ⟨by rfl, ?_⟩) ?_ ?_
  rotate_left
  · intro w'
    go_simp
    with_reducible rfl
  rotate_left
  · simp only [Act.put, List.setIfInBounds_toArray, List.set_cons_zero, List.set_cons_succ, i64_w, i32_w]
    rfl
  refine take_ (i := 15) (N := some 22) (v := ?_) (a' := ?_) #[true, true, true, true, true, true, true, true, true, true, true, true, true, true, true, true, true, true, true, false, false, false, false, false, false, false] rfl rfl (by kernel_rfl) (fun _ _ _ h => h) (Or.inl ⟨by rfl, ?_⟩) hHeld ?_ ?_
  rotate_left
  · rintro w' ⟨s0, s1, s2, s3⟩
    go_simp
    with_reducible rfl
  rotate_left
  · simp only [Act.put, List.setIfInBounds_toArray, List.set_cons_zero, List.set_cons_succ, i64_w, i32_w]
    rfl
  refine take_ (i := 19) (N := some 26) (v := ?_) (a' := ?_) #[true, true, true, true, true, true, true, true, true, true, true, true, true, true, true, true, true, true, true, true, false, false, false, false, false, false] rfl rfl (by kernel_rfl) (fun _ _ _ h => h) (Or.inl ⟨by rfl, ?_⟩) hHeld ?_ ?_
  rotate_left
  · rintro w' ⟨s0, s1, s2, s3⟩
    go_simp
    with_reducible rfl
  rotate_left
  · simp only [Act.put, List.setIfInBounds_toArray, List.set_cons_zero, List.set_cons_succ, i64_w, i32_w]
    rfl
  refine pure_ (i := 20) (N := some 27) (v := ?_) (a' := ?_) #[true, true, true, true, true, true, true, true, true, true, true, true, true, true, true, true, true, true, true, true, true, false, false, false, false, false] rfl rfl (by kernel_rfl) (fun _ _ _ h => h) (Or.inl ⟨by rfl, ?_⟩) ?_ ?_
  rotate_left
  · intro w'
    go_simp
    with_reducible rfl
  rotate_left
  · simp only [Act.put, List.setIfInBounds_toArray, List.set_cons_zero, List.set_cons_succ, i64_w, i32_w]
    rfl
  refine pure_ (i := 21) (N := some 28) (v := ?_) (a' := ?_) #[true, true, true, true, true, true, true, true, true, true, true, true, true, true, true, true, true, true, true, true, true, true, false, false, false, false] rfl rfl (by kernel_rfl) (fun _ _ _ h => h) (Or.inl ⟨by rfl, ?_⟩) ?_ ?_
  rotate_left
  · intro w'
    go_simp
    with_reducible rfl
  rotate_left
  · simp only [Act.put, List.setIfInBounds_toArray, List.set_cons_zero, List.set_cons_succ, i64_w, i32_w]
    rfl
  refine take_ (i := 22) (N := some 29) (v := ?_) (a' := ?_) #[true, true, true, true, true, true, true, true, true, true, true, true, true, true, true, true, true, true, true, true, true, true, true, false, false, false] rfl rfl (by kernel_rfl) (fun _ _ _ h => h) (Or.inl ⟨by rfl, ?_⟩) hHeld ?_ ?_
  rotate_left
  · rintro w' ⟨s0, s1, s2, s3⟩
    go_simp
    with_reducible rfl
  rotate_left
  · simp only [Act.put, List.setIfInBounds_toArray, List.set_cons_zero, List.set_cons_succ, i64_w, i32_w]
    rfl
  refine pure_ (i := 23) (N := some 30) (v := ?_) (a' := ?_) #[true, true, true, true, true, true, true, true, true, true, true, true, true, true, true, true, true, true, true, true, true, true, true, true, false, false] rfl rfl (by kernel_rfl) (fun _ _ _ h => h) (Or.inl ⟨by rfl, ?_⟩) ?_ ?_
  rotate_left
  · intro w'
    go_simp
    with_reducible rfl
  rotate_left
  · simp only [Act.put, List.setIfInBounds_toArray, List.set_cons_zero, List.set_cons_succ, i64_w, i32_w]
    rfl
  refine pure_ (i := 24) (N := some 31) (v := ?_) (a' := ?_) #[true, true, true, true, true, true, true, true, true, true, true, true, true, true, true, true, true, true, true, true, true, true, true, true, true, false] rfl rfl (by kernel_rfl) (fun _ _ _ h => h) (Or.inl ⟨by rfl, ?_⟩) ?_ ?_
  rotate_left
  · intro w'
    go_simp
    with_reducible rfl
  rotate_left
  · simp only [Act.put, List.setIfInBounds_toArray, List.set_cons_zero, List.set_cons_succ, i64_w, i32_w]
    rfl
  refine pure_ (i := 25) (N := some 3) (v := ?_) (a' := ?_) #[true, true, true, true, true, true, true, true, true, true, true, true, true, true, true, true, true, true, true, true, true, true, true, true, true, true] rfl rfl (by kernel_rfl) (fun _ _ _ h => h) (Or.inl ⟨by rfl, ?_⟩) ?_ ?_
  rotate_left
  · intro w'
    go_simp
    with_reducible rfl
  rotate_left
  · simp only [Act.put, List.setIfInBounds_toArray, List.set_cons_zero, List.set_cons_succ, i64_w, i32_w]
    rfl
  refine done_ (by kernel_rfl) ?_
  clear hHeld k0 k1 k2 k3 hw1 hw2 hw3 hw4 hw5
  by_cases h3 : (B.drop a).length < 2 + n
  · have HS := Aside0.mk (HE2.out h3)
    have HH3 := Aside0.mk (hasS_end (l := (B.drop a).length) (n := 2 + (n : Int)) (by omega))
    clear h3
    go_wp2_with (go_at_call 57; (with_reducible refine (weighhouseref01_Reader_has.calls S g B a 0 (2 + (n : Int)) _ _ _ HRd.out HH3.out).mono ?_); rintro e2 w4 ⟨rfl, hR4, hF4⟩; have HR4 := Aside0.mk hR4; have HF4 := Aside0.mk (HFd.out.then_ hF4 (fun _ h => .inl h)); clear hR4 hF4)
    go_ret
    rw [HS.out]
    exact ⟨rfl, ⟨a, HR4.out, rfl⟩, HF4.out⟩
  · have hS := HE3.out h3
    have HH3 := Aside0.mk (hasS_ok (l := (B.drop a).length) (n := 2 + (n : Int)) (by omega))
    have hX : a + 2 + n ≤ B.length := by have := HL.out; omega
    have hys : (B.take (a + 2 + n)).drop (a + 2) = ((B.drop a).drop 2).take n := by
      rw [List.drop_take, List.drop_drop]
      congr 1
      omega
    have hzs : (B.drop a).drop (2 + n) = B.drop (a + 2 + n) := by rw [List.drop_drop, ← Nat.add_assoc]
    rw [← hys, hzs] at hS
    obtain ⟨y5, hy5⟩ : ∃ y5, (B.take (a + 2 + n)).drop (a + 2) = y5 := ⟨_, rfl⟩
    rw [hy5] at hS
    have HY5 := Aside0.mk hy5
    have HS := Aside0.mk hS
    clear h3 hS hys hzs hy5
    go_upto_region 6 with (go_at_call 57; (with_reducible refine (weighhouseref01_Reader_has.calls S g B a 0 (2 + (n : Int)) _ _ _ HRd.out HH3.out).mono ?_); rintro e2 w4 ⟨rfl, hR4, hF4⟩; have HR4 := Aside0.mk hR4; have HF4 := Aside0.mk (HFd.out.then_ hF4 (fun _ h => .inl h)); clear hR4 hF4)
    obtain ⟨A4, c4, hb4, _⟩ := HR4.out
    have k1 : w4.cell? ⟨g, 1, none⟩ = some (.int .i64 a) := hb4.cell 1
    have f1 : w4.frozen? ⟨g, 1, none⟩ = false := hb4.frozen 1
    clear hb4
    go_wp2
    have hXI : (a : Int) + 2 + (n : Int) = ((a + 2 + n : Nat) : Int) := by omega
    rw [hXI]
    have HR5 := Aside0.mk (Rq.set_at (a' := a + 2 + n) HR4.out hX)
    have HF5 := Aside0.mk (HF4.out.then_ (Fr.set_ w4 g 1 (.int .i64 ((a + 2 + n : Nat) : Int))) (fun _ h => .inl h))
    obtain ⟨X, hXX⟩ : ∃ X, a + 2 + n = X := ⟨_, rfl⟩
    obtain ⟨lo, hlo⟩ : ∃ lo, a + 2 = lo := ⟨_, rfl⟩
    have hlX : lo ≤ X := by omega
    have hsub : wrap64 ((X : Int) - (n : Int)) = (lo : Int) := by rw [wrapI (by omega) (by omega)]; omega
    have HSUB := Aside0.mk hsub
    clear hsub hXI
    rw [hXX] at HR5 HF5 HY5 HS hX ⊢
    rw [hlo] at HY5
    obtain ⟨w5, hw5⟩ : ∃ w5, w4.setCell ⟨g, 1, none⟩ (.int .i64 (X : Int)) = w5 := ⟨_, rfl⟩
    rw [hw5] at HR5 HF5 ⊢
    clear hw5 hXX hlo k1 f1 HR4 HF4
    obtain ⟨ii, hii, his⟩ : ∃ ii, Try.prog.info? 5 = some ii ∧ ii.size = 1 := by
      obtain ⟨ii, h1, h2⟩ := Option.map_eq_some_iff.1 info5
      exact ⟨ii, h1, congrArg (fun p => p.2.1) h2⟩
    obtain ⟨A5, c5, hb5, hcc5, _, _, hC5, _⟩ := HR5.out
    obtain ⟨A6, c6, hq6, hc6, hC6⟩ := cutb_ex (P := Try.prog) 22 5 Try.underlying22 hii his A5 c5 B (lo : Int) (X : Int) (by omega) (by omega) (by omega) hcc5 y5 (by rw [Int.toNat_natCast, Int.toNat_natCast]; exact HY5.out.symm)
    have hcv := Kd.C_string (P := Try.prog) (w := w5.drew) (src := 22) (dst := 9) (e := 5) (c := c6) Try.underlying22 Try.underlying5 Try.underlying9 (hC6 w5.drew .u8 (Kd.C_below hC5 ((Below.refl _ _).drew)))
    have k0 : w5.drew.cell? ⟨g, 0, none⟩ = some (.slice A5 B.length c5) := hb5.cell 0
    have k1 : w5.drew.cell? ⟨g, 1, none⟩ = some (.int .i64 X) := hb5.cell 1
    have HR6 := Aside0.mk (HR5.out.below ((Below.refl _ _).drew))
    have HF6 := Aside0.mk (HF5.out.then_ (Fr.of_below ((Below.refl _ _).drew) (fun k => k = g)) (fun _ h => .inl h))
    have hsub := HSUB.out
    clear hb5 hC5 hC6 HR5 HF5
    refine start_ (n := 17) (S := fun w' => w' = w5.drew ∧ w'.cell? ⟨g, 0, none⟩ = some (.slice A5 B.length c5) ∧ w'.cell? ⟨g, 1, none⟩ = some (.int .i64 X)) (ds := []) #[false, false, false, false, false, false, false, false, false, false, false, false, false, false, false, false, false] (by kernel_rfl) rfl rfl ⟨rfl, k0, k1⟩ (fun hHeld => ?_)
    generalize w5.drew = wd7 at HR6 HF6 k0 k1 hcv hHeld ⊢
    refine pure_ (i := 0) (N := some 47) (v := ?_) (a' := ?_) #[true, false, false, false, false, false, false, false, false, false, false, false, false, false, false, false, false] rfl rfl (by kernel_rfl) (fun _ _ _ h => h) (Or.inl ⟨by rfl, ?_⟩) ?_ ?_
    rotate_left
    · intro w'
      go_simp
      with_reducible rfl
    rotate_left
    · simp only [Act.put, List.setIfInBounds_toArray, List.set_cons_zero, List.set_cons_succ, i64_w, i32_w]
      rfl
    refine pure_ (i := 1) (N := some 48) (v := ?_) (a' := ?_) #[true, true, false, false, false, false, false, false, false, false, false, false, false, false, false, false, false] rfl rfl (by kernel_rfl) (fun _ _ _ h => h) (Or.inl ⟨by rfl, ?_⟩) ?_ ?_
    rotate_left
    · intro w'
      go_simp
      with_reducible rfl
    rotate_left
    · simp only [Act.put, List.setIfInBounds_toArray, List.set_cons_zero, List.set_cons_succ, i64_w, i32_w]
      rfl
    refine pure_ (i := 2) (N := some 49) (v := ?_) (a' := ?_) #[true, true, true, false, false, false, false, false, false, false, false, false, false, false, false, false, false] rfl rfl (by kernel_rfl) (fun _ _ _ h => h) (Or.inl ⟨by rfl, ?_⟩) ?_ ?_
    rotate_left
    · intro w'
      go_simp
      with_reducible rfl
    rotate_left
    · simp only [Act.put, List.setIfInBounds_toArray, List.set_cons_zero, List.set_cons_succ, i64_w, i32_w]
      rfl
    refine pure_ (i := 4) (N := some 51) (v := ?_) (a' := ?_) #[true, true, true, false, true, false, false, false, false, false, false, false, false, false, false, false, false] rfl rfl (by kernel_rfl) (fun _ _ _ h => h) (Or.inl ⟨by rfl, ?_⟩) ?_ ?_
    rotate_left
    · intro w'
      go_simp
      with_reducible rfl
    rotate_left
    · simp only [Act.put, List.setIfInBounds_toArray, List.set_cons_zero, List.set_cons_succ, i64_w, i32_w]
      rfl
    refine pure_ (i := 5) (N := some 52) (v := ?_) (a' := ?_) #[true, true, true, false, true, true, false, false, false, false, false, false, false, false, false, false, false] rfl rfl (by kernel_rfl) (fun _ _ _ h => h) (Or.inl ⟨by rfl, ?_⟩) ?_ ?_
    rotate_left
    · intro w'
      go_simp
      with_reducible rfl
    rotate_left
    · simp only [Act.put, List.setIfInBounds_toArray, List.set_cons_zero, List.set_cons_succ, i64_w, i32_w]
      rfl
    refine pure_ (i := 6) (N := some 53) (v := ?_) (a' := ?_) #[true, true, true, false, true, true, true, false, false, false, false, false, false, false, false, false, false] rfl rfl (by kernel_rfl) (fun _ _ _ h => h) (Or.inl ⟨by rfl, ?_⟩) ?_ ?_
    rotate_left
    · intro w'
      go_simp
      with_reducible rfl
    rotate_left
    · simp only [Act.put, List.setIfInBounds_toArray, List.set_cons_zero, List.set_cons_succ, i64_w, i32_w]
      rfl
    refine pure_ (i := 8) (N := some 55) (v := ?_) (a' := ?_) #[true, true, true, false, true, true, true, false, true, false, false, false, false, false, false, false, false] rfl rfl (by kernel_rfl) (fun _ _ _ h => h) (Or.inl ⟨by rfl, ?_⟩) ?_ ?_
    rotate_left
    · intro w'
      go_simp
      with_reducible rfl
    rotate_left
    · simp only [Act.put, List.setIfInBounds_toArray, List.set_cons_zero, List.set_cons_succ, i64_w, i32_w]
      rfl
    refine pure_ (i := 10) (N := some 57) (v := ?_) (a' := ?_) #[true, true, true, false, true, true, true, false, true, false, true, false, false, false, false, false, false] rfl rfl (by kernel_rfl) (fun _ _ _ h => h) (Or.inl ⟨by rfl, ?_⟩) ?_ ?_
    rotate_left
    · intro w'
      go_simp
      with_reducible rfl
    rotate_left
    · simp only [Act.put, List.setIfInBounds_toArray, List.set_cons_zero, List.set_cons_succ, i64_w, i32_w]
      rfl
    refine pure_ (i := 11) (N := some 58) (v := ?_) (a' := ?_) #[true, true, true, false, true, true, true, false, true, false, true, true, false, false, false, false, false] rfl rfl (by kernel_rfl) (fun _ _ _ h => h) (Or.inl ⟨by rfl, ?_⟩) ?_ ?_
    rotate_left
    · intro w'
      go_simp
      with_reducible rfl
    rotate_left
    · simp only [Act.put, List.setIfInBounds_toArray, List.set_cons_zero, List.set_cons_succ, i64_w, i32_w]
      rfl
    refine pure_ (i := 12) (N := some 59) (v := ?_) (a' := ?_) #[true, true, true, false, true, true, true, false, true, false, true, true, true, false, false, false, false] rfl rfl (by kernel_rfl) (fun _ _ _ h => h) (Or.inl ⟨by rfl, ?_⟩) ?_ ?_
    rotate_left
    · intro w'
      go_simp
      with_reducible rfl
    rotate_left
    · simp only [Act.put, List.setIfInBounds_toArray, List.set_cons_zero, List.set_cons_succ, i64_w, i32_w]
      rfl
    refine take_ (i := 3) (N := some 50) (v := ?_) (a' := ?_) #[true, true, true, true, true, true, true, false, true, false, true, true, true, false, false, false, false] rfl rfl (by kernel_rfl) (fun _ _ _ h => h) (Or.inl ⟨by rfl, ?_⟩) hHeld ?_ ?_
    rotate_left
    · rintro w' ⟨s0, s1, s2⟩
      go_simp
      with_reducible rfl
    rotate_left
    · simp only [Act.put, List.setIfInBounds_toArray, List.set_cons_zero, List.set_cons_succ, i64_w, i32_w]
      rfl
    refine take_ (i := 7) (N := some 54) (v := ?_) (a' := ?_) #[true, true, true, true, true, true, true, true, true, false, true, true, true, false, false, false, false] rfl rfl (by kernel_rfl) (fun _ _ _ h => h) (Or.inl ⟨by rfl, ?_⟩) hHeld ?_ ?_
    rotate_left
    · rintro w' ⟨s0, s1, s2⟩
      go_simp
      with_reducible rfl
    rotate_left
    · simp only [Act.put, List.setIfInBounds_toArray, List.set_cons_zero, List.set_cons_succ, i64_w, i32_w]
      rfl
    refine pure_ (i := 9) (N := some 56) (v := ?_) (a' := ?_) #[true, true, true, true, true, true, true, true, true, true, true, true, true, false, false, false, false] rfl rfl (by kernel_rfl) (fun _ _ _ h => h) (Or.inl ⟨by rfl, ?_⟩) ?_ ?_
    rotate_left
    · intro w'
      go_simp
      with_reducible rfl
    rotate_left
    · simp only [Act.put, List.setIfInBounds_toArray, List.set_cons_zero, List.set_cons_succ, i64_w, i32_w]
      rfl
    refine take_ (i := 13) (N := some 60) (v := ?_) (a' := ?_) #[true, true, true, true, true, true, true, true, true, true, true, true, true, true, false, false, false] rfl rfl (by kernel_rfl) (fun _ _ _ h => h) (Or.inl ⟨by rfl, ?_⟩) hHeld ?_ ?_
    rotate_left
    · rintro w' ⟨s0, s1, s2⟩
      go_simp
      with_reducible rfl
    rotate_left
    · simp only [Act.put, List.setIfInBounds_toArray, List.set_cons_zero, List.set_cons_succ, i64_w, i32_w]
      rfl
    refine pure_ (i := 14) (N := some 61) (v := ?_) (a' := ?_) #[true, true, true, true, true, true, true, true, true, true, true, true, true, true, true, false, false] rfl rfl (by kernel_rfl) (fun _ _ _ h => h) (Or.inl ⟨by rfl, ?_⟩) ?_ ?_
    rotate_left
    · intro w'
      go_simp
      with_reducible rfl
    rotate_left
    · simp only [Act.put, List.setIfInBounds_toArray, List.set_cons_zero, List.set_cons_succ, i64_w, i32_w]
      rfl
    refine take_ (i := 15) (N := some 62) (v := ?_) (a' := ?_) #[true, true, true, true, true, true, true, true, true, true, true, true, true, true, true, true, false] rfl rfl (by kernel_rfl) (fun _ _ _ h => h) (Or.inl ⟨by rfl, ?_⟩) hHeld ?_ ?_
    rotate_left
    · rintro w' ⟨s0, s1, s2⟩
      go_simp
      with_reducible rfl
    rotate_left
    · simp only [Act.put, List.setIfInBounds_toArray, List.set_cons_zero, List.set_cons_succ, i64_w, i32_w]
      rfl
    refine pure_ (i := 16) (N := some 2) (v := ?_) (a' := ?_) #[true, true, true, true, true, true, true, true, true, true, true, true, true, true, true, true, true] rfl rfl (by kernel_rfl) (fun _ _ _ h => h) (Or.inl ⟨by rfl, ?_⟩) ?_ ?_
    rotate_left
    · intro w'
      go_simp
      with_reducible rfl
    rotate_left
    · simp only [Act.put, List.setIfInBounds_toArray, List.set_cons_zero, List.set_cons_succ, i64_w, i32_w]
      rfl
    refine done_ (by kernel_rfl) ?_
    clear hHeld k0 k1 hcv hsub hq6
    go_wp2
    go_ret
    rw [HS.out]
    exact ⟨rfl, ⟨X, HR6.out, rfl⟩, HF6.out⟩


end Go.Proofs.Ytjkimfjhfncldaa.Q
end

section
-- written by hprint.py (a program of these sessions) out of the translation; Lean checks it
namespace Go.Proofs.Ytjkimfjhfncldaa.Q
open Go.RowKit Go.Proofs.YtjkimfjhfncldaaW.Hb Go.Proofs.YtjkimfjhfncldaaW.PrintWords Go.Proofs.YtjkimfjhfncldaaW.PrintLast Go.Proofs.YtjkimfjhfncldaaW.PrintMore
attribute [local go_sem] max2_int min2_int max_two min_two max_three min_three max_four min_four   -- for this text's walks alone
set_option linter.unusedVariables false
set_option linter.unusedSimpArgs false

/-! ### weighhouseref01_Reader_Done: function 42, by hand -/
set_option maxRecDepth 100000 in
theorem weighhouseref01_Reader_Done.calls (S : Nat → Prop) (g : Nat) (B : List Int) (a : Nat) (ev : Int) (w : World) (hR : Rq w S g B a ev) :
    Calls Try.prog 42 #[.pointer (some ⟨g, 0, none⟩)] w fun e w' => e = .returned (.int .i64 (rDone (B.drop a) ev)) ∧ Below w.heap.size w w' := by
  have HR := Aside0.mk hR
  obtain ⟨A, c, hb, _⟩ := hR
  have HB := Aside0.mk hb
  have k2 : w.cell? ⟨g, 2, none⟩ = some (.int .i64 ev) := hb.cell 2
  clear hb
  by_cases he : ev ≠ 0
  · have HS := Aside0.mk (show rDone (B.drop a) ev = ev from if_pos he)
    have d1 : (ev == 0) = false := by simp [he]
    clear he
    go_enter Try.func42, Try.ntmps42
    go_wp2
    go_ret
    rw [HS.out]
    exact ⟨rfl, Below.refl _ _⟩
  · obtain rfl : ev = 0 := by omega
    obtain ⟨ln, hln⟩ : ∃ ln : Int, ((B.drop a).length : Int) = ln := ⟨_, rfl⟩
    have HLN := Aside0.mk hln
    by_cases h1 : 0 < (B.drop a).length
    · have HS := Aside0.mk (show rDone (B.drop a) 0 = 21 by unfold rDone; rw [if_neg (by decide), if_pos h1])
      have d1 : decide (0 < ln) = true := decide_eq_true (by omega)
      clear he h1 hln
      go_enter Try.func42, Try.ntmps42
      go_wp2_with (go_at_call 40; (with_reducible refine (weighhouseref01_Reader_Left.calls S g B a 0 _ HR.out).mono ?_); rintro e2 w2 ⟨rfl, hB2⟩; rw [HLN.out]; have k3 : w2.cell? ⟨g, 2, none⟩ = some (.int .i64 0) := (HB.out.after hB2).cell 2; have HB2 := Aside0.mk hB2; clear hB2)
      go_ret
      rw [HS.out]
      exact ⟨rfl, HB2.out⟩
    · have HS := Aside0.mk (show rDone (B.drop a) 0 = 0 by unfold rDone; rw [if_neg (by decide), if_neg h1])
      have d1 : decide (0 < ln) = false := decide_eq_false (by omega)
      clear he h1 hln
      go_enter Try.func42, Try.ntmps42
      go_wp2_with (go_at_call 40; (with_reducible refine (weighhouseref01_Reader_Left.calls S g B a 0 _ HR.out).mono ?_); rintro e2 w2 ⟨rfl, hB2⟩; rw [HLN.out]; have k3 : w2.cell? ⟨g, 2, none⟩ = some (.int .i64 0) := (HB.out.after hB2).cell 2; have HB2 := Aside0.mk hB2; clear hB2)
      go_ret
      rw [HS.out]
      exact ⟨rfl, HB2.out⟩


end Go.Proofs.Ytjkimfjhfncldaa.Q
end

section
-- written by hprint.py (a program of these sessions) out of the translation; Lean checks it
namespace Go.Proofs.Ytjkimfjhfncldaa.Q
open Go.RowKit Go.Proofs.YtjkimfjhfncldaaW.Hb Go.Proofs.YtjkimfjhfncldaaW.PrintWords Go.Proofs.YtjkimfjhfncldaaW.PrintLast Go.Proofs.YtjkimfjhfncldaaW.PrintMore
attribute [local go_sem] max2_int min2_int max_two min_two max_three min_three max_four min_four   -- for this text's walks alone
set_option linter.unusedVariables false
set_option linter.unusedSimpArgs false

/-! ### weighhouseref01_NewReader: function 33, by hand -/
set_option maxRecDepth 100000 in
theorem weighhouseref01_NewReader.calls (A : Option Addr) (c : Nat) (l : List Int) (w : World) (hr : (Kd.int .u8).C w A l.length l) (hc : l.length ≤ c) (hl : l.length * 1 ≤ 140737488355328) (hx : ∀ x ∈ l, 0 ≤ x ∧ x ≤ 255) :
    Calls Try.prog 33 #[.slice A l.length c] w fun e w' => ∃ g, e = .returned (.pointer (some ⟨g, 0, none⟩)) ∧ Rq w' (fun k => w.heap.size ≤ k ∧ k < w'.heap.size) g l 0 0 ∧ w.heap.size ≤ g ∧ Below w.heap.size w w' := by
  have HC := Aside0.mk (Kd.C_alloc hr (.cells #[] 5))
  have HX := Aside0.mk hx
  have HO := Aside0.mk (show (Kd.int .u8).R 5 (w.alloc (.cells #[] 5)) w.heap.size (fun _ => True) (.slice (some ⟨w.heap.size, 0, none⟩) 0 0) [] from Kd.R_of_own (own_lit w w.heap.size 5 .u8 [] (Nat.le_refl _) (by simp)) (fun _ _ => trivial))
  have HB := Aside0.mk ((Below.refl w.heap.size w).alloc (Nat.le_refl _) (.cells #[] 5))
  clear hr hx
  go_enter Try.func33, Try.ntmps33
  go_wp2_with ((with_reducible refine gate_builtin (b := .append) (xs := #[.tmp 3, .tmp 4]) rfl ?_); at_builtin; refine Kd.R_append_rows (Kd.int .u8) (w0 := w) (Rr := (Kd.int .u8).K (w.alloc (.cells #[] 5))) w.heap.size rfl (.tmp 3) (.tmp 4) 22 5 (.int .u8 0) 1 rfl Try.underlying22 info5 rfl (by decide) (by omega) (.slice (some ⟨w.heap.size, 0, none⟩) 0 0) [] l A l.length c (fun _ => True) (fun _ => False) rfl rfl HO.out HC.out (fun x cs hK => hK) (fun _ hk => hk.elim) (fun _ _ => trivial) HB.out HB.out.size (by simpa using hl) ?_; intro v2 w2 hR2 hB2 _ _; rw [List.nil_append] at hR2; obtain ⟨A2, c2, rfl, hc2, hC2⟩ := Kd.R_reads hR2; have HR2 := Aside0.mk (Kd.R_bound hR2); have HB2 := Aside0.mk hB2; have HC2 := Aside0.mk hC2; clear hR2 hB2 hC2)
  go_ret
  have hs := HB2.out.size
  refine ⟨w2.heap.size, rfl, ⟨A2, c2, Blk.new w2 _ _, hc2, ⟨hs, by simp⟩, fun ad e => ?_, Kd.C_alloc HC2.out _, HX.out, Nat.zero_le _, by omega⟩, hs, HB2.out.alloc hs _⟩
  subst e
  have hb := HR2.out.1 ad.block rfl
  have h1 := hb.2.1
  have h2 := hb.2.2.1
  refine ⟨⟨h1, ?_⟩, by omega, ?_⟩ <;> (simp; omega)


end Go.Proofs.Ytjkimfjhfncldaa.Q
end

section
-- written by hprint.py (a program of these sessions) out of the translation; Lean checks it
namespace Go.Proofs.Ytjkimfjhfncldaa.Q
open Go.RowKit Go.Proofs.YtjkimfjhfncldaaW.Hb Go.Proofs.YtjkimfjhfncldaaW.PrintWords Go.Proofs.YtjkimfjhfncldaaW.PrintLast Go.Proofs.YtjkimfjhfncldaaW.PrintMore
attribute [local go_sem] max2_int min2_int max_two min_two max_three min_three max_four min_four   -- for this text's walks alone
set_option linter.unusedVariables false
set_option linter.unusedSimpArgs false

/-! ### weighhouselaw01_Lent: function 12 -/
def weighhouselaw01_Lent.f (l0 : List Int) : Option (List Int) := (some (([] : List Int) : List Int)).bind fun y101 => (if y101.length + l0.length < 140737488355328 then ((some (y101 ++ l0 : List Int)).bind fun y104 => ((some (([77, 78] : List Int) : List Int)).bind fun y107 => (if y104.length + y107.length < 140737488355328 then ((some (y104 ++ y107 : List Int)).bind fun y110 => (if 0 ≤ (l0.length : Int) then (if (l0.length : Int) ≤ (y110.length : Int) then (some (y110.take ((l0.length : Int) : Int).toNat)) else (none)) else (none))) else (none)))) else (none))
set_option maxHeartbeats 8000000 in
set_option maxRecDepth 100000 in
theorem weighhouselaw01_Lent.calls (A0 : Option Addr) (c0 : Nat) (l0 : List Int) (r : List Int) (w : World) (hr0 : Kd.C (Kd.int .u8) w A0 l0.length l0) (hc0 : l0.length ≤ c0) (h : weighhouselaw01_Lent.f l0 = some r) :
    Calls Try.prog 12 #[.slice A0 l0.length c0] w fun e w' => ∃ v0_ : Value, e = .returned (v0_) ∧ Kd.R (Kd.int .u8) 5 w' w.heap.size (fun _ => True) v0_ r ∧ Below w.heap.size w w' := by
  have HR0 := Aside0.mk hr0
  have HC0 := Aside0.mk hc0
  clear hr0 hc0
  have HB := Aside0.mk (Below.refl w.heap.size w)
  have H : ((some (([] : List Int) : List Int)).bind fun y101 => (if y101.length + l0.length < 140737488355328 then ((some (y101 ++ l0 : List Int)).bind fun y104 => ((some (([77, 78] : List Int) : List Int)).bind fun y107 => (if y104.length + y107.length < 140737488355328 then ((some (y104 ++ y107 : List Int)).bind fun y110 => (if 0 ≤ (l0.length : Int) then (if (l0.length : Int) ≤ (y110.length : Int) then (some (y110.take ((l0.length : Int) : Int).toNat)) else (none)) else (none))) else (none)))) else (none))) = some r := h
  clear h
  obtain ⟨y101, hy101⟩ : ∃ y_ : List Int, y_ = (([] : List Int)) := ⟨_, rfl⟩
  replace H : (if y101.length + l0.length < 140737488355328 then ((some (y101 ++ l0 : List Int)).bind fun y104 => ((some (([77, 78] : List Int) : List Int)).bind fun y107 => (if y104.length + y107.length < 140737488355328 then ((some (y104 ++ y107 : List Int)).bind fun y110 => (if 0 ≤ (l0.length : Int) then (if (l0.length : Int) ≤ (y110.length : Int) then (some (y110.take ((l0.length : Int) : Int).toNat)) else (none)) else (none))) else (none)))) else (none)) = some r := by first | (rw [hy101]; with_reducible exact H) | (have H2_ := (Option.bind_some _ _).symm.trans H; rw [hy101]; with_reducible exact H2_) | (have H2_ := (Option.bind_some _ _).symm.trans H; with_reducible exact H2_) | with_reducible exact H | (rw [hy101]; exact H) | exact H
  have Ny101 := Aside0.mk hy101
  clear hy101
  by_cases c2 : y101.length + l0.length < 140737488355328
  · rw [if_pos c2] at H
    have LMc2 := Aside0.mk c2
    clear c2
    obtain ⟨y104, hy104⟩ : ∃ y_ : List Int, y_ = (y101 ++ l0) := ⟨_, rfl⟩
    replace H : ((some (([77, 78] : List Int) : List Int)).bind fun y107 => (if y104.length + y107.length < 140737488355328 then ((some (y104 ++ y107 : List Int)).bind fun y110 => (if 0 ≤ (l0.length : Int) then (if (l0.length : Int) ≤ (y110.length : Int) then (some (y110.take ((l0.length : Int) : Int).toNat)) else (none)) else (none))) else (none))) = some r := by first | (rw [hy104]; with_reducible exact H) | (have H2_ := (Option.bind_some _ _).symm.trans H; rw [hy104]; with_reducible exact H2_) | (have H2_ := (Option.bind_some _ _).symm.trans H; with_reducible exact H2_) | with_reducible exact H | (rw [hy104]; exact H) | exact H
    have Ny104 := Aside0.mk hy104
    clear hy104
    obtain ⟨y107, hy107⟩ : ∃ y_ : List Int, y_ = (([77, 78] : List Int)) := ⟨_, rfl⟩
    replace H : (if y104.length + y107.length < 140737488355328 then ((some (y104 ++ y107 : List Int)).bind fun y110 => (if 0 ≤ (l0.length : Int) then (if (l0.length : Int) ≤ (y110.length : Int) then (some (y110.take ((l0.length : Int) : Int).toNat)) else (none)) else (none))) else (none)) = some r := by first | (rw [hy107]; with_reducible exact H) | (have H2_ := (Option.bind_some _ _).symm.trans H; rw [hy107]; with_reducible exact H2_) | (have H2_ := (Option.bind_some _ _).symm.trans H; with_reducible exact H2_) | with_reducible exact H | (rw [hy107]; exact H) | exact H
    have Ny107 := Aside0.mk hy107
    clear hy107
    by_cases c3 : y104.length + y107.length < 140737488355328
    · rw [if_pos c3] at H
      have LMc3 := Aside0.mk c3
      clear c3
      obtain ⟨y110, hy110⟩ : ∃ y_ : List Int, y_ = (y104 ++ y107) := ⟨_, rfl⟩
      replace H : (if 0 ≤ (l0.length : Int) then (if (l0.length : Int) ≤ (y110.length : Int) then (some (y110.take ((l0.length : Int) : Int).toNat)) else (none)) else (none)) = some r := by first | (rw [hy110]; with_reducible exact H) | (have H2_ := (Option.bind_some _ _).symm.trans H; rw [hy110]; with_reducible exact H2_) | (have H2_ := (Option.bind_some _ _).symm.trans H; with_reducible exact H2_) | with_reducible exact H | (rw [hy110]; exact H) | exact H
      have Ny110 := Aside0.mk hy110
      clear hy110
      by_cases c4 : 0 ≤ (l0.length : Int)
      · rw [if_pos c4] at H
        have c4b0 := eq_true c4
        have c4b1 : decide (0 ≤ (l0.length : Int)) = true := decide_eq_true c4
        clear c4
        by_cases c5 : (l0.length : Int) ≤ (y110.length : Int)
        · rw [if_pos c5] at H
          have c5b0 := eq_true c5
          have c5b1 : decide ((l0.length : Int) ≤ (y110.length : Int)) = true := decide_eq_true c5
          clear c5
          obtain ⟨y113, hy113⟩ : ∃ y_ : List Int, y_ = (y110.take ((l0.length : Int) : Int).toNat) := ⟨_, rfl⟩
          replace H : (some y113) = some r := by first | (rw [hy113]; with_reducible exact H) | (have H2_ := (Option.bind_some _ _).symm.trans H; rw [hy113]; with_reducible exact H2_) | (have H2_ := (Option.bind_some _ _).symm.trans H; with_reducible exact H2_) | with_reducible exact H | (rw [hy113]; exact H) | exact H
          have Ny113 := Aside0.mk hy113
          clear hy113
          obtain rfl := Option.some.inj H
          go_enter Try.func12, Try.ntmps12
          go_wp2_with (first | ((with_reducible refine gate_dst (N := 4) rfl ?_); refine Kd.R_lit (Kd.int .u8) _ 5 ?hg (N := 4) ?hd (xs := ([] : List Int)) (inner := []) (ok := fun _ => True) (okp := fun _ => True) ?hr ?hp (fun _ hk => hk) trivial (Below.refl _ _) (Nat.le_refl _) (by simp) ?_; (case hd => rfl); (case hg => rfl); (case hr => first | (go_simp; done) | (go_simp; rfl)); (case hp => exact (Reps.none _ _)); intro v102 w6 ho7 hb hg_ hnew_; clear hg_ hnew_; (first | rw [← Ny101.out] at ho7 | (simp only [Int.reduceToNat] at ho7; rw [← Ny101.out] at ho7)); have n0_ := Aside0.mk (Kd.R_lower ho7 (below_size (by repeat (first | (with_reducible first | exact HB.out | apply below_alloc | apply pw_below_drewN | apply below_drew1) | exact HB.out)))); have n1_ := Aside0.mk (below_step (by repeat (first | (with_reducible first | exact HB.out | apply below_alloc | apply pw_below_drewN | apply below_drew1) | exact HB.out)) hb); clear HB; have HO103 := n0_; have HB := n1_; clear n0_ n1_; clear hb ho7) | ((with_reducible refine gate_builtin (b := .append) (xs := #[.tmp 4, .tmp 5]) rfl ?_); at_builtin; refine Kd.R_append_rows (Kd.int .u8) (w0 := w) w.heap.size rfl (.tmp 4) (.tmp 5) 22 5 (.int .u8 0) 1 rfl Try.underlying22 info5 rfl (by decide) (by omega) v102 y101 l0 _ _ _ (fun _ => True) (fun _ => False) rfl rfl ?aO ?aR (fun _ _ h => h) (fun _ h => h.elim) ?aF ?aB ?aS ?aL ?_; (case aR => repeat (first | exact (Kd.C_below HR0.out HB.out) | (with_reducible refine Kd.C_alloc ?_ _) | (with_reducible refine Kd.C_drewN ?_ _) | (with_reducible refine Kd.C_drew ?_))); (case aB => exact (by repeat (first | (with_reducible first | exact HB.out | apply below_alloc | apply pw_below_drewN | apply below_drew1) | exact HB.out))); (case aF => exact (fun _ _ => trivial)); (case aO => exact (by (with_reducible repeat (first | apply Kd.R_alloc | apply Kd.R_drewN | apply Kd.R_drew)); exact HO103.out)); (case aS => exact (below_size (by repeat (first | (with_reducible first | exact HB.out | apply below_alloc | apply pw_below_drewN | apply below_drew1) | exact HB.out)))); (case aL => have := LMc2.out; omega); intro v105 w8 ho hb hg hat; rw [← Ny104.out] at ho; have n0_ := Aside0.mk (hb); have n1_ := Aside0.mk (ho); clear HB; clear HO103; have HB := n0_; have HO106 := n1_; clear n0_ n1_; clear ho hb hg hat) | ((with_reducible refine gate_dst (N := 8) rfl ?_); refine Kd.R_lit (Kd.int .u8) _ 5 ?hg (N := 8) ?hd (xs := ([77, 78] : List Int)) (inner := [.int .u8 77, .int .u8 78]) (ok := fun _ => True) (okp := fun _ => True) ?hr ?hp (fun _ hk => hk) trivial (Below.refl _ _) (Nat.le_refl _) (by simp) ?_; (case hd => rfl); (case hg => rfl); (case hr => first | (go_simp; done) | (go_simp; rfl)); (case hp => exact (Reps.one (show Kd.M (Kd.int .u8) _ _ _ 77 [.int .u8 77] from rfl) (Reps.one (show Kd.M (Kd.int .u8) _ _ _ 78 [.int .u8 78] from rfl) (Reps.none _ _)))); intro v108 w9 ho10 hb hg_ hnew_; clear hg_ hnew_; (first | rw [← Ny107.out] at ho10 | (simp only [Int.reduceToNat] at ho10; rw [← Ny107.out] at ho10)); have n0_ := Aside0.mk (Kd.R_elder' (by (with_reducible repeat (first | apply Kd.R_alloc | apply Kd.R_drewN | apply Kd.R_drew)); exact HO106.out) (Kd.R_base ho10) hb); have n1_ := Aside0.mk (Kd.R_lower (Kd.R_new' ho10 (Kd.R_lt (by (with_reducible repeat (first | apply Kd.R_alloc | apply Kd.R_drewN | apply Kd.R_drew)); exact HO106.out))) (below_size (by repeat (first | (with_reducible first | exact HB.out | apply below_alloc | apply pw_below_drewN | apply below_drew1) | exact HB.out)))); have n2_ := Aside0.mk (below_step (by repeat (first | (with_reducible first | exact HB.out | apply below_alloc | apply pw_below_drewN | apply below_drew1) | exact HB.out)) hb); clear HO106; clear HB; have HO106 := n0_; have HO109 := n1_; have HB := n2_; clear n0_ n1_ n2_; clear hb ho10; obtain ⟨Ao12, co12, eo12⟩ := Kd.R_slice HO109.out; subst eo12) | ((with_reducible refine gate_builtin (b := .append) (xs := #[.tmp 7, .tmp 8]) rfl ?_); at_builtin; refine Kd.R_append_rows (Kd.int .u8) (w0 := w) w.heap.size rfl (.tmp 7) (.tmp 8) 22 5 (.int .u8 0) 1 rfl Try.underlying22 info5 rfl (by decide) (by omega) v105 y104 y107 _ _ _ (fun k_ => some k_ ≠ (.slice Ao12 y107.length co12 : Value).ownBlock) (fun _ => False) rfl rfl ?aO ?aR (fun _ _ h => h) (fun _ h => h.elim) ?aF ?aB ?aS ?aL ?_; (case aR => repeat (first | exact (Kd.R_reads' HO109.out).2.2 | (with_reducible refine Kd.C_alloc ?_ _) | (with_reducible refine Kd.C_drewN ?_ _) | (with_reducible refine Kd.C_drew ?_))); (case aB => exact (by repeat (first | (with_reducible first | exact HB.out | apply below_alloc | apply pw_below_drewN | apply below_drew1) | exact HB.out))); (case aF => exact (fun k_ hk => Kd.fresh' (Kd.R_lt (by (with_reducible repeat (first | apply Kd.R_alloc | apply Kd.R_drewN | apply Kd.R_drew)); exact HO109.out)) k_ hk)); (case aO => exact (by (with_reducible repeat (first | apply Kd.R_alloc | apply Kd.R_drewN | apply Kd.R_drew)); exact Kd.R_mono HO106.out (fun _ hk => hk.2))); (case aS => exact (below_size (by repeat (first | (with_reducible first | exact HB.out | apply below_alloc | apply pw_below_drewN | apply below_drew1) | exact HB.out)))); (case aL => have := LMc3.out; omega); intro v111 w11 ho hb hg hat; rw [← Ny110.out] at ho; have n0_ := Aside0.mk (Kd.R_after (ok := (fun _ => True)) (by (with_reducible repeat (first | apply Kd.R_alloc | apply Kd.R_drewN | apply Kd.R_drew)); exact HO109.out) hg hat); have n1_ := Aside0.mk (hb); have n2_ := Aside0.mk (ho); clear HO109; clear HB; clear HO106; have HO109 := n0_; have HB := n1_; have HO112 := n2_; clear n0_ n1_ n2_; clear ho hb hg hat; obtain ⟨Ao13, co13, eo13⟩ := Kd.R_slice HO112.out; subst eo13; have q14 : ((l0.length : Int) : Int) ≤ ((y110.length : Int) : Int) := of_decide_eq_true (by first | (with_reducible assumption) | assumption); obtain ⟨i014, hi014, _, hsz14, _⟩ := info_parts info5; have hcut14 := cut_to (P := Try.prog) 22 5 .i64 Try.underlying22 hi014 Ao13 y110.length co13 (l0.length : Int) (of_decide_eq_true (by first | (with_reducible assumption) | assumption)) q14 (Kd.R_reads' HO112.out).2.1; have hr14 := Kd.R_take (m := ((l0.length : Int) : Int).toNat) HO112.out (by omega); have hy14 : y113.length = ((l0.length : Int) : Int).toNat := (by rw [Ny113.out, List.length_take]; omega); rw [← Ny113.out] at hr14; rw [← hy14] at hr14 hcut14; clear hy14 hi014 hsz14 HO112; have HO115 := Aside0.mk hr14; clear hr14; replace q14 := eq_true q14))
          go_ret
          exact ⟨_, by first | rfl | (simp [errW_none, errW_some] <;> rfl) | (simp [*, errW_none, errW_some] <;> rfl), by (with_reducible repeat (first | apply Kd.R_alloc | apply Kd.R_drewN | apply Kd.R_drew)); exact Kd.R_mono HO115.out (fun _ hk => trivial), by repeat (first | (with_reducible first | exact HB.out | apply below_alloc | apply pw_below_drewN | apply below_drew1) | exact HB.out)⟩
        · rw [if_neg c5] at H
          exact absurd H (by simp)
      · rw [if_neg c4] at H
        exact absurd H (by simp)
    · rw [if_neg c3] at H
      exact absurd H (by simp)
  · rw [if_neg c2] at H
    exact absurd H (by simp)

end Go.Proofs.Ytjkimfjhfncldaa.Q
end
