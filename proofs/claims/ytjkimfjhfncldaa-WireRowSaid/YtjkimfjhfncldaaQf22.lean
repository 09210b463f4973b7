-- written by hprint.py (a program of these sessions) out of the translation; Lean checks it
import Derived.Test.YtjkimfjhfncldaaQ0
namespace Go.Proofs.Ytjkimfjhfncldaa.Q
open Go.RowKit Go.Proofs.YtjkimfjhfncldaaW.Hb Go.Proofs.YtjkimfjhfncldaaW.PrintWords Go.Proofs.YtjkimfjhfncldaaW.PrintLast Go.Proofs.YtjkimfjhfncldaaW.PrintMore
attribute [local go_sem] max2_int min2_int max_two min_two max_three min_three max_four min_four   -- for this text's walks alone
set_option linter.unusedVariables false
set_option linter.unusedSimpArgs false

/-! ### wire_NewWriter: function 22, by hand -/
/-- A writer that was made, its block g, its bytes; S: the blocks that are its own. -/
def Wr (w : World) (S : Nat → Prop) (g : Nat) (l : List Int) : Prop := ∃ v, Blk w g 70 #[v, .bool true] ∧ S g ∧ (Kd.int .u8).R 5 w 0 (fun k => S k ∧ k ≠ g) v l
theorem Wr.lt {w : World} {S : Nat → Prop} {g : Nat} {l : List Int} (h : Wr w S g l) : g < w.heap.size := by
  obtain ⟨v, hb, _, _⟩ := h
  exact hb.lt
theorem Wr.kept {w w' : World} {S S2 : Nat → Prop} {g : Nat} {l : List Int} (h : Wr w S g l) (hk : Kept w w' S2) (hd : ∀ k, S k → ¬ S2 k) : Wr w' S g l := by
  obtain ⟨v, hb, hS, hR⟩ := h
  exact ⟨v, blk_kept hb hk (hd g hS), hS, Kd.R_kept hR hk (fun k ho => hd k ho.1)⟩
theorem Wr.mono {w : World} {S S' : Nat → Prop} {g : Nat} {l : List Int} (h : Wr w S g l) (hs : ∀ k, S k → S' k) : Wr w S' g l := by
  obtain ⟨v, hb, hS, hR⟩ := h
  exact ⟨v, hb, hs g hS, Kd.R_mono hR (fun k hk => ⟨hs k hk.1, hk.2⟩)⟩
theorem Wr.below {w w' : World} {S : Nat → Prop} {g : Nat} {l : List Int} (h : Wr w S g l) (hb : Below w.heap.size w w') : Wr w' S g l := h.kept (Kept.of_below hb (fun _ => False)) (fun _ _ hk => hk)
/-- What a writer's call does to the world. -/
def Fr (w w' : World) (S : Nat → Prop) : Prop := Below 0 w w' ∧ Kept w w' S
theorem Fr.of_below {w w' : World} (h : Below w.heap.size w w') (S : Nat → Prop) : Fr w w' S := ⟨h.mono (Nat.zero_le _), Kept.of_below h S⟩
theorem Fr.below {w w' : World} {S : Nat → Prop} {B : Nat} (h : Fr w w' S) (hB : B ≤ w.heap.size) (hS : ∀ k, S k → B ≤ k) : Below B w w' :=
  ⟨h.1.os, h.1.tape, h.1.output, h.1.size, fun k hk => h.2.2 k (by omega) (fun hs => by have := hS k hs; omega)⟩
theorem Fr.then_ {w w' w2 : World} {S S2 : Nat → Prop} (h : Fr w w' S) (k : Fr w' w2 S2) (hs : ∀ k, S2 k → S k ∨ w.heap.size ≤ k) : Fr w w2 S := ⟨h.1.trans k.1, h.2.then_ k.2 hs⟩
/-- The blocks of a writer behind a call. -/
def SS (S : Nat → Prop) (w w' : World) (k : Nat) : Prop := S k ∨ w.heap.size ≤ k ∧ k < w'.heap.size
set_option maxRecDepth 100000 in
theorem wire_NewWriter.calls (w : World) : Calls Try.prog 22 #[] w fun e w' => ∃ g, e = .returned (.pointer (some ⟨g, 0, none⟩)) ∧ Wr w' (fun k => k = g) g [] ∧ w.heap.size ≤ g ∧ Below w.heap.size w w' := by
  have hB := (Below.refl w.heap.size w).alloc (Nat.le_refl _) (.cells #[.slice none 0 0, .bool true] 70)
  go_enter Try.func22, Try.ntmps22
  go_wp2
  go_ret
  exact ⟨_, rfl, ⟨.slice none 0 0, Blk.new w _ _, rfl, Kd.R_nil _ _ _ _ _⟩, Nat.le_refl _, hB⟩


end Go.Proofs.Ytjkimfjhfncldaa.Q
