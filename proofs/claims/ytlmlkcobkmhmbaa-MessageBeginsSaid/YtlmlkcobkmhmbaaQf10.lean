-- written by hprint.py (a program of these sessions) out of the translation; Lean checks it
import Derived.Test.YtlmlkcobkmhmbaaQ0
import Derived.Test.YtlmlkcobkmhmbaaQf81
import Derived.Test.YtlmlkcobkmhmbaaQf21
import Derived.Test.YtlmlkcobkmhmbaaQf8
namespace Go.Proofs.Ytlmlkcobkmhmbaa.Q
open Go.RowKit Go.Proofs.YtlmlkcobkmhmbaaW.Hb Go.Proofs.YtlmlkcobkmhmbaaW.PrintWords Go.Proofs.YtlmlkcobkmhmbaaW.PrintLast Go.Proofs.YtlmlkcobkmhmbaaW.PrintMore
attribute [local go_sem] max2_int min2_int max_two min_two max_three min_three max_four min_four   -- for this text's walks alone
set_option linter.unusedVariables false
set_option linter.unusedSimpArgs false

/-! ### weighhouselaw17_knows: function 10, by hand -/
def weighhouselaw17_knows.f : Option Bool := some true
abbrev Ent := S74
def strA : ByteArray := { data := #[97] }
def strB : ByteArray := { data := #[98] }
def strC : ByteArray := { data := #[99] }
def recA : Rec := ⟨2, 0, 0, 0, [⟨1, strA⟩, ⟨1, strB⟩]⟩
def recB : Rec := ⟨2, 0, 0, 1, [⟨2, strC⟩]⟩
theorem fres_knows : fres [recA, recB] = (⟨0, 0, 0, [⟨1, strA⟩, ⟨2, strC⟩]⟩, true) := by rfl
theorem rr_knows : message_RightRecord.f 2 0 0 0 [⟨1, strA⟩, ⟨1, strB⟩] = some true := by rfl
abbrev kW2 (w : World) : World := (w.alloc (.cells #[.int .i64 1, .string { data := #[97] }, .int .i64 1, .string { data := #[98] }] 74)).alloc (.cells #[.int .i64 2, .int .i64 0, .int .i64 0, .int .i64 0, .slice (some ⟨w.heap.size, 0, none⟩) 2 2] 49)
abbrev kW4 (w : World) : World := ((kW2 w).alloc (.cells #[.int .i64 2, .string { data := #[99] }] 74)).alloc (.cells #[.int .i64 2, .int .i64 0, .int .i64 0, .int .i64 1, .slice (some ⟨w.heap.size + 1 + 1, 0, none⟩) 1 1] 49)
abbrev kW5 (w : World) : World := (kW4 w).alloc (.cells #[.int .i64 2, .int .i64 0, .int .i64 0, .int .i64 0, .slice (some ⟨w.heap.size, 0, none⟩) 2 2, .int .i64 2, .int .i64 0, .int .i64 0, .int .i64 1, .slice (some ⟨w.heap.size + 1 + 1, 0, none⟩) 1 1] 49)
theorem kW_A (w : World) : Kd.C k74 (kW5 w) (some ⟨w.heap.size, 0, none⟩) 2 [⟨1, strA⟩, ⟨1, strB⟩] := by
  have B := ((((Blk.new w 74 #[.int .i64 1, .string { data := #[97] }, .int .i64 1, .string { data := #[98] }]).alloc (.cells #[.int .i64 2, .int .i64 0, .int .i64 0, .int .i64 0, .slice (some ⟨w.heap.size, 0, none⟩) 2 2] 49)).alloc (.cells #[.int .i64 2, .string { data := #[99] }] 74)).alloc (.cells #[.int .i64 2, .int .i64 0, .int .i64 0, .int .i64 1, .slice (some ⟨w.heap.size + 1 + 1, 0, none⟩) 1 1] 49)).alloc (.cells #[.int .i64 2, .int .i64 0, .int .i64 0, .int .i64 0, .slice (some ⟨w.heap.size, 0, none⟩) 2 2, .int .i64 2, .int .i64 0, .int .i64 0, .int .i64 1, .slice (some ⟨w.heap.size + 1 + 1, 0, none⟩) 1 1] 49)
  exact C_of_reps (d := k74) B [⟨1, strA⟩, ⟨1, strB⟩] (Reps_two (c := [.int .i64 1, .string strA]) (e := [.int .i64 1, .string strB]) (k74_mk _ ⟨1, strA⟩) rfl (k74_mk _ ⟨1, strB⟩) rfl) (by simp)
theorem kW_B (w : World) : Kd.C k74 (kW5 w) (some ⟨w.heap.size + 1 + 1, 0, none⟩) 1 [⟨2, strC⟩] := by
  have B := ((Blk.new (kW2 w) 74 #[.int .i64 2, .string { data := #[99] }]).alloc (.cells #[.int .i64 2, .int .i64 0, .int .i64 0, .int .i64 1, .slice (some ⟨w.heap.size + 1 + 1, 0, none⟩) 1 1] 49)).alloc (.cells #[.int .i64 2, .int .i64 0, .int .i64 0, .int .i64 0, .slice (some ⟨w.heap.size, 0, none⟩) 2 2, .int .i64 2, .int .i64 0, .int .i64 0, .int .i64 1, .slice (some ⟨w.heap.size + 1 + 1, 0, none⟩) 1 1] 49)
  rw [show (kW2 w).heap.size = w.heap.size + 1 + 1 from by simp] at B
  exact C_of_reps (d := k74) B [⟨2, strC⟩] (Reps_one (c := [.int .i64 2, .string strC]) (k74_mk _ ⟨2, strC⟩) rfl) (by simp)
theorem kW_all (w : World) : Kd.C k49 (kW5 w) (some ⟨w.heap.size + 1 + 1 + 1 + 1, 0, none⟩) 2 [recA, recB] := by
  have B := Blk.new (kW4 w) 49 #[.int .i64 2, .int .i64 0, .int .i64 0, .int .i64 0, .slice (some ⟨w.heap.size, 0, none⟩) 2 2, .int .i64 2, .int .i64 0, .int .i64 0, .int .i64 1, .slice (some ⟨w.heap.size + 1 + 1, 0, none⟩) 1 1]
  rw [show (kW4 w).heap.size = w.heap.size + 1 + 1 + 1 + 1 from by simp] at B
  exact C_of_reps (d := k49) B [recA, recB] (Reps_two (c := [.int .i64 2, .int .i64 0, .int .i64 0, .int .i64 0, .slice (some ⟨w.heap.size, 0, none⟩) 2 2]) (e := [.int .i64 2, .int .i64 0, .int .i64 0, .int .i64 1, .slice (some ⟨w.heap.size + 1 + 1, 0, none⟩) 1 1]) (k49_mk _ recA (Nat.le_refl 2) (kW_A w)) rfl (k49_mk _ recB (Nat.le_refl 1) (kW_B w)) rfl) (by simp)
theorem kW_rec (w : World) : Blk (kW5 w) (w.heap.size + 1) 49 #[.int .i64 2, .int .i64 0, .int .i64 0, .int .i64 0, .slice (some ⟨w.heap.size, 0, none⟩) 2 2] := by
  have B := (((Blk.new (w.alloc (.cells #[.int .i64 1, .string { data := #[97] }, .int .i64 1, .string { data := #[98] }] 74)) 49 #[.int .i64 2, .int .i64 0, .int .i64 0, .int .i64 0, .slice (some ⟨w.heap.size, 0, none⟩) 2 2]).alloc (.cells #[.int .i64 2, .string { data := #[99] }] 74)).alloc (.cells #[.int .i64 2, .int .i64 0, .int .i64 0, .int .i64 1, .slice (some ⟨w.heap.size + 1 + 1, 0, none⟩) 1 1] 49)).alloc (.cells #[.int .i64 2, .int .i64 0, .int .i64 0, .int .i64 0, .slice (some ⟨w.heap.size, 0, none⟩) 2 2, .int .i64 2, .int .i64 0, .int .i64 0, .int .i64 1, .slice (some ⟨w.heap.size + 1 + 1, 0, none⟩) 1 1] 49)
  rw [show (w.alloc (.cells #[.int .i64 1, .string { data := #[97] }, .int .i64 1, .string { data := #[98] }] 74)).heap.size = w.heap.size + 1 from by simp] at B
  exact B
theorem R_two {w1 : World} {base : Nat} {ok : Nat → Prop} {v : Value} {x y : Ent} (hR : Kd.R k74 74 w1 base ok v [x, y]) :
    ∃ g c, v = .slice (some ⟨g, 0, none⟩) 2 c ∧ g < w1.heap.size ∧ 2 ≤ c ∧ w1.cell? ⟨g, 0, none⟩ = some (.int .i64 x.f0) ∧ w1.cell? ⟨g, 1, none⟩ = some (.string x.f1) ∧ w1.cell? ⟨g, 2, none⟩ = some (.int .i64 y.f0) ∧ w1.cell? ⟨g, 3, none⟩ = some (.string y.f1) := by
  obtain ⟨inner, ho⟩ := Kd.R_own hR
  obtain ⟨g, c, e1, _, hlt⟩ := ho.form (by simp)
  obtain ⟨A, c', e2, hc', hC⟩ := Kd.R_reads hR
  rw [e1] at e2
  injection e2 with e3 _ e4
  subst e3 e4
  obtain ⟨ad, e5, x0, x1⟩ := at_EntryN hC 0 (by simp)
  obtain ⟨ad', e6, y0, y1⟩ := at_EntryN hC 1 (by simp)
  cases e5
  cases e6
  simp only [add_plain] at x0 x1 y0 y1
  exact ⟨g, c, e1, hlt, hc', x0, x1, y0, y1⟩
theorem Fold_knows (w : World) : Calls Try.prog 8 #[.slice (some ⟨w.heap.size + 1 + 1 + 1 + 1, 0, none⟩) 2 2] (kW5 w) (FoldRes (kW5 w) ⟨0, 0, 0, [⟨1, strA⟩, ⟨2, strC⟩]⟩ true) := by
  have h := message_Fold.walk (some ⟨w.heap.size + 1 + 1 + 1 + 1, 0, none⟩) 2 [recA, recB] (kW5 w) (kW_all w) (Nat.le_refl 2)
  rw [fres_knows] at h
  exact h
set_option maxRecDepth 100000 in
set_option maxHeartbeats 1000000 in
theorem weighhouselaw17_knows.calls (r : Bool) (w : World) (h : weighhouselaw17_knows.f = some r) : Calls Try.prog 10 #[] w fun e w' => e = .returned (.bool r) ∧ Below w.heap.size w w' := by
  obtain rfl : true = r := Option.some.inj h
  clear h
  have HF := Aside0.mk (Fold_knows w)
  have HRR := Aside0.mk rr_knows
  have eA : (strA.toList == [97]) = true := by decide +kernel
  have eC : (strC.toList == [99]) = true := by decide +kernel
  go_enter Try.func10, Try.ntmps10
  go_wp2_with (go_at_call 8; (with_reducible refine HF.out.mono ?_); rintro e w1 ⟨v3, rfl, hR, hB⟩; obtain ⟨g, c3, rfl, hg, hc3, x0, x1, y0, y1⟩ := R_two hR; have hA := (kW_rec w).after hB; have q0 : w1.cell? ⟨w.heap.size + 1, 0, none⟩ = some (.int .i64 2) := hA.cell 0; have q1 : w1.cell? ⟨w.heap.size + 1, 1, none⟩ = some (.int .i64 0) := hA.cell 1; have q2 : w1.cell? ⟨w.heap.size + 1, 2, none⟩ = some (.int .i64 0) := hA.cell 2; have q3 : w1.cell? ⟨w.heap.size + 1, 3, none⟩ = some (.int .i64 0) := hA.cell 3; have q4 : w1.cell? ⟨w.heap.size + 1, 4, none⟩ = some (.slice (some ⟨w.heap.size, 0, none⟩) 2 2) := hA.cell 4; have hlt := hA.lt; have HCA := Aside0.mk (Kd.C_below (kW_A w) hB); have HB := Aside0.mk hB; clear hR hB hA)
  have HQ := Aside0.mk (message_RightRecord.calls 2 0 0 0 (some ⟨w.heap.size, 0, none⟩) 2 [⟨1, strA⟩, ⟨1, strB⟩] true (w1.alloc (.cells #[.int .i64 0, .int .i64 0, .int .i64 0, .slice (some ⟨g, 0, none⟩) 2 c3] 25)) (Kd.C_alloc HCA.out _) (Nat.le_refl 2) HRR.out)
  refine HQ.out.mono ?_
  rintro e w2 ⟨rfl, hb2⟩
  go_wp2
  go_ret
  exact ⟨rfl, ((((((((Below.refl _ _).alloc (Nat.le_refl _) _).alloc (by simp) _).alloc (by simp; omega) _).alloc (by simp; omega) _).alloc (by simp; omega) _).trans (HB.out.mono (by simp; omega))).alloc (by omega) _).trans (hb2.mono (by simp; omega))⟩


end Go.Proofs.Ytlmlkcobkmhmbaa.Q
