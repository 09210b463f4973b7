/- small words of these sessions over the kit's printed words: blocks that are known whole, rows of slices, literals, results -/
import Derived.WalkKit
import Derived.Test.YtjkimfjhfncldaaWMore
import Derived.Test.YtjkimfjhfncldaaWNEv
import Derived.Test.YtjkimfjhfncldaaWZeros
set_option linter.unusedVariables false
set_option linter.unusedSimpArgs false
namespace Go.Proofs.YtjkimfjhfncldaaW.Hb
open Go.RowKit Go.Proofs.YtjkimfjhfncldaaW.PrintWords

/-! ### blocks -/
/-- Block g holds just these cells, of element type t, none frozen. -/
def Blk (w : World) (g : Nat) (t : TypeId) (cs : Array Value) : Prop := w.heap[g]? = some (.cells cs t (0, 0))
section
variable {w w' : World} {g : Nat} {t : TypeId} {cs : Array Value}
theorem Blk.lt (h : Blk w g t cs) : g < w.heap.size := by
  rcases Nat.lt_or_ge g w.heap.size with hlt | hge
  · exact hlt
  · unfold Blk at h; rw [Array.getElem?_eq_none hge] at h; cases h
theorem Blk.cell (h : Blk w g t cs) (i : Nat) : w.cell? ⟨g, i, none⟩ = cs[i]? := cell_of_row w g i cs t (0, 0) h
theorem Blk.at_ (h : Blk w g t cs) (i : Nat) {v : Value} (hv : cs[i]? = some v) : w.cell? ⟨g, i, none⟩ = some v := (h.cell i).trans hv
theorem Blk.frozen (h : Blk w g t cs) (i : Nat) : w.frozen? ⟨g, i, none⟩ = false := by
  unfold Blk at h
  simp [World.frozen?, h]
theorem Blk.new (w : World) (t : TypeId) (cs : Array Value) : Blk (w.alloc (.cells cs t)) w.heap.size t cs := heap_alloc_new w _
theorem Blk.drew (h : Blk w g t cs) : Blk w.drew g t cs := h
theorem Blk.drewN (h : Blk w g t cs) (n : Nat) : Blk (w.drewN n) g t cs := h
theorem Blk.alloc (h : Blk w g t cs) (o : Obj) : Blk (w.alloc o) g t cs := (Below.heap_alloc w o g h.lt).trans h
theorem Blk.set_ (h : Blk w g t cs) (i : Nat) (u : Value) : Blk (w.setCell ⟨g, i, none⟩ u) g t (cs.setIfInBounds i u) := by
  unfold Blk at h ⊢
  simp [World.setCell, Array.getElem?_modify, h]
theorem Blk.far (h : Blk w g t cs) {p : Addr} (hp : g ≠ p.block) (u : Value) : Blk (w.setCell p u) g t cs := (Below.heap_setCell w p u g hp).trans h
theorem Blk.below {B : Nat} (h : Blk w g t cs) (hb : Below B w w') (hg : g < B) : Blk w' g t cs := (hb.block g hg).trans h
theorem Blk.after (h : Blk w g t cs) (hb : Below w.heap.size w w') : Blk w' g t cs := (hb.block g h.lt).trans h
theorem Blk.grown {row : Option Nat} (h : Blk w g t cs) (hb : w.grownBy w' row) (hg : some g ≠ row) : Blk w' g t cs := (hb.block g h.lt hg).trans h
theorem Blk.ne_ {g' : Nat} {t' : TypeId} {cs' : Array Value} (h : Blk w g t cs) (h' : Blk w g' t' cs') (hne : t ≠ t') : g ≠ g' := by
  rintro rfl
  unfold Blk at h h'
  rw [h] at h'
  injection h' with h'
  injection h' with _ ht
  exact hne ht
end
theorem cell_allocd {w : World} {a : Addr} {v : Value} (h : w.cell? a = some v) (o : Obj) : (w.alloc o).cell? a = some v := pw_cell_below ((Below.refl _ _).alloc (Nat.le_refl _) o) h

/-! ### rows that are read -/
theorem at_intN {w : World} {k : IntKind} {A : Option Addr} {n : Nat} {xs : List Int} (h : (Kd.int k).C w A n xs) (i : Nat) (hi : i < xs.length) : ∃ ad, A = some ad ∧ w.cell? (ad.add i) = some (.int k xs[i]) := by
  obtain ⟨ad, e, hc⟩ := Kd.at_int h i (by omega) (by have := h.1; omega)
  refine ⟨ad, e, ?_⟩
  rw [Int.toNat_natCast] at hc
  rw [hc]
  simp [rd, List.getD_eq_getElem?_getD, hi]
theorem at_slice {α : Type} {d : Kd α} {e : TypeId} {w : World} {A : Option Addr} {n : Nat} {ps : List (List α)} (h : (Kd.slice e d).C w A n ps) (i : Nat) (hi : i < ps.length) :
    ∃ ad A' c', A = some ad ∧ w.cell? (ad.add i) = some (.slice A' ps[i].length c') ∧ ps[i].length ≤ c' ∧ d.C w A' ps[i].length ps[i] := by
  obtain ⟨ad, c, e1, _, hK, hc⟩ := Kd.C_get h [] i (by omega) (by have := h.1; omega)
  have e2 : ps.getD (i : Int).toNat [] = ps[i] := by simp [List.getD_eq_getElem?_getD, hi]
  rw [e2] at hK
  obtain ⟨A', c', rfl, hl, hC⟩ := hK
  refine ⟨ad, A', c', e1, ?_, hl, hC⟩
  have h0 := hc 0 _ rfl
  rw [Int.toNat_natCast] at h0
  have h1 : i * (Kd.slice e d).sz + 0 = i := by show i * 1 + 0 = i; omega
  rwa [h1] at h0
/-- A literal of numbers, read. -/
theorem C_lit_int (W : World) (b : Nat) (hb : b = W.heap.size) (k : IntKind) (xs : List Int) (cells : Array Value) (hc : cells = (nums k xs).toArray) (e : TypeId) (hm : xs.length ≤ 9223372036854775807) :
    (Kd.int k).C (W.alloc (.cells cells e)) (some ⟨b, 0, none⟩) xs.length xs := by
  subst hb hc
  obtain ⟨A, c, hv, hR⟩ := own_reads (own_lit W 0 e k xs (Nat.zero_le _) hm)
  injection hv with h1 h2 h3
  subst h1
  exact Kd.C_of_reads (d := (0 : Int)) (h1 := fun _ => rfl) hR
/-- A block that is known whole, read as a row. -/
theorem C_of_reps {α : Type} {d : Kd α} {w : World} {g : Nat} {t : TypeId} {cs : Array Value} (hB : Blk w g t cs) (ps : List α) (hr : Reps (d.K w) d.sz ps cs.toList) (hm : ps.length ≤ 9223372036854775807) : d.C w (some ⟨g, 0, none⟩) ps.length ps := by
  refine ⟨rfl, hm, fun _ => ⟨_, rfl, fun j p hj => ⟨_, ?_, hr.2 j p hj, fun i u hu => ?_⟩⟩⟩
  · exact d.K_len (hr.2 j p hj)
  · rw [add_plain, hB.cell]
    rw [List.getElem?_take, List.getElem?_drop] at hu
    split at hu
    · rw [← Array.getElem?_toList]
      exact hu
    · cases hu
theorem Reps_one {α : Type} {R : α → List Value → Prop} {size : Nat} {p : α} {c : List Value} (h : R p c) (hc : c.length = size) : Reps R size [p] c := by
  have := Reps.snoc (Reps.none R size) h hc
  simpa using this
theorem Reps_two {α : Type} {R : α → List Value → Prop} {size : Nat} {p q : α} {c e : List Value} (h : R p c) (hc : c.length = size) (h' : R q e) (he : e.length = size) : Reps R size [p, q] (c ++ e) := by
  have := Reps.snoc (Reps_one h hc) h' he
  simpa using this
/-- A row of slices that a call has just laid, read: two of them. -/
theorem C_lit_two {α : Type} (d : Kd α) (W : World) (b : Nat) (hb : b = W.heap.size) (e t : TypeId) (A1 A2 : Option Addr) (n1 n2 c1 c2 : Nat) (x1 x2 : List α) (hn1 : x1.length = n1) (hn2 : x2.length = n2) (h1 : d.C W A1 x1.length x1) (h2 : d.C W A2 x2.length x2) (hc1 : n1 ≤ c1) (hc2 : n2 ≤ c2) :
    (Kd.slice e d).C (W.alloc (.cells #[.slice A1 n1 c1, .slice A2 n2 c2] t)) (some ⟨b, 0, none⟩) [x1, x2].length [x1, x2] := by
  subst hb hn1 hn2
  have hB : Below W.heap.size W (W.alloc (.cells #[.slice A1 x1.length c1, .slice A2 x2.length c2] t)) := (Below.refl _ _).alloc (Nat.le_refl _) _
  refine ⟨rfl, by simp, fun _ => ⟨_, rfl, fun j p hj => ?_⟩⟩
  match j, hj with
  | 0, hj =>
    obtain rfl : x1 = p := by simpa using hj
    refine ⟨[.slice A1 x1.length c1], rfl, ⟨A1, c1, rfl, hc1, Kd.C_below h1 hB⟩, fun i u hu => ?_⟩
    match i, hu with
    | 0, hu =>
      obtain rfl : Value.slice A1 x1.length c1 = u := by simpa using hu
      exact (Blk.new W t _).cell 0
    | i + 1, hu => simp at hu
  | 1, hj =>
    obtain rfl : x2 = p := by simpa using hj
    refine ⟨[.slice A2 x2.length c2], rfl, ⟨A2, c2, rfl, hc2, Kd.C_below h2 hB⟩, fun i u hu => ?_⟩
    match i, hu with
    | 0, hu =>
      obtain rfl : Value.slice A2 x2.length c2 = u := by simpa using hu
      have e1 : (⟨W.heap.size, 0, none⟩ : Addr).add (1 * (Kd.slice e d).sz + 0) = ⟨W.heap.size, 1, none⟩ := by rw [add_plain]; rfl
      rw [e1]
      exact (Blk.new W t _).cell 1
    | i + 1, hu => simp at hu
  | j + 2, hj => simp at hj

/-! ### lists of lists, up to a place -/
def tk {α : Type} (ps : List (List α)) (k : Nat) : List α := (ps.take k).flatten
theorem tk_zero {α : Type} (ps : List (List α)) : tk ps 0 = [] := by simp [tk]
theorem tk_succ {α : Type} (ps : List (List α)) (k : Nat) (hk : k < ps.length) : tk ps (k + 1) = tk ps k ++ ps[k] := by
  unfold tk
  rw [List.take_succ_eq_append_getElem hk, List.flatten_append]
  simp
theorem tk_all {α : Type} (ps : List (List α)) (k : Nat) (hk : ps.length ≤ k) : tk ps k = ps.flatten := by
  unfold tk
  rw [List.take_of_length_le hk]
theorem tk_le {α : Type} (ps : List (List α)) (k : Nat) : (tk ps k).length ≤ ps.flatten.length := by
  unfold tk
  conv => rhs; rw [← List.take_append_drop k ps, List.flatten_append, List.length_append]
  omega

/-! ### results -/
/-- A row of the call's own is handed back. -/
def OwnRes {α : Type} (d : Kd α) (t : TypeId) (w : World) (xs : List α) (e : Ending) (w' : World) : Prop := ∃ v, e = .returned v ∧ d.R t w' w.heap.size (fun _ => True) v xs ∧ Below w.heap.size w w'

/-! ### the first that fits -/
def ixf {α : Type} (p : α → Bool) (xs : List α) : Int := if xs.any p then ((xs.findIdx p : Nat) : Int) else -1
theorem ixf_hit {α : Type} (p : α → Bool) (xs : List α) (k : Nat) (hk : k < xs.length) (h : p xs[k] = true) (hb : ∀ j (hj : j < xs.length), j < k → p xs[j] = false) : ixf p xs = k := by
  have h1 : xs.any p = true := List.any_eq_true.2 ⟨xs[k], List.getElem_mem hk, h⟩
  have h2 : xs.findIdx p = k := by
    rw [List.findIdx_eq hk]
    exact ⟨h, fun j hj => hb j (by omega) hj⟩
  simp [ixf, h1, h2]
theorem ixf_miss {α : Type} (p : α → Bool) (xs : List α) (hb : ∀ j (hj : j < xs.length), p xs[j] = false) : ixf p xs = -1 := by
  have h1 : xs.any p = false := by
    rw [List.any_eq_false]
    intro x hx
    obtain ⟨j, hj, rfl⟩ := List.getElem_of_mem hx
    simp [hb j hj]
  simp [ixf, h1]
theorem ixf_any {α : Type} (p : α → Bool) (xs : List α) : decide (0 ≤ ixf p xs) = xs.any p := by
  unfold ixf
  cases h : xs.any p <;> simp
end Go.Proofs.YtjkimfjhfncldaaW.Hb
