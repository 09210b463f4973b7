/- texts of one claim, merged: each in a section of its own -/
import Derived.WalkKit
import Derived.Test.YtjkimfjhfncldaaMWireFrames2
import Derived.Deep.Slices
import Derived.SizedLaws
import Derived.ChangeArms
import Derived.Test.YtjkimfjhfncldaaRows
import Derived.Deep.CondSized
import Derived.Test.YtjkimfjhfncldaaProg
import Derived.Below
import Derived.Deep.Draws
import Derived.Deep.AppendLies
import Derived.Maps.AppendAt
import Derived.OwnWalk
import Derived.Laws.BytesArg
import Derived.Laws.MakeOwn
import Derived.Laws.OwnMore
import Derived.Deep.OwnRows
import Derived.Tactics
import Derived.Lib.ConvBytes
import Derived.Laws.Slices
import Derived.KernelRfl
import Derived.RowKit3
import Derived.Deep.LoopGhost
import Derived.Deep.QuietTactic
import Derived.BigQuiet
import Derived.WideLaws
import Derived.Deep.DeepCutAuto
import Derived.Deep.CutBlock
import Derived.Deep.RegionHeld3
import Derived.Laws.Rows
import Derived.Lib.AppendStr
import Derived.ArgAppend
import Derived.Laws.IdiomCopy
import Derived.OrdersHeld
import Derived.Laws.BitsLemmas
import Derived.RowKit
import Derived.WalkSpells
import Derived.WalkLawsBesides
import Derived.Laws.Bits64b
import Derived.Test.YtjkimfjhfncldaaMWireFrames1
section
/- small words of these sessions over the kit's printed words: blocks that are known whole, rows of slices, literals, results -/
set_option linter.unusedVariables false
set_option linter.unusedSimpArgs false
namespace Go.Proofs.YtjkimfjhfncldaaW.Hb
open Go.RowKit Go.Proofs.YtjkimfjhfncldaaW.PrintWords

/-! ### blocks -/
/-- Block g holds just these cells, of element type t, none frozen. -/
def Blk (w : World) (g : Nat) (t : TypeId) (cs : Array Value) : Prop := w.heap[g]? = some (.cells cs t (0, 0))
section
variable {w w' : World} {g : Nat} {t : TypeId} {cs : Array Value}
theorem Blk.lt (h : Blk w g t cs) : g < w.heap.size := by
  rcases Nat.lt_or_ge g w.heap.size with hlt | hge
  · exact hlt
  · unfold Blk at h; rw [Array.getElem?_eq_none hge] at h; cases h
theorem Blk.cell (h : Blk w g t cs) (i : Nat) : w.cell? ⟨g, i, none⟩ = cs[i]? := cell_of_row w g i cs t (0, 0) h
theorem Blk.at_ (h : Blk w g t cs) (i : Nat) {v : Value} (hv : cs[i]? = some v) : w.cell? ⟨g, i, none⟩ = some v := (h.cell i).trans hv
theorem Blk.frozen (h : Blk w g t cs) (i : Nat) : w.frozen? ⟨g, i, none⟩ = false := by
  unfold Blk at h
  simp [World.frozen?, h]
theorem Blk.new (w : World) (t : TypeId) (cs : Array Value) : Blk (w.alloc (.cells cs t)) w.heap.size t cs := heap_alloc_new w _
theorem Blk.drew (h : Blk w g t cs) : Blk w.drew g t cs := h
theorem Blk.drewN (h : Blk w g t cs) (n : Nat) : Blk (w.drewN n) g t cs := h
theorem Blk.alloc (h : Blk w g t cs) (o : Obj) : Blk (w.alloc o) g t cs := (Below.heap_alloc w o g h.lt).trans h
theorem Blk.set_ (h : Blk w g t cs) (i : Nat) (u : Value) : Blk (w.setCell ⟨g, i, none⟩ u) g t (cs.setIfInBounds i u) := by
  unfold Blk at h ⊢
  simp [World.setCell, Array.getElem?_modify, h]
theorem Blk.far (h : Blk w g t cs) {p : Addr} (hp : g ≠ p.block) (u : Value) : Blk (w.setCell p u) g t cs := (Below.heap_setCell w p u g hp).trans h
theorem Blk.below {B : Nat} (h : Blk w g t cs) (hb : Below B w w') (hg : g < B) : Blk w' g t cs := (hb.block g hg).trans h
theorem Blk.after (h : Blk w g t cs) (hb : Below w.heap.size w w') : Blk w' g t cs := (hb.block g h.lt).trans h
theorem Blk.grown {row : Option Nat} (h : Blk w g t cs) (hb : w.grownBy w' row) (hg : some g ≠ row) : Blk w' g t cs := (hb.block g h.lt hg).trans h
theorem Blk.ne_ {g' : Nat} {t' : TypeId} {cs' : Array Value} (h : Blk w g t cs) (h' : Blk w g' t' cs') (hne : t ≠ t') : g ≠ g' := by
  rintro rfl
  unfold Blk at h h'
  rw [h] at h'
  injection h' with h'
  injection h' with _ ht
  exact hne ht
end
theorem cell_allocd {w : World} {a : Addr} {v : Value} (h : w.cell? a = some v) (o : Obj) : (w.alloc o).cell? a = some v := pw_cell_below ((Below.refl _ _).alloc (Nat.le_refl _) o) h

/-! ### rows that are read -/
theorem at_intN {w : World} {k : IntKind} {A : Option Addr} {n : Nat} {xs : List Int} (h : (Kd.int k).C w A n xs) (i : Nat) (hi : i < xs.length) : ∃ ad, A = some ad ∧ w.cell? (ad.add i) = some (.int k xs[i]) := by
  obtain ⟨ad, e, hc⟩ := Kd.at_int h i (by omega) (by have := h.1; omega)
  refine ⟨ad, e, ?_⟩
  rw [Int.toNat_natCast] at hc
  rw [hc]
  simp [rd, List.getD_eq_getElem?_getD, hi]
theorem at_slice {α : Type} {d : Kd α} {e : TypeId} {w : World} {A : Option Addr} {n : Nat} {ps : List (List α)} (h : (Kd.slice e d).C w A n ps) (i : Nat) (hi : i < ps.length) :
    ∃ ad A' c', A = some ad ∧ w.cell? (ad.add i) = some (.slice A' ps[i].length c') ∧ ps[i].length ≤ c' ∧ d.C w A' ps[i].length ps[i] := by
  obtain ⟨ad, c, e1, _, hK, hc⟩ := Kd.C_get h [] i (by omega) (by have := h.1; omega)
  have e2 : ps.getD (i : Int).toNat [] = ps[i] := by simp [List.getD_eq_getElem?_getD, hi]
  rw [e2] at hK
  obtain ⟨A', c', rfl, hl, hC⟩ := hK
  refine ⟨ad, A', c', e1, ?_, hl, hC⟩
  have h0 := hc 0 _ rfl
  rw [Int.toNat_natCast] at h0
  have h1 : i * (Kd.slice e d).sz + 0 = i := by show i * 1 + 0 = i; omega
  rwa [h1] at h0
/-- A literal of numbers, read. -/
theorem C_lit_int (W : World) (b : Nat) (hb : b = W.heap.size) (k : IntKind) (xs : List Int) (cells : Array Value) (hc : cells = (nums k xs).toArray) (e : TypeId) (hm : xs.length ≤ 9223372036854775807) :
    (Kd.int k).C (W.alloc (.cells cells e)) (some ⟨b, 0, none⟩) xs.length xs := by
  subst hb hc
  obtain ⟨A, c, hv, hR⟩ := own_reads (own_lit W 0 e k xs (Nat.zero_le _) hm)
  injection hv with h1 h2 h3
  subst h1
  exact Kd.C_of_reads (d := (0 : Int)) (h1 := fun _ => rfl) hR
/-- A block that is known whole, read as a row. -/
theorem C_of_reps {α : Type} {d : Kd α} {w : World} {g : Nat} {t : TypeId} {cs : Array Value} (hB : Blk w g t cs) (ps : List α) (hr : Reps (d.K w) d.sz ps cs.toList) (hm : ps.length ≤ 9223372036854775807) : d.C w (some ⟨g, 0, none⟩) ps.length ps := by
  refine ⟨rfl, hm, fun _ => ⟨_, rfl, fun j p hj => ⟨_, ?_, hr.2 j p hj, fun i u hu => ?_⟩⟩⟩
  · exact d.K_len (hr.2 j p hj)
  · rw [add_plain, hB.cell]
    rw [List.getElem?_take, List.getElem?_drop] at hu
    split at hu
    · rw [← Array.getElem?_toList]
      exact hu
    · cases hu
theorem Reps_one {α : Type} {R : α → List Value → Prop} {size : Nat} {p : α} {c : List Value} (h : R p c) (hc : c.length = size) : Reps R size [p] c := by
  have := Reps.snoc (Reps.none R size) h hc
  simpa using this
theorem Reps_two {α : Type} {R : α → List Value → Prop} {size : Nat} {p q : α} {c e : List Value} (h : R p c) (hc : c.length = size) (h' : R q e) (he : e.length = size) : Reps R size [p, q] (c ++ e) := by
  have := Reps.snoc (Reps_one h hc) h' he
  simpa using this
/-- A row of slices that a call has just laid, read: two of them. -/
theorem C_lit_two {α : Type} (d : Kd α) (W : World) (b : Nat) (hb : b = W.heap.size) (e t : TypeId) (A1 A2 : Option Addr) (n1 n2 c1 c2 : Nat) (x1 x2 : List α) (hn1 : x1.length = n1) (hn2 : x2.length = n2) (h1 : d.C W A1 x1.length x1) (h2 : d.C W A2 x2.length x2) (hc1 : n1 ≤ c1) (hc2 : n2 ≤ c2) :
    (Kd.slice e d).C (W.alloc (.cells #[.slice A1 n1 c1, .slice A2 n2 c2] t)) (some ⟨b, 0, none⟩) [x1, x2].length [x1, x2] := by
  subst hb hn1 hn2
  have hB : Below W.heap.size W (W.alloc (.cells #[.slice A1 x1.length c1, .slice A2 x2.length c2] t)) := (Below.refl _ _).alloc (Nat.le_refl _) _
  refine ⟨rfl, by simp, fun _ => ⟨_, rfl, fun j p hj => ?_⟩⟩
  match j, hj with
  | 0, hj =>
    obtain rfl : x1 = p := by simpa using hj
    refine ⟨[.slice A1 x1.length c1], rfl, ⟨A1, c1, rfl, hc1, Kd.C_below h1 hB⟩, fun i u hu => ?_⟩
    match i, hu with
    | 0, hu =>
      obtain rfl : Value.slice A1 x1.length c1 = u := by simpa using hu
      exact (Blk.new W t _).cell 0
    | i + 1, hu => simp at hu
  | 1, hj =>
    obtain rfl : x2 = p := by simpa using hj
    refine ⟨[.slice A2 x2.length c2], rfl, ⟨A2, c2, rfl, hc2, Kd.C_below h2 hB⟩, fun i u hu => ?_⟩
    match i, hu with
    | 0, hu =>
      obtain rfl : Value.slice A2 x2.length c2 = u := by simpa using hu
      have e1 : (⟨W.heap.size, 0, none⟩ : Addr).add (1 * (Kd.slice e d).sz + 0) = ⟨W.heap.size, 1, none⟩ := by rw [add_plain]; rfl
      rw [e1]
      exact (Blk.new W t _).cell 1
    | i + 1, hu => simp at hu
  | j + 2, hj => simp at hj

/-! ### a string of bytes, in a region that draws -/
theorem conv_pack {P : Program} {W : World} {base : Nat} {e src dst el : TypeId} {ok : Nat → Prop} {v : Value} {xs : List Int} (hs : P.underlying src = some (.slice el)) (he : P.underlying el = some (.int .u8)) (hd : P.underlying dst = some .string) (h : (Kd.int .u8).R e W base ok v xs) :
    ∃ CV : World → Prop, CV W ∧ (∀ w', CV w' → (convert src dst v).run P w' = .ok (.string (strOfNums xs)) w') ∧ (∀ (w' : World) (b : Nat) (ok' : Nat → Prop), (Kd.int .u8).R e w' b ok' v xs → CV w') :=
  ⟨fun w' => (convert src dst v).run P w' = .ok (.string (strOfNums xs)) w', own_string hs he hd (Kd.own_of_R h), fun _ h => h, fun _ _ _ h => own_string hs he hd (Kd.own_of_R h)⟩

/-! ### lists of lists, up to a place -/
def tk {α : Type} (ps : List (List α)) (k : Nat) : List α := (ps.take k).flatten
theorem tk_zero {α : Type} (ps : List (List α)) : tk ps 0 = [] := by simp [tk]
theorem tk_succ {α : Type} (ps : List (List α)) (k : Nat) (hk : k < ps.length) : tk ps (k + 1) = tk ps k ++ ps[k] := by
  unfold tk
  rw [List.take_succ_eq_append_getElem hk, List.flatten_append]
  simp
theorem tk_all {α : Type} (ps : List (List α)) (k : Nat) (hk : ps.length ≤ k) : tk ps k = ps.flatten := by
  unfold tk
  rw [List.take_of_length_le hk]
theorem tk_le {α : Type} (ps : List (List α)) (k : Nat) : (tk ps k).length ≤ ps.flatten.length := by
  unfold tk
  conv => rhs; rw [← List.take_append_drop k ps, List.flatten_append, List.length_append]
  omega

/-! ### results -/
/-- A row of the call's own is handed back. -/
def OwnRes {α : Type} (d : Kd α) (t : TypeId) (w : World) (xs : List α) (e : Ending) (w' : World) : Prop := ∃ v, e = .returned v ∧ d.R t w' w.heap.size (fun _ => True) v xs ∧ Below w.heap.size w w'

/-! ### the first that fits -/
def ixf {α : Type} (p : α → Bool) (xs : List α) : Int := if xs.any p then ((xs.findIdx p : Nat) : Int) else -1
theorem ixf_hit {α : Type} (p : α → Bool) (xs : List α) (k : Nat) (hk : k < xs.length) (h : p xs[k] = true) (hb : ∀ j (hj : j < xs.length), j < k → p xs[j] = false) : ixf p xs = k := by
  have h1 : xs.any p = true := List.any_eq_true.2 ⟨xs[k], List.getElem_mem hk, h⟩
  have h2 : xs.findIdx p = k := by
    rw [List.findIdx_eq hk]
    exact ⟨h, fun j hj => hb j (by omega) hj⟩
  simp [ixf, h1, h2]
theorem ixf_miss {α : Type} (p : α → Bool) (xs : List α) (hb : ∀ j (hj : j < xs.length), p xs[j] = false) : ixf p xs = -1 := by
  have h1 : xs.any p = false := by
    rw [List.any_eq_false]
    intro x hx
    obtain ⟨j, hj, rfl⟩ := List.getElem_of_mem hx
    simp [hb j hj]
  simp [ixf, h1]
theorem ixf_any {α : Type} (p : α → Bool) (xs : List α) : decide (0 ≤ ixf p xs) = xs.any p := by
  unfold ixf
  cases h : xs.any p <;> simp
end Go.Proofs.YtjkimfjhfncldaaW.Hb
end

section
/- what an argument's reading gives: its kind, and bounds on its sizes -/
set_option linter.unusedVariables false
set_option linter.unusedSimpArgs false
namespace Go.Proofs.YtjkimfjhfncldaaW.Ho
open Go.RowKit Go.Deep Go.Proofs.YtjkimfjhfncldaaW.PrintWords Go.Proofs.YtjkimfjhfncldaaW.Hb

/-- A reading of type t, no part of it greater than the reach, is a value of kind d that meets Q. -/
def Opens (P : Program) {α : Type} (d : Kd α) (t : TypeId) (Q : α → Prop) : Prop :=
  ∀ {H : Type} (enc : TypeId × Value → H) (w : World) (base : Nat) (spare : Nat → Bool) (held : Bool) (fuel : Nat) (cs : List Value) (x : DataW H × List MemPlace),
    DataW.trod enc P w base spare held fuel t cs = some x → (∀ n ∈ x.1.weights P t, n ≤ reachBytes) → ∃ v, d.K w v cs ∧ Q v
section
variable {P : Program} {t : TypeId}
theorem opens_int {k : IntKind} (ht : P.underlying t = some (.int k)) : Opens P (Kd.int k) t (fun n => (Lit.int k n).wf = true) := by
  intro H enc w base spare held fuel cs x h _
  obtain ⟨n, rfl, _, hw⟩ := DataW.trod_int ht h
  exact ⟨n, rfl, hw⟩
theorem opens_bool (ht : P.underlying t = some .bool) : Opens P Kd.bool t (fun _ => True) := by
  intro H enc w base spare held fuel cs x h _
  obtain ⟨b, rfl, _⟩ := DataW.trod_bool ht h
  exact ⟨b, rfl, trivial⟩
theorem opens_string (ht : P.underlying t = some .string) : Opens P Kd.string t (fun s => s.size ≤ reachBytes) := by
  intro H enc w base spare held fuel cs x h hw
  obtain ⟨s, rfl, rfl, _⟩ := DataW.trod_string ht h
  refine ⟨s, rfl, ?_⟩
  have := hw s.data.toList.length (by simp [DataW.weights])
  rwa [Array.length_toList] at this
theorem weightsAll_mem {H : Type} {e : TypeId} : ∀ {l : List (DataW H)} {d : DataW H}, d ∈ l → ∀ n ∈ d.weights P e, n ∈ DataW.weightsAll P e l
  | a :: l, d, hd, n, hn => by
    simp only [DataW.weightsAll, List.mem_append]
    rcases List.mem_cons.1 hd with rfl | hd
    · exact .inl hn
    · exact .inr (weightsAll_mem hd n hn)
  | [], _, hd, _, _ => by simp at hd
theorem opens_slice {α : Type} {d : Kd α} {e : TypeId} {Q : α → Prop} (ht : P.underlying t = some (.slice e)) (hs : P.cellsOf e = d.sz) (hp : Opens P d e Q) :
    Opens P (Kd.slice e d) t (fun xs => xs.length * P.bytesOf e ≤ reachBytes ∧ xs.length ≤ maxLen ∧ ∀ x ∈ xs, Q x) := by
  intro H enc w base spare held fuel cs x h hw
  rcases open_slice ht h with ⟨rfl, _⟩ | ⟨a, len, cap, m, n, D, Pl, rfl, hb, hl, hm, hmm, rfl, hi⟩
  · exact ⟨[], ⟨none, 0, rfl, Nat.le_refl _, Kd.C_nil d w⟩, by simp, by simp, by simp⟩
  · have hlm : len ≤ m := by rw [hmm]; split <;> omega
    have hex : ∀ i : Fin len, ∃ v : α, (∃ cs', w.cells? base (a.add (i.1 * P.cellsOf e)) (P.cellsOf e) = some cs' ∧ d.K w v cs') ∧ Q v := by
      intro i
      obtain ⟨cs', hc, ht'⟩ := hi i.1 (by have := i.2; omega)
      obtain ⟨v, hK, hQ⟩ := hp enc w base spare held n cs' _ ht' (fun k hk => hw k (by
        simp only [DataW.weights, ht, List.mem_cons, List.mem_append]
        exact .inr (.inl (weightsAll_mem (List.mem_map.2 ⟨i.1, List.mem_range.2 i.2, rfl⟩) k hk))))
      exact ⟨v, ⟨cs', hc, hK⟩, hQ⟩
    have hlen : (List.ofFn fun i : Fin len => (hex i).choose).length = len := by simp
    have hmax : len ≤ 9223372036854775807 := by unfold maxLen at hm; omega
    refine ⟨List.ofFn fun i : Fin len => (hex i).choose, ⟨some a, cap, by rw [hlen], by rw [hlen]; exact hl, ?_⟩, ?_, ?_, ?_⟩
    · refine ⟨rfl, by rw [hlen]; exact hmax, fun _ => ⟨a, rfl, fun j p hj => ?_⟩⟩
      have hjl : j < len := by
        have := (List.getElem?_eq_some_iff.1 hj).1
        rwa [hlen] at this
      obtain ⟨⟨cs', hc, hK⟩, _⟩ := (hex ⟨j, hjl⟩).choose_spec
      have hpj : (hex ⟨j, hjl⟩).choose = p := by simpa [hjl] using hj
      rw [hpj] at hK
      obtain ⟨_, hcl, hat⟩ := World.cells?_some hc
      refine ⟨cs', by rw [hcl, hs], hK, fun i u hu => ?_⟩
      have hil : i < P.cellsOf e := by
        have := (List.getElem?_eq_some_iff.1 hu).1
        rwa [hcl] at this
      have := hat i hil
      rw [Go.Deep.add_add, hu, hs] at this
      exact this
    · rw [hlen]
      have := hw ((((List.range len).map D).length + ((List.range (m - len)).map fun j => D (len + j)).length) * P.bytesOf e) (by simp only [DataW.weights, ht, List.mem_cons]; exact .inl trivial)
      simp only [List.length_map, List.length_range] at this
      exact Nat.le_trans (Nat.mul_le_mul_right _ (by omega)) this
    · rw [hlen]; omega
    · intro x hx
      obtain ⟨i, hi', rfl⟩ := List.getElem_of_mem hx
      have hil : i < len := by rwa [hlen] at hi'
      have := (hex ⟨i, hil⟩).choose_spec.2
      simpa using this
theorem weights_field {H : Type} {fs : Array Field} {parts : List (DataW H)} {j : Nat} {tj : TypeId} {d : DataW H} (ht : P.underlying t = some (.struct fs)) (h1 : (fs.toList.map (·.type))[j]? = some tj) (h2 : parts[j]? = some d) : ∀ n ∈ d.weights P tj, n ∈ (DataW.agg parts).weights P t := by
  intro n hn
  simp only [DataW.weights, ht]
  exact DataW.weights_mem_each h1 h2 n hn
end
end Go.Proofs.YtjkimfjhfncldaaW.Ho
end

section
/- readings, with the bulk of what is read -/
set_option linter.unusedVariables false
set_option linter.unusedSimpArgs false
namespace Go.Proofs.YtjkimfjhfncldaaW.Hu
open Go.RowKit Go.Deep Go.Proofs.YtjkimfjhfncldaaW.PrintWords Go.Proofs.YtjkimfjhfncldaaW.Hb Go.Proofs.YtjkimfjhfncldaaW.Ho Go.Proofs.Ytjkimfjhfncldaa
def OpensU (P : Program) {α : Type} (d : Kd α) (t : TypeId) (Q : α → Prop) (bk : α → Nat) : Prop :=
  ∀ {H : Type} (enc : TypeId × Value → H) (w : World) (base : Nat) (spare : Nat → Bool) (held : Bool) (fuel : Nat) (cs : List Value) (x : DataW H × List MemPlace),
    DataW.trod enc P w base spare held fuel t cs = some x → (∀ n ∈ x.1.weights P t, n ≤ reachBytes) → ∃ v, d.K w v cs ∧ Q v ∧ bk v ≤ Rows.uptoBulk x.1
section
variable {P : Program} {t : TypeId}
theorem one_le {H : Type} (d : DataW H) : 1 ≤ Rows.uptoBulk d := by
  cases d with
  | lit l => cases l <;> simp [Rows.uptoBulk]
  | _ => simp [Rows.uptoBulk]
theorem opensU_int {k : IntKind} (ht : P.underlying t = some (.int k)) : OpensU P (Kd.int k) t (fun n => (Lit.int k n).wf = true) (fun _ => 1) := by
  intro H enc w base spare held fuel cs x h hw
  obtain ⟨v, hK, hQ⟩ := opens_int ht enc w base spare held fuel cs x h hw
  exact ⟨v, hK, hQ, one_le _⟩
theorem opensU_bool (ht : P.underlying t = some .bool) : OpensU P Kd.bool t (fun _ => True) (fun _ => 1) := by
  intro H enc w base spare held fuel cs x h hw
  obtain ⟨v, hK, hQ⟩ := opens_bool ht enc w base spare held fuel cs x h hw
  exact ⟨v, hK, hQ, one_le _⟩
theorem opensU_string (ht : P.underlying t = some .string) : OpensU P Kd.string t (fun s => s.size ≤ reachBytes) (fun s => s.size + 1) := by
  intro H enc w base spare held fuel cs x h hw
  obtain ⟨s, rfl, rfl, _⟩ := DataW.trod_string ht h
  refine ⟨s, rfl, ?_, ?_⟩
  · have := hw s.data.toList.length (by simp [DataW.weights])
    rwa [Array.length_toList] at this
  · simp [Rows.uptoBulk]
theorem sum_le {H α : Type} (f : α → Nat) (g : Nat → DataW H) : ∀ (n : Nat) (l : List α), l.length = n → (∀ i (hi : i < l.length), f l[i] ≤ Rows.uptoBulk (g i)) → (l.map f).sum ≤ Rows.uptoBulkAll ((List.range n).map g) := by
  intro n l hl h
  have gen : ∀ (l : List α) (a : Nat), (∀ i (hi : i < l.length), f l[i] ≤ Rows.uptoBulk (g (a + i))) → (l.map f).sum ≤ Rows.uptoBulkAll ((List.range' a l.length).map g) := by
    intro l
    induction l with
    | nil => intro a _; simp
    | cons y l ih =>
      intro a h
      have h0 := h 0 (by simp)
      have ht := ih (a + 1) (fun i hi => by have := h (i + 1) (by simpa using hi); simpa [Nat.add_assoc, Nat.add_comm 1 i] using this)
      simp only [List.map_cons, List.sum_cons, List.length_cons, List.range'_succ, Rows.uptoBulkAll]
      simp only [List.getElem_cons_zero, Nat.add_zero] at h0
      omega
  have := gen l 0 (by simpa using h)
  rwa [hl, ← List.range_eq_range'] at this
theorem opensU_slice {α : Type} {d : Kd α} {e : TypeId} {Q : α → Prop} {bk : α → Nat} {B : Nat} (ht : P.underlying t = some (.slice e)) (hs : P.cellsOf e = d.sz) (hB : P.bytesOf e = B) (hp : OpensU P d e Q bk) :
    OpensU P (Kd.slice e d) t (fun xs => xs.length * B ≤ reachBytes ∧ xs.length ≤ maxLen ∧ ∀ x ∈ xs, Q x) (fun xs => (xs.map bk).sum + 1) := by
  subst hB
  intro H enc w base spare held fuel cs x h hw
  rcases open_slice ht h with ⟨rfl, hnil⟩ | ⟨a, len, cap, m, n, D, Pl, rfl, hb, hl, hm, hmm, rfl, hi⟩
  · exact ⟨[], ⟨none, 0, rfl, Nat.le_refl _, Kd.C_nil d w⟩, by simp, by simpa using one_le _⟩
  · have hlm : len ≤ m := by rw [hmm]; split <;> omega
    have hex : ∀ i : Fin len, ∃ v : α, (∃ cs', w.cells? base (a.add (i.1 * P.cellsOf e)) (P.cellsOf e) = some cs' ∧ d.K w v cs') ∧ Q v ∧ bk v ≤ Rows.uptoBulk (D i.1) := by
      intro i
      obtain ⟨cs', hc, ht'⟩ := hi i.1 (by have := i.2; omega)
      obtain ⟨v, hK, hQ, hbk⟩ := hp enc w base spare held n cs' _ ht' (fun k hk => hw k (by
        simp only [DataW.weights, ht, List.mem_cons, List.mem_append]
        exact .inr (.inl (weightsAll_mem (List.mem_map.2 ⟨i.1, List.mem_range.2 i.2, rfl⟩) k hk))))
      exact ⟨v, ⟨cs', hc, hK⟩, hQ, hbk⟩
    have hlen : (List.ofFn fun i : Fin len => (hex i).choose).length = len := by simp
    have hmax : len ≤ 9223372036854775807 := by unfold maxLen at hm; omega
    refine ⟨List.ofFn fun i : Fin len => (hex i).choose, ⟨some a, cap, by rw [hlen], by rw [hlen]; exact hl, ?_⟩, ⟨?_, ?_, ?_⟩, ?_⟩
    · refine ⟨rfl, by rw [hlen]; exact hmax, fun _ => ⟨a, rfl, fun j p hj => ?_⟩⟩
      have hjl : j < len := by
        have := (List.getElem?_eq_some_iff.1 hj).1
        rwa [hlen] at this
      obtain ⟨⟨cs', hc, hK⟩, _⟩ := (hex ⟨j, hjl⟩).choose_spec
      have hpj : (hex ⟨j, hjl⟩).choose = p := by simpa [hjl] using hj
      rw [hpj] at hK
      obtain ⟨_, hcl, hat⟩ := World.cells?_some hc
      refine ⟨cs', by rw [hcl, hs], hK, fun i u hu => ?_⟩
      have hil : i < P.cellsOf e := by
        have := (List.getElem?_eq_some_iff.1 hu).1
        rwa [hcl] at this
      have := hat i hil
      rw [Go.Deep.add_add, hu, hs] at this
      exact this
    · rw [hlen]
      have := hw ((((List.range len).map D).length + ((List.range (m - len)).map fun j => D (len + j)).length) * P.bytesOf e) (by simp only [DataW.weights, ht, List.mem_cons]; exact .inl trivial)
      simp only [List.length_map, List.length_range] at this
      exact Nat.le_trans (Nat.mul_le_mul_right _ (by omega)) this
    · rw [hlen]; omega
    · intro x hx
      obtain ⟨i, hi', rfl⟩ := List.getElem_of_mem hx
      have hil : i < len := by rwa [hlen] at hi'
      have := (hex ⟨i, hil⟩).choose_spec.2.1
      simpa using this
    · have := sum_le bk D len _ hlen (fun i hi' => by
        have hil : i < len := by rwa [hlen] at hi'
        have := (hex ⟨i, hil⟩).choose_spec.2.2
        simpa using this)
      show (List.map bk _).sum + 1 ≤ Rows.uptoBulk (DataW.slice _ _)
      simp only [Rows.uptoBulk]
      omega
end
end Go.Proofs.YtjkimfjhfncldaaW.Hu
end

section
-- written by hprint.py (a program of these sessions) out of the translation; Lean checks it
namespace Go.Proofs.Ytjkimfjhfncldaa.Q
open Go.RowKit Go.Proofs.YtjkimfjhfncldaaW.Hb Go.Proofs.YtjkimfjhfncldaaW.PrintWords Go.Proofs.YtjkimfjhfncldaaW.PrintLast Go.Proofs.YtjkimfjhfncldaaW.PrintMore
attribute [local go_sem] max2_int min2_int max_two min_two max_three min_three max_four min_four   -- for this text's walks alone
set_option linter.unusedVariables false
set_option linter.unusedSimpArgs false



def errW : Option Int → Value
  | none => .nilIface
  | some c => .iface 0 (.int .i64 c)
theorem errW_none : errW none = .nilIface := rfl
theorem errW_some (c : Int) : errW (some c) = .iface 0 (.int .i64 c) := rfl

theorem info3 : (Try.prog.info? 3).map (fun i => (i.zero, i.size, i.bytes)) = some (some (.int .i64 0), 1, 8) := by kernel_rfl
theorem info5 : (Try.prog.info? 5).map (fun i => (i.zero, i.size, i.bytes)) = some (some (.int .u8 0), 1, 1) := by kernel_rfl
theorem info9 : (Try.prog.info? 9).map (fun i => (i.zero, i.size, i.bytes)) = some (some (.string ⟨#[]⟩), 1, 16) := by kernel_rfl
theorem info22 : (Try.prog.info? 22).map (fun i => (i.zero, i.size, i.bytes)) = some (some (.slice none 0 0), 1, 24) := by kernel_rfl
theorem info49 : (Try.prog.info? 49).map (fun i => (i.zero, i.size, i.bytes)) = some (some (.agg #[(.int .i64 0), (.slice none 0 0), (.slice none 0 0)]), 3, 56) := by kernel_rfl
-- the values' own types
def rd_L1 (xs : List (List Int)) (i : Int) : (List Int) := xs.getD i.toNat ([] : List Int)
theorem at_L1 {w : World} {A : Option Addr} {n : Nat} {xs : List (List Int)} (h : Kd.C (Kd.slice 5 (Kd.int .u8)) w A n xs) (i : Int) (h0 : 0 ≤ i) (h1 : i < n) : ∃ ad A0 c0, A = some ad ∧ w.cell? (ad.add i.toNat) = some (.slice A0 (rd_L1 xs i).length c0) ∧ (rd_L1 xs i).length ≤ c0 ∧ (Kd.int .u8).C w A0 (rd_L1 xs i).length (rd_L1 xs i) := by
  obtain ⟨ad, c, e, _, hK, hc0⟩ := Kd.C_get h ([] : List Int) i h0 h1
  have hc : ∀ j u, c[j]? = some u → w.cell? (ad.add (i.toNat * 1 + j)) = some u := hc0
  obtain ⟨A0, c0, rfl, l0, g0⟩ := hK
  exact ⟨ad, A0, c0, e, by have hq := hc 0 _ rfl; rwa [Nat.mul_one, Nat.add_zero] at hq, l0, g0⟩

def rd_L3 (xs : List (List Int)) (i : Int) : (List Int) := xs.getD i.toNat ([] : List Int)
theorem at_L3 {w : World} {A : Option Addr} {n : Nat} {xs : List (List Int)} (h : Kd.C (Kd.slice 3 (Kd.int .i64)) w A n xs) (i : Int) (h0 : 0 ≤ i) (h1 : i < n) : ∃ ad A0 c0, A = some ad ∧ w.cell? (ad.add i.toNat) = some (.slice A0 (rd_L3 xs i).length c0) ∧ (rd_L3 xs i).length ≤ c0 ∧ (Kd.int .i64).C w A0 (rd_L3 xs i).length (rd_L3 xs i) := by
  obtain ⟨ad, c, e, _, hK, hc0⟩ := Kd.C_get h ([] : List Int) i h0 h1
  have hc : ∀ j u, c[j]? = some u → w.cell? (ad.add (i.toNat * 1 + j)) = some u := hc0
  obtain ⟨A0, c0, rfl, l0, g0⟩ := hK
  exact ⟨ad, A0, c0, e, by have hq := hc 0 _ rfl; rwa [Nat.mul_one, Nat.add_zero] at hq, l0, g0⟩

def rd_L5 (xs : List (List ByteArray)) (i : Int) : (List ByteArray) := xs.getD i.toNat ([] : List ByteArray)
theorem at_L5 {w : World} {A : Option Addr} {n : Nat} {xs : List (List ByteArray)} (h : Kd.C (Kd.slice 9 Kd.string) w A n xs) (i : Int) (h0 : 0 ≤ i) (h1 : i < n) : ∃ ad A0 c0, A = some ad ∧ w.cell? (ad.add i.toNat) = some (.slice A0 (rd_L5 xs i).length c0) ∧ (rd_L5 xs i).length ≤ c0 ∧ Kd.string.C w A0 (rd_L5 xs i).length (rd_L5 xs i) := by
  obtain ⟨ad, c, e, _, hK, hc0⟩ := Kd.C_get h ([] : List ByteArray) i h0 h1
  have hc : ∀ j u, c[j]? = some u → w.cell? (ad.add (i.toNat * 1 + j)) = some u := hc0
  obtain ⟨A0, c0, rfl, l0, g0⟩ := hK
  exact ⟨ad, A0, c0, e, by have hq := hc 0 _ rfl; rwa [Nat.mul_one, Nat.add_zero] at hq, l0, g0⟩

/-! #### struct type 49 -/
structure S49 where
  f0 : Int
  f1 : (List Int)
  f2 : (List ByteArray)
def z49 : S49 := ⟨(0 : Int), ([] : List Int), ([] : List ByteArray)⟩
def k49 : Kd S49 := Kd.iso (Kd.pair (Kd.int .i64) (Kd.pair (Kd.slice 3 (Kd.int .i64)) (Kd.slice 9 Kd.string))) (fun x : S49 => (x.f0, x.f1, x.f2))
theorem k49_open {w : World} {x : S49} {cs : List Value} (h : k49.K w x cs) : ∃ A1 c1 A2 c2, cs = [.int .i64 x.f0, .slice A1 x.f1.length c1, .slice A2 x.f2.length c2] ∧ x.f1.length ≤ c1 ∧ (Kd.int .i64).C w A1 x.f1.length x.f1 ∧ x.f2.length ≤ c2 ∧ Kd.string.C w A2 x.f2.length x.f2 := by
  obtain ⟨_, _, rfl, rfl, ⟨_, _, rfl, ⟨A1, c1, rfl, l1, g1⟩, ⟨A2, c2, rfl, l2, g2⟩⟩⟩ := h
  exact ⟨A1, c1, A2, c2, rfl, l1, g1, l2, g2⟩
theorem k49_openM {w : World} {base : Nat} {ok : Nat → Prop} {x : S49} {cs : List Value} (h : k49.M w base ok x cs) : ∃ v1 v2, cs = [.int .i64 x.f0, v1, v2] ∧ (Kd.int .i64).R 3 w base ok v1 x.f1 ∧ Kd.string.R 9 w base ok v2 x.f2 := by
  obtain ⟨_, _, rfl, rfl, ⟨_, _, rfl, ⟨v1, rfl, g1⟩, ⟨v2, rfl, g2⟩⟩⟩ := h
  exact ⟨v1, v2, rfl, g1, g2⟩
theorem k49_mk (w : World) (x : S49) {A1 : Option Addr} {c1 : Nat} (l1 : x.f1.length ≤ c1) (g1 : (Kd.int .i64).C w A1 x.f1.length x.f1) {A2 : Option Addr} {c2 : Nat} (l2 : x.f2.length ≤ c2) (g2 : Kd.string.C w A2 x.f2.length x.f2) : k49.K w x [.int .i64 x.f0, .slice A1 x.f1.length c1, .slice A2 x.f2.length c2] := ⟨[.int .i64 x.f0], [.slice A1 x.f1.length c1, .slice A2 x.f2.length c2], rfl, rfl, ⟨[.slice A1 x.f1.length c1], [.slice A2 x.f2.length c2], rfl, ⟨A1, c1, rfl, l1, g1⟩, ⟨A2, c2, rfl, l2, g2⟩⟩⟩
theorem k49_mkM (w : World) (base : Nat) (ok : Nat → Prop) (x : S49) {v1 : Value} (g1 : (Kd.int .i64).R 3 w base ok v1 x.f1) {v2 : Value} (g2 : Kd.string.R 9 w base ok v2 x.f2) : k49.M w base ok x [.int .i64 x.f0, v1, v2] := ⟨[.int .i64 x.f0], [v1, v2], rfl, rfl, ⟨[v1], [v2], rfl, ⟨v1, rfl, g1⟩, ⟨v2, rfl, g2⟩⟩⟩
def rd_T49 (xs : List S49) (i : Int) : S49 := xs.getD i.toNat z49
theorem at_T49 {w : World} {A : Option Addr} {n : Nat} {xs : List S49} (h : Kd.C k49 w A n xs) (i : Int) (h0 : 0 ≤ i) (h1 : i < n) : ∃ ad A1 c1 A2 c2, A = some ad ∧ w.cell? (ad.add (i.toNat * 3)) = some (.int .i64 (rd_T49 xs i).f0) ∧ w.cell? ⟨(ad.add (i.toNat * 3)).block, (ad.add (i.toNat * 3)).off + 1, none⟩ = some (.slice A1 (rd_T49 xs i).f1.length c1) ∧ w.cell? ⟨(ad.add (i.toNat * 3)).block, (ad.add (i.toNat * 3)).off + 2, none⟩ = some (.slice A2 (rd_T49 xs i).f2.length c2) ∧ (rd_T49 xs i).f1.length ≤ c1 ∧ (Kd.int .i64).C w A1 (rd_T49 xs i).f1.length (rd_T49 xs i).f1 ∧ (rd_T49 xs i).f2.length ≤ c2 ∧ Kd.string.C w A2 (rd_T49 xs i).f2.length (rd_T49 xs i).f2 := by
  obtain ⟨ad, c, e, _, hK, hc0⟩ := Kd.C_get h z49 i h0 h1
  have hc : ∀ j u, c[j]? = some u → w.cell? (ad.add (i.toNat * 3 + j)) = some u := hc0
  obtain ⟨A1, c1, A2, c2, rfl, l1, g1, l2, g2⟩ := k49_open hK
  exact ⟨ad, A1, c1, A2, c2, e, hc 0 _ rfl, by rw [← add_field _ _ 1 (by omega)]; exact hc 1 _ rfl, by rw [← add_field _ _ 2 (by omega)]; exact hc 2 _ rfl, l1, g1, l2, g2⟩

end Go.Proofs.Ytjkimfjhfncldaa.Q
end

section
-- written by hprint.py (a program of these sessions) out of the translation; Lean checks it
namespace Go.Proofs.Ytjkimfjhfncldaa.Q
open Go.RowKit Go.Proofs.YtjkimfjhfncldaaW.Hb Go.Proofs.YtjkimfjhfncldaaW.PrintWords Go.Proofs.YtjkimfjhfncldaaW.PrintLast Go.Proofs.YtjkimfjhfncldaaW.PrintMore
attribute [local go_sem] max2_int min2_int max_two min_two max_three min_three max_four min_four   -- for this text's walks alone
set_option linter.unusedVariables false
set_option linter.unusedSimpArgs false

/-! ### wire_NewWriter: function 22, by hand -/
/-- A writer that was made, its block g, its bytes; S: the blocks that are its own. -/
def Wr (w : World) (S : Nat → Prop) (g : Nat) (l : List Int) : Prop := ∃ v, Blk w g 70 #[v, .bool true] ∧ S g ∧ (Kd.int .u8).R 5 w 0 (fun k => S k ∧ k ≠ g) v l
theorem Wr.lt {w : World} {S : Nat → Prop} {g : Nat} {l : List Int} (h : Wr w S g l) : g < w.heap.size := by
  obtain ⟨v, hb, _, _⟩ := h
  exact hb.lt
theorem Wr.kept {w w' : World} {S S2 : Nat → Prop} {g : Nat} {l : List Int} (h : Wr w S g l) (hk : Kept w w' S2) (hd : ∀ k, S k → ¬ S2 k) : Wr w' S g l := by
  obtain ⟨v, hb, hS, hR⟩ := h
  exact ⟨v, blk_kept hb hk (hd g hS), hS, Kd.R_kept hR hk (fun k ho => hd k ho.1)⟩
theorem Wr.mono {w : World} {S S' : Nat → Prop} {g : Nat} {l : List Int} (h : Wr w S g l) (hs : ∀ k, S k → S' k) : Wr w S' g l := by
  obtain ⟨v, hb, hS, hR⟩ := h
  exact ⟨v, hb, hs g hS, Kd.R_mono hR (fun k hk => ⟨hs k hk.1, hk.2⟩)⟩
theorem Wr.below {w w' : World} {S : Nat → Prop} {g : Nat} {l : List Int} (h : Wr w S g l) (hb : Below w.heap.size w w') : Wr w' S g l := h.kept (Kept.of_below hb (fun _ => False)) (fun _ _ hk => hk)
/-- What a writer's call does to the world. -/
def Fr (w w' : World) (S : Nat → Prop) : Prop := Below 0 w w' ∧ Kept w w' S
theorem Fr.of_below {w w' : World} (h : Below w.heap.size w w') (S : Nat → Prop) : Fr w w' S := ⟨h.mono (Nat.zero_le _), Kept.of_below h S⟩
theorem Fr.below {w w' : World} {S : Nat → Prop} {B : Nat} (h : Fr w w' S) (hB : B ≤ w.heap.size) (hS : ∀ k, S k → B ≤ k) : Below B w w' :=
  ⟨h.1.os, h.1.tape, h.1.output, h.1.size, fun k hk => h.2.2 k (by omega) (fun hs => by have := hS k hs; omega)⟩
theorem Fr.then_ {w w' w2 : World} {S S2 : Nat → Prop} (h : Fr w w' S) (k : Fr w' w2 S2) (hs : ∀ k, S2 k → S k ∨ w.heap.size ≤ k) : Fr w w2 S := ⟨h.1.trans k.1, h.2.then_ k.2 hs⟩
/-- The blocks of a writer behind a call. -/
def SS (S : Nat → Prop) (w w' : World) (k : Nat) : Prop := S k ∨ w.heap.size ≤ k ∧ k < w'.heap.size
set_option maxRecDepth 100000 in
theorem wire_NewWriter.calls (w : World) : Calls Try.prog 22 #[] w fun e w' => ∃ g, e = .returned (.pointer (some ⟨g, 0, none⟩)) ∧ Wr w' (fun k => k = g) g [] ∧ w.heap.size ≤ g ∧ Below w.heap.size w w' := by
  have hB := (Below.refl w.heap.size w).alloc (Nat.le_refl _) (.cells #[.slice none 0 0, .bool true] 70)
  go_enter Try.func22, Try.ntmps22
  go_wp2
  go_ret
  exact ⟨_, rfl, ⟨.slice none 0 0, Blk.new w _ _, rfl, Kd.R_nil _ _ _ _ _⟩, Nat.le_refl _, hB⟩


end Go.Proofs.Ytjkimfjhfncldaa.Q
end

section
-- written by hprint.py (a program of these sessions) out of the translation; Lean checks it
namespace Go.Proofs.Ytjkimfjhfncldaa.Q
open Go.RowKit Go.Proofs.YtjkimfjhfncldaaW.Hb Go.Proofs.YtjkimfjhfncldaaW.PrintWords Go.Proofs.YtjkimfjhfncldaaW.PrintLast Go.Proofs.YtjkimfjhfncldaaW.PrintMore
attribute [local go_sem] max2_int min2_int max_two min_two max_three min_three max_four min_four   -- for this text's walks alone
set_option linter.unusedVariables false
set_option linter.unusedSimpArgs false

/-! ### wire_Writer_none: function 51, by hand -/
set_option maxRecDepth 100000 in
theorem wire_Writer_none.calls (g : Nat) (v : Value) (mb : Bool) (w : World) (hb : Blk w g 70 #[v, .bool mb]) : Calls Try.prog 51 #[.pointer (some ⟨g, 0, none⟩)] w fun e w' => e = .returned (.bool (!mb)) ∧ w' = w := by
  have h1 : w.cell? ⟨g, 1, none⟩ = some (.bool mb) := hb.cell 1
  clear hb
  cases mb <;> (go_enter Try.func51, Try.ntmps51; go_wp2; go_ret; exact ⟨rfl, rfl⟩)


end Go.Proofs.Ytjkimfjhfncldaa.Q
end

section
-- written by hprint.py (a program of these sessions) out of the translation; Lean checks it
namespace Go.Proofs.Ytjkimfjhfncldaa.Q
open Go.RowKit Go.Proofs.YtjkimfjhfncldaaW.Hb Go.Proofs.YtjkimfjhfncldaaW.PrintWords Go.Proofs.YtjkimfjhfncldaaW.PrintLast Go.Proofs.YtjkimfjhfncldaaW.PrintMore
attribute [local go_sem] max2_int min2_int max_two min_two max_three min_three max_four min_four   -- for this text's walks alone
set_option linter.unusedVariables false
set_option linter.unusedSimpArgs false

/-! ### slices_Grow_byte_byte: function 59, by hand -/
set_option maxHeartbeats 400000 in
theorem slices_Grow_byte_byte.calls (n : Nat) (w : World) (hn : n * 1 ≤ 140737488355328) :
    Calls Try.prog 59 #[.slice none 0 0, .int .i64 n] w (OwnRes (Kd.int .u8) 5 w []) := by
  rcases Nat.eq_zero_or_pos n with h0 | h0
  · subst h0
    go_enter Try.func59, Try.ntmps59
    go_wp2
    go_ret
    exact ⟨_, rfl, Kd.R_nil _ _ _ _ _, Below.refl _ _⟩
  · go_enter Try.func59, Try.ntmps59
    have hn1 : ¬ (n : Int) < 0 := by omega
    have hn2 : 0 < (n : Int) := by omega
    go_wp2_with ((with_reducible refine gate_builtin (b := .append) (xs := #[.tmp 20, .tmp 21]) rfl ?_); at_builtin; refine Kd.R_append_zeros (Kd.int .u8) (w0 := w) w.heap.size rfl (.tmp 20) (.tmp 21) 22 3 5 (.int .u8 0) 1 rfl Try.underlying22 Try.underlying3 info5 rfl (by decide) (by omega) (.slice none 0 0) [] (0 : Int) (n : Int) (fun _ => True) rfl rfl rfl (fun _ _ => trivial) (Kd.R_nil _ _ _ _ _) (by omega) (Below.refl _ _) (Nat.le_refl _) (by simp only [List.length_nil, Int.toNat_natCast, Nat.zero_add]; exact hn) ?_)
    intro v1 w1 hR hB _ _
    obtain ⟨A, c, rfl⟩ := Kd.R_slice hR
    have HR := Aside0.mk (Kd.R_take hR (Nat.zero_le _))
    have HB := Aside0.mk hB
    clear hR hB
    go_wp2
    go_ret
    exact ⟨_, rfl, HR.out, HB.out⟩


end Go.Proofs.Ytjkimfjhfncldaa.Q
end

section
-- written by hprint.py (a program of these sessions) out of the translation; Lean checks it
namespace Go.Proofs.Ytjkimfjhfncldaa.Q
open Go.RowKit Go.Proofs.YtjkimfjhfncldaaW.Hb Go.Proofs.YtjkimfjhfncldaaW.PrintWords Go.Proofs.YtjkimfjhfncldaaW.PrintLast Go.Proofs.YtjkimfjhfncldaaW.PrintMore
attribute [local go_sem] max2_int min2_int max_two min_two max_three min_three max_four min_four   -- for this text's walks alone
set_option linter.unusedVariables false
set_option linter.unusedSimpArgs false

/-! ### slices_Concat_byte_byte: function 44, by hand -/
def slices_Concat_byte_byte.f (l0 : List (List Int)) : Option (List Int) := if l0.flatten.length ≤ 140737488355328 then some l0.flatten else none
set_option maxRecDepth 100000 in
set_option maxHeartbeats 1000000 in
theorem slices_Concat_byte_byte.walk (A : Option Addr) (n c : Nat) (ps : List (List Int)) (w : World) (hn : ps.length = n) (hr : (Kd.slice 5 (Kd.int .u8)).C w A ps.length ps) (hc : n ≤ c) (hsum : ps.flatten.length * 1 ≤ 140737488355328) :
    Calls Try.prog 44 #[.slice A n c] w (OwnRes (Kd.int .u8) 5 w ps.flatten) := by
  subst hn
  have HR := Aside0.mk hr
  clear hr
  have hm : ps.length ≤ 9223372036854775807 := HR.out.2.1
  go_enter Try.func44, Try.ntmps44
  go_wp2
  go_loop [3, 11] (fun s i => ∃ k : Nat, k ≤ ps.length ∧ i = .int .i64 k ∧ s = .int .i64 (tk ps k).length) (fun _ i => ps.length - (intOf i).toNat)
  case atStart => exact ⟨0, Nat.zero_le _, rfl, by rw [tk_zero]; rfl⟩
  case round =>
    obtain ⟨k, hk, rfl, rfl⟩ := hrel
    have hle := tk_le ps k
    have hle1 := tk_le ps (k + 1)
    by_cases hlt : k < ps.length
    · obtain ⟨ad, A', c', e, hcell, _, _⟩ := at_slice HR.out k hlt
      cases e
      have hs : (tk ps (k + 1)).length = (tk ps k).length + ps[k].length := by rw [tk_succ ps k hlt, List.length_append]
      have hb1 : (tk ps k).length + ps[k].length ≤ ps.flatten.length := by omega
      have HS := Aside0.mk hs
      clear hs
      have hz : ¬ ((tk ps k).length : Int) + (ps[k].length : Int) < 0 := by omega
      go_wp2
      go_round
      case rel => exact ⟨k + 1, by omega, by go_num, by rw [HS.out]; go_num⟩
      case measure => simp [intOf]; omega
    · have HT := Aside0.mk (tk_all ps k (by omega))
      have hl2 : (tk ps k).length * 1 ≤ 140737488355328 := by omega
      go_wp2_with (go_at_call 59; (with_reducible refine (slices_Grow_byte_byte.calls (tk ps k).length _ hl2).mono ?_); rintro e w1 ⟨v, rfl, hR, hB⟩)
      have HRv := Aside0.mk hR
      have HBv := Aside0.mk hB
      clear hR hB hle hle1
      go_loopw [6, 27] (fun s i wr => ∃ (j : Nat), j ≤ ps.length ∧ i = .int .i64 j ∧ Aside0 (Kd.R (Kd.int .u8) 5 wr w.heap.size (fun _ => True) s (tk ps j)) ∧ Aside0 (Below w.heap.size w wr)) (fun _ i _ => ps.length - (intOf i).toNat)
      case atStart => exact ⟨0, Nat.zero_le _, rfl, ⟨by rw [tk_zero]; exact HRv.out⟩, HBv⟩
      case round =>
        obtain ⟨j, hj, rfl, HRj, HB⟩ := hrel
        clear HRv HBv
        by_cases hlt2 : j < ps.length
        · obtain ⟨ad, A', c', e, hcell, hcl, hC⟩ := at_slice HR.out j hlt2
          cases e
          replace hcell := (HB.out.cell (World.block_lt_of_cell? w _ hcell)).trans hcell
          have HC := Aside0.mk (Kd.C_below hC HB.out)
          clear hC
          have HL := Aside0.mk (show ((tk ps j).length + ps[j].length) * 1 ≤ 140737488355328 by
            have h1 := tk_le ps (j + 1)
            rw [tk_succ ps j hlt2, List.length_append] at h1
            omega)
          have HS := Aside0.mk (tk_succ ps j hlt2)
          go_wp2_with ((with_reducible refine gate_builtin (b := .append) (xs := #[.tmp 31, .tmp 32]) rfl ?_); at_builtin; refine Kd.R_append_rows (Kd.int .u8) (w0 := w) (Rr := (Kd.int .u8).K wr) w.heap.size rfl (.tmp 31) (.tmp 32) 22 5 (.int .u8 0) 1 rfl Try.underlying22 info5 rfl (by decide) (by omega) u6 (tk ps j) ps[j] A' ps[j].length c' (fun _ => True) (fun _ => False) rfl rfl HRj.out HC.out (fun x cs hK => hK) (fun _ hk => hk.elim) (fun _ _ => trivial) HB.out HB.out.size HL.out ?_; intro v3 w3 hR3 hB3 _ _; have HR3 := Aside0.mk hR3; have HB3 := Aside0.mk hB3; clear hR3 hB3)
          go_roundw
          case rel => exact ⟨j + 1, by omega, by go_num, ⟨by rw [HS.out]; exact HR3.out⟩, HB3⟩
          case measure => simp [intOf]; omega
        · have HT2 := Aside0.mk (tk_all ps j (by omega))
          go_wp2
          go_ret
          exact ⟨u6, rfl, by rw [← HT2.out]; exact HRj.out, HB.out⟩
theorem slices_Concat_byte_byte.calls (A0 : Option Addr) (c0 : Nat) (l0 : List (List Int)) (r : List Int) (w : World) (hr0 : Kd.C (Kd.slice 5 (Kd.int .u8)) w A0 l0.length l0) (hc0 : l0.length ≤ c0) (h : slices_Concat_byte_byte.f l0 = some r) :
    Calls Try.prog 44 #[.slice A0 l0.length c0] w fun e w' => ∃ v0_ : Value, e = .returned (v0_) ∧ Kd.R (Kd.int .u8) 5 w' w.heap.size (fun _ => True) v0_ r ∧ Below w.heap.size w w' := by
  unfold slices_Concat_byte_byte.f at h
  split at h
  · obtain rfl := Option.some.inj h
    exact slices_Concat_byte_byte.walk A0 l0.length c0 l0 w rfl hr0 hc0 (by omega)
  · cases h


end Go.Proofs.Ytjkimfjhfncldaa.Q
end

section
-- written by hprint.py (a program of these sessions) out of the translation; Lean checks it
namespace Go.Proofs.Ytjkimfjhfncldaa.Q
open Go.RowKit Go.Proofs.YtjkimfjhfncldaaW.Hb Go.Proofs.YtjkimfjhfncldaaW.PrintWords Go.Proofs.YtjkimfjhfncldaaW.PrintLast Go.Proofs.YtjkimfjhfncldaaW.PrintMore
attribute [local go_sem] max2_int min2_int max_two min_two max_three min_three max_four min_four   -- for this text's walks alone
set_option linter.unusedVariables false
set_option linter.unusedSimpArgs false

/-! ### wire_Writer_more: function 52, by hand -/
def wmore (l p : List Int) : List Int × Int := if 1048576 - (l.length : Int) < (p.length : Int) then (l, 6) else (l ++ p, 0)
set_option maxRecDepth 100000 in
set_option maxHeartbeats 1000000 in
theorem wire_Writer_more.calls (S : Nat → Prop) (g : Nat) (l : List Int) (A : Option Addr) (n c : Nat) (ps : List (List Int)) (p : List Int) (w : World) (hn : ps.length = n) (hr : (Kd.slice 5 (Kd.int .u8)).C w A ps.length ps) (hc : n ≤ c) (hp : ps.flatten = p) (hsum : p.length * 1 ≤ 140737488355328) (hW : Wr w S g l) (hl : l.length ≤ 1048576) :
    Calls Try.prog 52 #[.pointer (some ⟨g, 0, none⟩), .slice A n c] w fun e w' => e = .returned (.int .i64 (wmore l p).2) ∧ Wr w' (SS S w w') g (wmore l p).1 ∧ Fr w w' S := by
  subst hn
  have HC := Aside0.mk (slices_Concat_byte_byte.walk A ps.length c ps w rfl hr hc (by rw [hp]; exact hsum))
  obtain ⟨v, hb, hS, hR⟩ := hW
  obtain ⟨Av, cv, rfl, hcv, _⟩ := Kd.R_reads hR
  have HB := Aside0.mk hb
  have HR := Aside0.mk hR
  have hg := hb.lt
  have HP := Aside0.mk hp
  clear hr hp hb hR
  go_enter Try.func52, Try.ntmps52
  go_wp2_with (fail)
  refine HC.out.mono ?_
  rintro e w1 ⟨v1, rfl, hR1, hB1⟩
  rw [HP.out] at hR1
  obtain ⟨A1, c1, rfl, hc1, hC1⟩ := Kd.R_reads hR1
  have HC1 := Aside0.mk hC1
  have HB1 := Aside0.mk hB1
  have hb1 : Blk w1 g 70 #[.slice Av l.length cv, .bool true] := HB.out.after hB1
  have HBK := Aside0.mk hb1
  have h0 : w1.cell? ⟨g, 0, none⟩ = some (.slice Av l.length cv) := hb1.cell 0
  have hg1 := hb1.lt
  clear hR1 hC1 hB1 hb1
  have HSB := Aside0.mk ((HB.out.after HB1.out))
  by_cases ht : 1048576 - (l.length : Int) < (p.length : Int)
  · have htb : decide (1048576 - (l.length : Int) < (p.length : Int)) = true := decide_eq_true ht
    have HWM := Aside0.mk (show wmore l p = (l, 6) from if_pos ht)
    have HWR := Aside0.mk (show Wr w1 (SS S w w1) g l from Wr.mono ⟨.slice Av l.length cv, HBK.out, hS, Kd.R_below HR.out HB1.out⟩ (fun k hk => .inl hk))
    clear ht
    go_wp2_with (go_at_call 51; (with_reducible refine (wire_Writer_none.calls g _ true _ HBK.out).mono ?_); rintro e2 w2 ⟨rfl, hw2⟩; subst w2)
    go_ret
    rw [HWM.out]
    exact ⟨rfl, HWR.out, Fr.of_below HB1.out S⟩
  · have htb : decide (1048576 - (l.length : Int) < (p.length : Int)) = false := decide_eq_false ht
    have HWM := Aside0.mk (show wmore l p = (l ++ p, 0) from if_neg ht)
    have HR1 := Aside0.mk (Kd.R_mono (ok' := fun k => (S k ∨ w.heap.size ≤ k) ∧ k ≠ g) (Kd.R_below HR.out HB1.out) (fun k hk => ⟨.inl hk.1, hk.2⟩))
    have HL := Aside0.mk (show (l.length + p.length) * 1 ≤ 140737488355328 by omega)
    obtain ⟨q, hq⟩ : ∃ q, q = l ++ p := ⟨_, rfl⟩
    have HQ := Aside0.mk hq
    clear ht hq
    go_upto_region 6 with (go_at_call 51; (with_reducible refine (wire_Writer_none.calls g _ true _ HBK.out).mono ?_); rintro e2 w2 ⟨rfl, hw2⟩; subst w2)
    go_wp2_with (((with_reducible refine gate_builtin (b := .append) (xs := #[.tmp 27, .tmp 28]) rfl ?_); at_builtin; refine Kd.R_append_rows (Kd.int .u8) (w0 := w) (Rr := (Kd.int .u8).K w1) 0 rfl (.tmp 27) (.tmp 28) 22 5 (.int .u8 0) 1 rfl Try.underlying22 info5 rfl (by decide) (by omega) (.slice Av l.length cv) l p A1 p.length c1 (fun k => (S k ∨ w.heap.size ≤ k) ∧ k ≠ g) (fun _ => False) rfl rfl HR1.out HC1.out (fun x cs hK => hK) (fun _ hk => hk.elim) (fun k hk => ⟨.inr (Nat.le_trans HB1.out.size hk), by omega⟩) (HB1.out.mono (Nat.zero_le _)) (Nat.zero_le _) HL.out ?_; intro v3 w3 hR3 hB3 hG3 hA3; rw [← HQ.out] at hR3; obtain ⟨A3, c3, rfl⟩ := Kd.R_slice hR3; have hgv : some g ≠ (Value.slice Av l.length cv).ownBlock := (fun he => (HR1.out.1 g he.symm).2 rfl); have hb3 : Blk w3 g 70 #[.slice Av l.length cv, .bool true] := (hG3.block g hg1 hgv).trans HBK.out; have h3 : w3.cell? ⟨g, 0, none⟩ = some (.slice Av l.length cv) := hb3.cell 0; have f3 : w3.frozen? ⟨g, 0, none⟩ = false := hb3.frozen 0; have HR3 := Aside0.mk hR3; have HB3 := Aside0.mk hb3; have HD3 := Aside0.mk hB3; have HG3 := Aside0.mk hG3; clear hR3 hB3 hG3 hA3 hb3))
    go_ret
    rw [HWM.out]
    dsimp only
    rw [← HQ.out]
    refine ⟨rfl, ⟨.slice A3 q.length c3, by simpa using HB3.out.set_ 0 (.slice A3 q.length c3), .inl hS, ?_⟩, ?_, ?_⟩
    · refine Kd.R_far (p := ⟨g, 0, none⟩) ?_ (fun k hk => hk.2) _
      refine Kd.R_mono (Kd.R_bound HR3.out) (fun k hk => ⟨hk.1.1.elim .inl (fun h => .inr ⟨h, ?_⟩), hk.1.2⟩)
      simpa [World.setCell] using hk.2.2.1
    · exact HD3.out.setCell (Nat.zero_le _) _
    · refine Kept.setCell (Kept.of_grown HG3.out (Kept.of_below HB1.out S) (fun k hk => ?_)) (.inl hS) _
      exact (HR1.out.1 k hk).1


end Go.Proofs.Ytjkimfjhfncldaa.Q
end

section
-- written by hprint.py (a program of these sessions) out of the translation; Lean checks it
namespace Go.Proofs.Ytjkimfjhfncldaa.Q
open Go.RowKit Go.Proofs.YtjkimfjhfncldaaW.Hb Go.Proofs.YtjkimfjhfncldaaW.PrintWords Go.Proofs.YtjkimfjhfncldaaW.PrintLast Go.Proofs.YtjkimfjhfncldaaW.PrintMore
attribute [local go_sem] max2_int min2_int max_two min_two max_three min_three max_four min_four   -- for this text's walks alone
set_option linter.unusedVariables false
set_option linter.unusedSimpArgs false

/-! ### wire_big: function 43, by hand -/
/-- The greatest number of 64 bits. -/
def u64top : Int := 18446744073709551615
def bigB (n : Int) (m i : Nat) : Int := (n / 2 ^ (8 * (m - 1 - i))) % 256
def bigL (n : Int) (m : Nat) : List Int := (List.range m).map (bigB n m)
def bigP (n : Int) (m k : Nat) : List Int := (List.range k).map (bigB n m) ++ List.replicate (m - k) 0
theorem bigP_len (n : Int) (m k : Nat) (h : k ≤ m) : (bigP n m k).length = m := by simp [bigP]; omega
theorem bigP_zero (n : Int) (m : Nat) : bigP n m 0 = List.replicate m 0 := by simp [bigP]
theorem bigP_all (n : Int) (m k : Nat) (h : m ≤ k) (hk : k ≤ m) : bigP n m k = bigL n m := by
  obtain rfl : k = m := by omega
  simp [bigP, bigL]
theorem bigP_set (n : Int) (m k : Nat) (h : k < m) : (bigP n m k).set k (bigB n m k) = bigP n m (k + 1) := by
  apply List.ext_getElem
  · simp [bigP]; omega
  · intro i h1 h2
    have hi : i < m := by
      have := bigP_len n m (k + 1) (by omega)
      omega
    rw [List.getElem_set]
    by_cases e : k = i
    · subst e
      simp [bigP, List.getElem_append]
    · rw [if_neg e]
      simp only [bigP, List.getElem_append, List.length_map, List.length_range, List.getElem_map, List.getElem_range, List.getElem_replicate]
      by_cases e1 : i < k
      · simp [e1, show i < k + 1 by omega]
      · simp [e1, show ¬ i < k + 1 by omega]
def wire_big.f (a0 : Int) (a1 : Int) : Option (List Int) := if 0 ≤ a1 ∧ a1 ≤ 8 ∧ 0 ≤ a0 ∧ a0 ≤ u64top then some (bigL a0 a1.toNat) else none
set_option maxRecDepth 100000 in
set_option maxHeartbeats 1000000 in
theorem wire_big.walk (n : Int) (m : Nat) (w : World) (hm : m ≤ 8) (h0 : 0 ≤ n) (h1 : n ≤ u64top) :
    Calls Try.prog 43 #[.int .u64 n, .int .i64 m] w (OwnRes (Kd.int .u8) 5 w (bigL n m)) := by
  have hmk := print_make (P := Try.prog) 22 5 .u8 1 Try.underlying22 info5 (by omega) m (by omega)
  have HO := Aside0.mk (show (Kd.int .u8).R 5 (w.alloc (.cells (madeCells #[.int .u8 0] m) 5)) w.heap.size (fun _ => True) (.slice (some ⟨w.heap.size, 0, none⟩) m m) (List.replicate m 0) from Kd.R_of_own (by rw [List.length_replicate]; exact own_made w w.heap.size 5 .u8 m (Nat.le_refl _) (by omega)) (fun _ _ => trivial))
  have HB0 := Aside0.mk ((Below.refl w.heap.size w).alloc (Nat.le_refl _) (.cells (madeCells #[.int .u8 0] m) 5))
  go_enter Try.func43, Try.ntmps43
  go_wp2
  clear hmk
  go_loopw [11] (fun i wr => ∃ k : Nat, k ≤ m ∧ i = .int .i64 k ∧ Aside0 ((Kd.int .u8).R 5 wr w.heap.size (fun _ => True) (.slice (some ⟨w.heap.size, 0, none⟩) m m) (bigP n m k)) ∧ Aside0 (Below w.heap.size w wr)) (fun i _ => m - (intOf i).toNat)
  case atStart => exact ⟨0, Nat.zero_le _, rfl, ⟨by rw [bigP_zero]; exact HO.out⟩, HB0⟩
  case round =>
    obtain ⟨k, hk, rfl, HR, HB⟩ := hrel
    by_cases hlt : k < m
    · have hc := Kd.R_celln (0 : Int) HR.out k (by omega) (by omega)
      rw [Int.toNat_natCast] at hc
      obtain ⟨hc1, hc2⟩ := hc
      have HS := Aside0.mk (Kd.R_putn HR.out k (bigB n m k))
      have HP := Aside0.mk (bigP_set n m k hlt)
      have HX := Aside0.mk (by have hx := HS.out; rw [Int.toNat_natCast, HP.out] at hx; exact hx)
      clear HS
      go_wp2
      go_roundw
      case rel => exact ⟨k + 1, by omega, by go_num, HX, ⟨HB.out.setCell (Nat.le_refl _) _⟩⟩
      case measure => simp [intOf]; omega
    · have HA := Aside0.mk (bigP_all n m k (by omega) hk)
      go_wp2
      go_ret
      exact ⟨_, rfl, by rw [← HA.out]; exact HR.out, HB.out⟩
theorem wire_big.calls (a0 : Int) (a1 : Int) (r : List Int) (w : World) (h : wire_big.f a0 a1 = some r) :
    Calls Try.prog 43 #[.int .u64 a0, .int .i64 a1] w fun e w' => ∃ v0_ : Value, e = .returned (v0_) ∧ Kd.R (Kd.int .u8) 5 w' w.heap.size (fun _ => True) v0_ r ∧ Below w.heap.size w w' := by
  unfold wire_big.f at h
  split at h
  · rename_i hc
    obtain ⟨h1, h2, h3, h4⟩ := hc
    obtain rfl := Option.some.inj h
    obtain ⟨m, rfl⟩ := Int.eq_ofNat_of_zero_le h1
    rw [Int.toNat_natCast]
    exact wire_big.walk a0 m w (by omega) h3 h4
  · cases h
theorem wire_big.walkI (n : Int) (m : Nat) (a1 : Int) (ha : a1 = (m : Int)) (w : World) (hm : m ≤ 8) (h0 : 0 ≤ n) (h1 : n ≤ u64top) :
    Calls Try.prog 43 #[.int .u64 n, .int .i64 a1] w (OwnRes (Kd.int .u8) 5 w (bigL n m)) := by
  subst ha
  exact wire_big.walk n m w hm h0 h1



end Go.Proofs.Ytjkimfjhfncldaa.Q
end

section
-- written by hprint.py (a program of these sessions) out of the translation; Lean checks it
namespace Go.Proofs.Ytjkimfjhfncldaa.Q
open Go.RowKit Go.Proofs.YtjkimfjhfncldaaW.Hb Go.Proofs.YtjkimfjhfncldaaW.PrintWords Go.Proofs.YtjkimfjhfncldaaW.PrintLast Go.Proofs.YtjkimfjhfncldaaW.PrintMore
attribute [local go_sem] max2_int min2_int max_two min_two max_three min_three max_four min_four   -- for this text's walks alone
set_option linter.unusedVariables false
set_option linter.unusedSimpArgs false

/-! ### wire_Writer_Int: function 25, by hand -/
def ints8 (xs : List Int) : List Int := xs.flatMap (fun x => bigL (IntKind.u64.wrap x) 8)
theorem ints8_len (xs : List Int) : (ints8 xs).length = 8 * xs.length := by
  unfold ints8
  induction xs with
  | nil => rfl
  | cons x xs ih => rw [List.flatMap_cons, List.length_append, ih, show (bigL (IntKind.u64.wrap x) 8).length = 8 by simp [bigL], List.length_cons]; omega
theorem ints8_take (xs : List Int) (k : Nat) (hk : k < xs.length) : ints8 (xs.take (k + 1)) = ints8 (xs.take k) ++ bigL (IntKind.u64.wrap xs[k]) 8 := by
  unfold ints8
  rw [List.take_succ_eq_append_getElem hk, List.flatMap_append]
  simp
theorem C_lit_one {α : Type} (d : Kd α) (W : World) (e t : TypeId) (A1 : Option Addr) (n1 c1 : Nat) (x1 : List α) (hn1 : x1.length = n1) (h1 : d.C W A1 x1.length x1) (hc1 : n1 ≤ c1) :
    (Kd.slice e d).C (W.alloc (.cells #[.slice A1 n1 c1] t)) (some ⟨W.heap.size, 0, none⟩) [x1].length [x1] := by
  subst hn1
  exact C_of_reps (d := Kd.slice e d) (Blk.new W t _) [x1] (Reps_one (c := [.slice A1 x1.length c1]) ⟨A1, c1, rfl, hc1, Kd.C_alloc h1 _⟩ rfl) (by simp)
theorem bigL_len' (n : Int) (m : Nat) : (bigL n m).length = m := by simp [bigL]
theorem u64_wrap_lo (x : Int) : 0 ≤ IntKind.u64.wrap x := by
  have := Int.emod_nonneg x (show (18446744073709551616 : Int) ≠ 0 by decide)
  have h : IntKind.u64.wrap x = x % 18446744073709551616 := rfl
  rw [h]
  exact this
theorem u64_wrap_hi (x : Int) : IntKind.u64.wrap x ≤ u64top := by
  have := Int.emod_lt_of_pos x (show (0 : Int) < 18446744073709551616 by decide)
  have h : IntKind.u64.wrap x = x % 18446744073709551616 := rfl
  rw [h]
  unfold u64top
  omega
/-- A call that ends in more. -/
theorem more_end {S : Nat → Prop} {w w1 w2 : World} {g : Nat} {l : List Int} (hb : Below w.heap.size w w1) (h : Wr w2 (SS S w1 w2) g l) (hf : Fr w1 w2 S) : Wr w2 (SS S w w2) g l ∧ Fr w w2 S :=
  ⟨h.mono (fun k hk => hk.elim .inl (fun h => .inr ⟨Nat.le_trans hb.size h.1, h.2⟩)), (Fr.of_below hb S).then_ hf (fun _ hk => .inl hk)⟩
set_option maxRecDepth 100000 in
set_option maxHeartbeats 1000000 in
theorem wire_Writer_Int.calls (S : Nat → Prop) (g : Nat) (l : List Int) (A : Option Addr) (n c : Nat) (xs : List Int) (w : World) (hn : xs.length = n) (hr : (Kd.int .i64).C w A xs.length xs) (hc : n ≤ c) (hsum : xs.length * 8 ≤ 140737488355328) (hW : Wr w S g l) (hl : l.length ≤ 1048576) :
    Calls Try.prog 25 #[.pointer (some ⟨g, 0, none⟩), .slice A n c] w fun e w' => e = .returned (.int .i64 (wmore l (ints8 xs)).2) ∧ Wr w' (SS S w w') g (wmore l (ints8 xs)).1 ∧ Fr w w' S := by
  subst hn
  have hm : xs.length ≤ 9223372036854775807 := hr.2.1
  have HR := Aside0.mk hr
  have HW := Aside0.mk hW
  clear hr hW
  go_enter Try.func25, Try.ntmps25
  go_wp2
  go_loopw [5, 10] (fun v i wr => ∃ j : Nat, j ≤ xs.length ∧ i = .int .i64 j ∧ Aside0 (Kd.R (Kd.int .u8) 5 wr w.heap.size (fun _ => True) v (ints8 (xs.take j))) ∧ Aside0 (Below w.heap.size w wr)) (fun _ i _ => xs.length - (intOf i).toNat)
  case atStart => exact ⟨0, Nat.zero_le _, rfl, ⟨Kd.R_nil _ _ _ _ _⟩, ⟨Below.refl _ _⟩⟩
  case round =>
    obtain ⟨j, hj, rfl, HRj, HB⟩ := hrel
    by_cases hlt : j < xs.length
    · obtain ⟨ad, e, hcell⟩ := at_intN HR.out j hlt
      cases e
      replace hcell := (HB.out.cell (World.block_lt_of_cell? w _ hcell)).trans hcell
      have HT := Aside0.mk (ints8_take xs j hlt)
      obtain ⟨x, hx⟩ : ∃ x, x = xs[j] := ⟨_, rfl⟩
      rw [← hx] at HT hcell
      obtain ⟨q, hq⟩ : ∃ q, q = bigL (IntKind.u64.wrap x) 8 := ⟨_, rfl⟩
      rw [← hq] at HT
      have hql : q.length = 8 := by rw [hq, bigL_len']
      have HL := Aside0.mk (show ((ints8 (xs.take j)).length + q.length) * 1 ≤ 140737488355328 by rw [ints8_len, List.length_take]; omega)
      have HQ := Aside0.mk hq
      have HQL := Aside0.mk hql
      clear hx hq hql
      go_wp2_with (first | (go_at_call 43; (with_reducible refine (wire_big.walkI (IntKind.u64.wrap x) 8 8 rfl _ (by omega) (u64_wrap_lo x) (u64_wrap_hi x)).mono ?_); rintro e w1 ⟨v1, rfl, hR1, hB1⟩; rw [← HQ.out] at hR1; obtain ⟨A1, c1, rfl, hc1, hC1⟩ := Kd.R_reads hR1; have HC1 := Aside0.mk hC1; have HO1 := Aside0.mk (Kd.R_below HRj.out hB1); have HB1 := Aside0.mk (HB.out.trans (hB1.mono HB.out.size)); clear hR1 hC1 hB1) | ((with_reducible refine gate_builtin (b := .append) (xs := #[.tmp 14, .tmp 17]) rfl ?_); at_builtin; refine Kd.R_append_rows (Kd.int .u8) (w0 := w) (Rr := (Kd.int .u8).K w1) w.heap.size rfl (.tmp 14) (.tmp 17) 22 5 (.int .u8 0) 1 rfl Try.underlying22 info5 rfl (by decide) (by omega) u5 (ints8 (xs.take j)) q A1 q.length c1 (fun _ => True) (fun _ => False) rfl rfl HO1.out HC1.out (fun x cs hK => hK) (fun _ hk => hk.elim) (fun _ _ => trivial) HB1.out HB1.out.size HL.out ?_; intro v3 w3 hR3 hB3 _ _; have HR3 := Aside0.mk hR3; have HB3 := Aside0.mk hB3; clear hR3 hB3))
      go_roundw
      case rel => exact ⟨j + 1, by omega, by go_num, ⟨by rw [HT.out]; exact HR3.out⟩, HB3⟩
      case measure => simp [intOf]; omega
    · have HT := Aside0.mk (show ints8 (xs.take j) = ints8 xs by rw [List.take_of_length_le (by omega)])
      obtain ⟨p, hp⟩ : ∃ p, p = ints8 xs := ⟨_, rfl⟩
      have hR := HRj.out
      rw [HT.out, ← hp] at hR
      have hpl : p.length * 1 ≤ 140737488355328 := by rw [hp, ints8_len]; omega
      obtain ⟨A1, c1, rfl, hc1, hC1⟩ := Kd.R_reads hR
      have HL1 := Aside0.mk (C_lit_one (Kd.int .u8) wr 5 22 A1 p.length c1 p rfl hC1 hc1)
      have HP := Aside0.mk hp
      clear hR hC1 HRj hp HT
      have HB2 := Aside0.mk (HB.out.alloc HB.out.size (.cells #[.slice A1 p.length c1] 22))
      have HM := Aside0.mk (wire_Writer_more.calls S g l (some ⟨wr.heap.size, 0, none⟩) 1 1 [p] p (wr.alloc (.cells #[.slice A1 p.length c1] 22)) rfl HL1.out (Nat.le_refl 1) (by simp) hpl (HW.out.below HB2.out) hl)
      go_wp2_with (go_at_call 52; (with_reducible refine HM.out.mono ?_); rintro e2 w2 ⟨rfl, hw2, hf2⟩; have HE := Aside0.mk (more_end HB2.out hw2 hf2); clear hw2 hf2)
      go_ret
      rw [← HP.out]
      exact ⟨rfl, HE.out.1, HE.out.2⟩


end Go.Proofs.Ytjkimfjhfncldaa.Q
end

section
-- written by hprint.py (a program of these sessions) out of the translation; Lean checks it
namespace Go.Proofs.Ytjkimfjhfncldaa.Q
open Go.RowKit Go.Proofs.YtjkimfjhfncldaaW.Hb Go.Proofs.YtjkimfjhfncldaaW.PrintWords Go.Proofs.YtjkimfjhfncldaaW.PrintLast Go.Proofs.YtjkimfjhfncldaaW.PrintMore
attribute [local go_sem] max2_int min2_int max_two min_two max_three min_three max_four min_four   -- for this text's walks alone
set_option linter.unusedVariables false
set_option linter.unusedSimpArgs false

/-! ### wire_Writer_Text: function 27, by hand -/
/-- A slice of bytes as it stands in a cell. -/
structure Pt where
  a : Option Addr
  c : Nat
  xs : List Int
def Pt.enc (p : Pt) : Value := .slice p.a p.xs.length p.c
def kPt : Kd Pt := Kd.scalar Pt.enc (fun _ => rfl)
/-- What the cells tell can be read, and lies in none of u's block. -/
def PtOk (w : World) (u : Option Nat) (p : Pt) : Prop := p.xs.length ≤ p.c ∧ (Kd.int .u8).C w p.a p.xs.length p.xs ∧ ∀ ad, p.a = some ad → ad.block < w.heap.size ∧ some ad.block ≠ u
theorem C_blocks {w w1 : World} {k : IntKind} {A : Option Addr} {xs : List Int} (h : (Kd.int k).C w A xs.length xs) (hb : ∀ ad, A = some ad → w1.heap[ad.block]? = w.heap[ad.block]?) : (Kd.int k).C w1 A xs.length xs := by
  refine ⟨h.1, h.2.1, fun hp => ?_⟩
  obtain ⟨ad, e, hc⟩ := h.2.2 hp
  refine ⟨ad, e, fun j p hj => ?_⟩
  obtain ⟨cs, h1, h2, h3⟩ := hc j p hj
  refine ⟨cs, h1, h2, fun i u hu => ?_⟩
  have hbl : (ad.add (j * (Kd.int k).sz + i)).block = ad.block := by unfold Addr.add; split <;> rfl
  rw [← h3 i u hu]
  exact World.cell?_of_block (by rw [hbl]; exact hb ad e)
theorem PtOk.below {w w1 : World} {u : Option Nat} {p : Pt} (h : PtOk w u p) (hb : Below w.heap.size w w1) : PtOk w1 u p := ⟨h.1, Kd.C_below h.2.1 hb, fun ad e => ⟨Nat.lt_of_lt_of_le (h.2.2 ad e).1 hb.size, (h.2.2 ad e).2⟩⟩
theorem PtOk.grown {w w1 : World} {u u1 : Option Nat} {p : Pt} (h : PtOk w u p) (hg : w.grownBy w1 u) (ha : u1 = u ∨ ∃ b, u1 = some b ∧ w.heap.size ≤ b) : PtOk w1 u1 p := by
  refine ⟨h.1, C_blocks h.2.1 (fun ad e => hg.block _ (h.2.2 ad e).1 (h.2.2 ad e).2), fun ad e => ⟨Nat.lt_of_lt_of_le (h.2.2 ad e).1 hg.size, ?_⟩⟩
  rcases ha with rfl | ⟨b, rfl, hb⟩
  · exact (h.2.2 ad e).2
  · have := (h.2.2 ad e).1
    intro h'
    injection h' with h'
    omega
theorem C_of_pts {w : World} {u : Option Nat} {A : Option Addr} {n : Nat} {ps : List Pt} (e : Nat) (h : kPt.C w A n ps) (hp : ∀ p ∈ ps, PtOk w u p) : (Kd.slice e (Kd.int .u8)).C w A n (ps.map Pt.xs) := by
  refine ⟨by rw [List.length_map]; exact h.1, h.2.1, fun hn => ?_⟩
  obtain ⟨ad, e1, hc⟩ := h.2.2 hn
  refine ⟨ad, e1, fun j p hj => ?_⟩
  rw [List.getElem?_map] at hj
  cases hq : ps[j]? with
  | none => rw [hq] at hj; cases hj
  | some q =>
    rw [hq] at hj
    obtain rfl : q.xs = p := by simpa using hj
    obtain ⟨cs, h1, h2, h3⟩ := hc j q hq
    have h2' : cs = [q.enc] := h2
    subst h2'
    have ho := hp q (List.mem_of_getElem? hq)
    exact ⟨_, rfl, ⟨q.a, q.c, rfl, ho.1, ho.2.1⟩, h3⟩
theorem C_pt_two (W : World) (t : TypeId) (p q : Pt) (cells : Array Value) (hc : cells = #[p.enc, q.enc]) : kPt.C (W.alloc (.cells cells t)) (some ⟨W.heap.size, 0, none⟩) [p, q].length [p, q] := by
  subst hc
  exact C_of_reps (d := kPt) (Blk.new W t _) [p, q] (Reps_two (c := [p.enc]) (e := [q.enc]) rfl rfl rfl rfl) (by simp)
def textB (s : ByteArray) : List Int := bigL (s.size : Int) 2 ++ bytesOf s
def textsB (ss : List ByteArray) : List Int := ss.flatMap textB
def textsP (ss : List ByteArray) : List (List Int) := ss.flatMap (fun s => [bigL (s.size : Int) 2, bytesOf s])
theorem textsP_flat (ss : List ByteArray) : (textsP ss).flatten = textsB ss := by
  unfold textsP textsB
  induction ss with
  | nil => rfl
  | cons s ss ih => simp [List.flatMap_cons, ih, textB]
theorem textsP_len (ss : List ByteArray) : (textsP ss).length = 2 * ss.length := by
  unfold textsP
  induction ss with
  | nil => rfl
  | cons s ss ih => rw [List.flatMap_cons, List.length_append, ih]; simp; omega
theorem textsP_take (ss : List ByteArray) (k : Nat) (hk : k < ss.length) : textsP (ss.take (k + 1)) = textsP (ss.take k) ++ [bigL (ss[k].size : Int) 2, bytesOf ss[k]] := by
  unfold textsP
  rw [List.take_succ_eq_append_getElem hk, List.flatMap_append]
  simp
def tlong (s : ByteArray) : Bool := decide (65535 < s.size)
def wtexts (l : List Int) (ss : List ByteArray) : List Int × Int := if ss.any tlong then (l, 6) else wmore l (textsB ss)
theorem at_stringN {w : World} {A : Option Addr} {n : Nat} {xs : List ByteArray} (h : Kd.string.C w A n xs) (i : Nat) (hi : i < xs.length) : ∃ ad, A = some ad ∧ w.cell? (ad.add i) = some (.string xs[i]) := by
  obtain ⟨ad, e, hc⟩ := Kd.at_string h i (by omega) (by have := h.1; omega)
  refine ⟨ad, e, ?_⟩
  rw [Int.toNat_natCast] at hc
  rw [hc]
  simp [rdOf, List.getD_eq_getElem?_getD, hi]
set_option maxRecDepth 100000 in
set_option maxHeartbeats 2000000 in
theorem wire_Writer_Text.calls (S : Nat → Prop) (g : Nat) (l : List Int) (A : Option Addr) (n c : Nat) (ss : List ByteArray) (w : World) (hn : ss.length = n) (hr : Kd.string.C w A ss.length ss) (hc : n ≤ c) (hsum : (textsB ss).length * 1 ≤ 140737488355328) (hcnt : ss.length * 48 ≤ 140737488355328) (hW : Wr w S g l) (hl : l.length ≤ 1048576) :
    Calls Try.prog 27 #[.pointer (some ⟨g, 0, none⟩), .slice A n c] w fun e w' => e = .returned (.int .i64 (wtexts l ss).2) ∧ Wr w' (SS S w w') g (wtexts l ss).1 ∧ Fr w w' S := by
  subst hn
  have hm : ss.length ≤ 9223372036854775807 := hr.2.1
  have HR := Aside0.mk hr
  have HW := Aside0.mk hW
  have HSUM := Aside0.mk hsum
  clear hr hW hsum
  go_enter Try.func27, Try.ntmps27
  go_wp2
  go_loopw [5, 10] (fun v i wr => ∃ (j : Nat) (ps : List Pt), j ≤ ss.length ∧ i = .int .i64 j ∧ Aside0 (ps.map Pt.xs = textsP (ss.take j)) ∧ Aside0 (∀ s ∈ ss.take j, tlong s = false) ∧ Aside0 (kPt.R 22 wr w.heap.size (fun _ => True) v ps) ∧ Aside0 (∀ p ∈ ps, PtOk wr v.ownBlock p) ∧ Aside0 (Below w.heap.size w wr)) (fun _ i _ => ss.length - (intOf i).toNat)
  case atStart => exact ⟨0, [], Nat.zero_le _, rfl, ⟨by simp [textsP]⟩, ⟨by simp⟩, ⟨Kd.R_nil _ _ _ _ _⟩, ⟨by simp⟩, ⟨Below.refl _ _⟩⟩
  case round =>
    obtain ⟨j, ps, hj, rfl, HP, HS, HRj, HO, HB⟩ := hrel
    by_cases hlt : j < ss.length
    · obtain ⟨ad, e, hcell⟩ := at_stringN HR.out j hlt
      cases e
      replace hcell := (HB.out.cell (World.block_lt_of_cell? w _ hcell)).trans hcell
      have HT := Aside0.mk (textsP_take ss j hlt)
      have HTK := Aside0.mk (List.take_succ_eq_append_getElem hlt)
      have HMEM := Aside0.mk (List.getElem_mem hlt)
      obtain ⟨s, hs⟩ : ∃ s, s = ss[j] := ⟨_, rfl⟩
      rw [← hs] at HT hcell HTK HMEM
      clear hs
      by_cases hlong : 65535 < (s.size : Int)
      · have hlb : decide (65535 < (s.size : Int)) = true := decide_eq_true hlong
        have HWT := Aside0.mk (show wtexts l ss = (l, 6) from if_pos (List.any_eq_true.2 ⟨s, HMEM.out, decide_eq_true (by omega)⟩))
        have HWR := Aside0.mk (HW.out.below HB.out)
        clear hlong
        obtain ⟨vw, hbw, hSg, hRw⟩ := HWR.out
        have HBW := Aside0.mk hbw
        clear hbw hRw
        go_wp2_with (go_at_call 51; (with_reducible refine (wire_Writer_none.calls g _ true _ HBW.out).mono ?_); rintro e2 w2 ⟨rfl, hw2⟩; subst w2)
        go_ret
        rw [HWT.out]
        exact ⟨rfl, HWR.out.mono (fun k hk => .inl hk), Fr.of_below HB.out S⟩
      · have hlb : decide (65535 < (s.size : Int)) = false := decide_eq_false hlong
        have hsz : s.size ≤ 65535 := by omega
        clear hlong
        obtain ⟨q, hq⟩ : ∃ q, q = bigL (s.size : Int) 2 := ⟨_, rfl⟩
        obtain ⟨b, hb⟩ : ∃ b, b = bytesOf s := ⟨_, rfl⟩
        have hql : q.length = 2 := by rw [hq, bigL_len']
        have hbl : b.length = s.size := by rw [hb, bytesOf_length]
        rw [← hq, ← hb] at HT
        have HQ := Aside0.mk hq
        have HBY := Aside0.mk hb
        have HQL := Aside0.mk hql
        have HBL := Aside0.mk hbl
        clear hq hb hql hbl
        have hlen : ps.length = 2 * j := by
          have := congrArg List.length HP.out
          rw [List.length_map, textsP_len, List.length_take] at this
          omega
        have HL := Aside0.mk (show (ps.length + 2) * 24 ≤ 140737488355328 by omega)
        obtain ⟨gc, bw, hgc, hbw, hbs, hbc, kb⟩ : ∃ (gc : World → Nat) (bw : World → World), (∀ W, b.length ≤ gc W) ∧ (∀ W, Below W.heap.size W (bw W)) ∧ (∀ W, W.heap.size < (bw W).heap.size) ∧ (∀ W, (Kd.int .u8).C (bw W) (some ⟨W.heap.size, 0, none⟩) b.length b) ∧ ∀ W, (convert 9 22 (.string s)).run Try.prog W = .ok (.slice (some ⟨W.heap.size, 0, none⟩) b.length (gc W)) (bw W) := by
          refine ⟨fun W => grownCap W s.size 0 5, fun W => Lib.bytesWorld W 5 s, fun W => by rw [HBL.out]; exact grownCap_ge _ _ _ _, fun W => bytes_below (Below.refl _ _) (Nat.le_refl _) _ _, fun W => by rw [Lib.bytesWorld_size]; omega, fun W => ?_, fun W => ?_⟩
          · have := bytes_reads W 5 s (by omega)
            rw [← HBY.out, ← HBL.out] at this
            exact Kd.C_of_reads (d := (0 : Int)) (h1 := fun _ => rfl) this
          · rw [HBL.out]
            exact print_bytes (P := Try.prog) 9 22 5 Try.underlying9 Try.underlying22 Try.underlying5 s W
        have HGC := Aside0.mk hgc
        have HBW := Aside0.mk hbw
        have HBS := Aside0.mk hbs
        have HBC := Aside0.mk hbc
        clear hlen hgc hbw hbs hbc
        go_wp2_with (first | (go_at_call 43; (with_reducible refine (wire_big.walkI (s.size : Int) 2 2 rfl _ (by omega) (by omega) (by unfold u64top; omega)).mono ?_); rintro e w1 ⟨v1, rfl, hR1, hB1⟩; rw [← HQ.out] at hR1; obtain ⟨A1, c1, rfl, hc1, hC1⟩ := Kd.R_reads hR1; have HR1 := Aside0.mk hR1; have HB1 := Aside0.mk hB1; have HBk := Aside0.mk (hB1.trans ((HBW.out w1).mono hB1.size)); have HWk := Aside0.mk ((hB1.trans ((HBW.out w1).mono hB1.size)).alloc (Nat.le_trans hB1.size (HBW.out w1).size) (.cells #[.slice A1 q.length c1, .slice (some ⟨w1.heap.size, 0, none⟩) b.length (gc w1)] 22)); have HC2 := Aside0.mk (C_pt_two (bw w1) 22 ⟨A1, c1, q⟩ ⟨some ⟨w1.heap.size, 0, none⟩, gc w1, b⟩ #[.slice A1 q.length c1, .slice (some ⟨w1.heap.size, 0, none⟩) b.length (gc w1)] rfl); have HO1 := Aside0.mk (Kd.R_below HRj.out HWk.out); have HD1 := Aside0.mk (HB.out.trans (HWk.out.mono HB.out.size)); have HC1 := Aside0.mk hc1; clear hR1 hC1 hB1 hc1) | ((with_reducible refine gate_builtin (b := .append) (xs := #[.tmp 19, .tmp 26]) rfl ?_); at_builtin; refine Kd.R_append_rows kPt (w0 := w) (Rr := kPt.K ((bw w1).alloc (.cells #[.slice A1 q.length c1, .slice (some ⟨w1.heap.size, 0, none⟩) b.length (gc w1)] 22))) w.heap.size rfl (.tmp 19) (.tmp 26) 35 22 (.slice none 0 0) 24 rfl Try.underlying35 info22 rfl (Nat.zero_lt_one) (by omega) u5 ps [⟨A1, c1, q⟩, ⟨some ⟨w1.heap.size, 0, none⟩, gc w1, b⟩] (some ⟨(bw w1).heap.size, 0, none⟩) 2 2 (fun _ => True) (fun _ => False) rfl rfl HO1.out HC2.out (fun x cs hK => hK) (fun _ hk => hk.elim) (fun _ _ => trivial) HD1.out HD1.out.size HL.out ?_; intro v3 w3 hR3 hB3 hG3 hA3; have HR3 := Aside0.mk hR3; have HB3 := Aside0.mk hB3; have HG3 := Aside0.mk hG3; have HA3 := Aside0.mk hA3; clear hR3 hB3 hG3 hA3))
        have HN := Aside0.mk (show ∀ k, u5.ownBlock = some k → k < wr.heap.size from fun k hk => Kd.R_lt HRj.out k hk)
        have HPT : ∀ p ∈ ps ++ [(⟨A1, c1, q⟩ : Pt), ⟨some ⟨w1.heap.size, 0, none⟩, gc w1, b⟩], PtOk w3 v3.ownBlock p := by
          intro p hp
          rcases List.mem_append.1 hp with hp | hp
          · exact ((HO.out p hp).below HWk.out).grown HG3.out HA3.out
          · have hs1 := HB1.out.size
            have hs2 := (HBW.out w1).size
            have hs3 := HBS.out w1
            rcases List.mem_cons.1 hp with rfl | hp
            · refine PtOk.grown (w := (bw w1).alloc _) ⟨HC1.out, Kd.C_below (Kd.R_reads' HR1.out).2.2 ((HBW.out w1).alloc hs2 _), fun ad e => ?_⟩ HG3.out HA3.out
              cases e
              have hb := (Kd.R_bound HR1.out).1 ad.block (by simp [Value.ownBlock])
              refine ⟨by simp; omega, fun h' => ?_⟩
              have := HN.out _ h'.symm
              omega
            · obtain rfl := List.mem_singleton.1 hp
              refine PtOk.grown (w := (bw w1).alloc _) ⟨HGC.out w1, Kd.C_alloc (HBC.out w1) _, fun ad e => ?_⟩ HG3.out HA3.out
              cases e
              refine ⟨by simp; omega, fun h' => ?_⟩
              have := HN.out _ h'.symm
              simp at this
              omega
        have HPT' := Aside0.mk HPT
        clear HPT
        go_roundw
        case rel => exact ⟨j + 1, _, by omega, by go_num, ⟨by rw [List.map_append, HP.out, HT.out]; rfl⟩, ⟨by
          intro s' hs'
          rw [HTK.out] at hs'
          rcases List.mem_append.1 hs' with h' | h'
          · exact HS.out s' h'
          · obtain rfl := List.mem_singleton.1 h'
            exact decide_eq_false (by omega)⟩, HR3, HPT', HB3⟩
        case measure => simp [intOf]; omega
    · have hall : ss.take j = ss := List.take_of_length_le (by omega)
      have HWT := Aside0.mk (show wtexts l ss = wmore l (textsB ss) from if_neg (by
        rw [Bool.not_eq_true, List.any_eq_false]
        intro s hs
        have := HS.out s (by rw [hall]; exact hs)
        rw [this]
        decide))
      have hR := HRj.out
      have hP := HP.out
      rw [hall] at hP
      obtain ⟨A1, c1, rfl, hc1, hC1⟩ := Kd.R_reads hR
      have hC2 : (Kd.slice 5 (Kd.int .u8)).C wr A1 (ps.map Pt.xs).length (ps.map Pt.xs) := by
        rw [List.length_map]
        exact C_of_pts _ hC1 HO.out
      have HWR := Aside0.mk (HW.out.below HB.out)
      obtain ⟨p, hp⟩ : ∃ p, p = textsB ss := ⟨_, rfl⟩
      have hpl := HSUM.out
      rw [← hp] at hpl HWT
      have HM := Aside0.mk (wire_Writer_more.calls S g l A1 ps.length c1 (ps.map Pt.xs) p wr (by rw [List.length_map]) hC2 hc1 (by rw [hP, textsP_flat, hp]) hpl HWR.out hl)
      clear hR hC1 hC2 HRj hp hpl hall hP
      go_wp2_with (go_at_call 52; (with_reducible refine HM.out.mono ?_); rintro e2 w2 ⟨rfl, hw2, hf2⟩; have HE := Aside0.mk (more_end HB.out hw2 hf2); clear hw2 hf2)
      go_ret
      rw [HWT.out]
      exact ⟨rfl, HE.out.1, HE.out.2⟩


end Go.Proofs.Ytjkimfjhfncldaa.Q
end

section
-- written by hprint.py (a program of these sessions) out of the translation; Lean checks it
namespace Go.Proofs.Ytjkimfjhfncldaa.Q
open Go.RowKit Go.Proofs.YtjkimfjhfncldaaW.Hb Go.Proofs.YtjkimfjhfncldaaW.PrintWords Go.Proofs.YtjkimfjhfncldaaW.PrintLast Go.Proofs.YtjkimfjhfncldaaW.PrintMore
attribute [local go_sem] max2_int min2_int max_two min_two max_three min_three max_four min_four   -- for this text's walks alone
set_option linter.unusedVariables false
set_option linter.unusedSimpArgs false

/-! ### wire_Reader_none: function 55, by hand -/
set_option maxRecDepth 100000 in
theorem wire_Reader_none.calls (g : Nat) (v ev : Value) (mb : Bool) (w : World) (hb : Blk w g 72 #[v, .bool mb, ev]) : Calls Try.prog 55 #[.pointer (some ⟨g, 0, none⟩)] w fun e w' => e = .returned (.bool (!mb)) ∧ w' = w := by
  have h1 : w.cell? ⟨g, 1, none⟩ = some (.bool mb) := hb.cell 1
  clear hb
  cases mb <;> (go_enter Try.func55, Try.ntmps55; go_wp2; go_ret; exact ⟨rfl, rfl⟩)
theorem wire_Reader_none.callsNil (w : World) : Calls Try.prog 55 #[.pointer none] w fun e w' => e = .returned (.bool true) ∧ w' = w := by
  go_enter Try.func55, Try.ntmps55
  go_wp2
  go_ret
  exact ⟨rfl, rfl⟩


end Go.Proofs.Ytjkimfjhfncldaa.Q
end

section
-- written by hprint.py (a program of these sessions) out of the translation; Lean checks it
namespace Go.Proofs.Ytjkimfjhfncldaa.Q
open Go.RowKit Go.Proofs.YtjkimfjhfncldaaW.Hb Go.Proofs.YtjkimfjhfncldaaW.PrintWords Go.Proofs.YtjkimfjhfncldaaW.PrintLast Go.Proofs.YtjkimfjhfncldaaW.PrintMore
attribute [local go_sem] max2_int min2_int max_two min_two max_three min_three max_four min_four   -- for this text's walks alone
set_option linter.unusedVariables false
set_option linter.unusedSimpArgs false

/-! ### wire_bytes_Left: function 58, by hand -/
theorem wire_bytes_Left.calls (g : Nat) (A : Option Addr) (n c : Nat) (w : World) (h : w.cell? ⟨g, 0, none⟩ = some (.slice A n c)) : Calls Try.prog 58 #[.pointer (some ⟨g, 0, none⟩)] w fun e w' => e = .returned (.int .i64 n) ∧ w' = w := by
  go_enter Try.func58, Try.ntmps58
  go_wp2
  go_ret
  exact ⟨rfl, rfl⟩


end Go.Proofs.Ytjkimfjhfncldaa.Q
end

section
-- written by hprint.py (a program of these sessions) out of the translation; Lean checks it
namespace Go.Proofs.Ytjkimfjhfncldaa.Q
open Go.RowKit Go.Proofs.YtjkimfjhfncldaaW.Hb Go.Proofs.YtjkimfjhfncldaaW.PrintWords Go.Proofs.YtjkimfjhfncldaaW.PrintLast Go.Proofs.YtjkimfjhfncldaaW.PrintMore
attribute [local go_sem] max2_int min2_int max_two min_two max_three min_three max_four min_four   -- for this text's walks alone
set_option linter.unusedVariables false
set_option linter.unusedSimpArgs false

/-! ### wire_Reader_take: function 56, by hand -/
theorem ct_from {P : Program} (t e : TypeId) {i : TypeInfo} (ht : P.underlying t = some (.slice e)) (hi : P.info? e = some i) (hsz : i.size = 1) (A : Option Addr) (c : Nat) (xs : List Int) (lo : Int) (h0 : 0 ≤ lo) (h1 : lo ≤ xs.length) (hc : xs.length ≤ c) (ys : List Int) (hys : ys = xs.drop lo.toNat) :
    ∃ A' c', (∀ W : World, (Instr.slice t (.slice A xs.length c) (some (.int .i64 lo)) none none).run P W = .ok (.slice A' ys.length c') W) ∧ ys.length ≤ c' ∧ (∀ ad, A' = some ad → ∃ a0, A = some a0 ∧ ad.block = a0.block) ∧ ∀ (w : World) (k : IntKind), (Kd.int k).C w A xs.length xs → (Kd.int k).C w A' ys.length ys := by
  subst hys
  have hl : (xs.drop lo.toNat).length = xs.length - lo.toNat := by simp
  refine ⟨(if c = lo.toNat then A else A.map (·.add (lo.toNat * 1))), c - lo.toNat, fun W => ?_, by rw [hl]; omega, fun ad e => ?_, fun w k h => ?_⟩
  · rw [hl]
    exact cut_from t e .i64 ht hi 1 hsz A xs.length c lo h0 h1 W
  · split at e
    · exact ⟨ad, e, rfl⟩
    · obtain ⟨a0, rfl, rfl⟩ := Option.map_eq_some_iff.1 e
      exact ⟨a0, rfl, add_block a0 _⟩
  · exact Kd.C_drop h (by omega) hc
theorem ct_to {P : Program} (t e : TypeId) {i : TypeInfo} (ht : P.underlying t = some (.slice e)) (hi : P.info? e = some i) (A : Option Addr) (c : Nat) (xs : List Int) (hi' : Int) (h0 : 0 ≤ hi') (h1 : hi' ≤ xs.length) (hc : xs.length ≤ c) (ys : List Int) (hys : ys = xs.take hi'.toNat) :
    (∀ W : World, (Instr.slice t (.slice A xs.length c) none (some (.int .i64 hi')) none).run P W = .ok (.slice A ys.length c) W) ∧ ys.length ≤ c ∧ ∀ (w : World) (k : IntKind), (Kd.int k).C w A xs.length xs → (Kd.int k).C w A ys.length ys := by
  subst hys
  have hl : (xs.take hi'.toNat).length = hi'.toNat := by simp; omega
  refine ⟨fun W => ?_, by rw [hl]; omega, fun w k h => Kd.C_take h (by omega)⟩
  rw [hl]
  exact cut_to t e .i64 ht hi A xs.length c hi' h0 h1 hc W
/-- A reader that was made: its block g, what is left, its error; S: its blocks (its own and the one that it reads). -/
def Rd (w : World) (S : Nat → Prop) (g : Nat) (xs : List Int) (e : Int) : Prop := ∃ A c, Blk w g 72 #[.slice A xs.length c, .bool true, .int .i64 e] ∧ xs.length ≤ c ∧ S g ∧ (∀ ad, A = some ad → S ad.block ∧ ad.block ≠ g ∧ ad.block < w.heap.size) ∧ (Kd.int .u8).C w A xs.length xs ∧ ∀ x ∈ xs, 0 ≤ x ∧ x ≤ 255
theorem Rd.lt {w : World} {S : Nat → Prop} {g : Nat} {xs : List Int} {e : Int} (h : Rd w S g xs e) : g < w.heap.size := by
  obtain ⟨A, c, hb, _⟩ := h
  exact hb.lt
theorem C_keptb {w w1 : World} {A : Option Addr} {xs : List Int} {S2 : Nat → Prop} (h : (Kd.int .u8).C w A xs.length xs) (hk : Kept w w1 S2) (hd : ∀ ad, A = some ad → ¬ S2 ad.block ∧ ad.block < w.heap.size) : (Kd.int .u8).C w1 A xs.length xs := C_blocks h (fun ad e => hk.2 _ (hd ad e).2 (hd ad e).1)
theorem Rd.kept {w w' : World} {S S2 : Nat → Prop} {g : Nat} {xs : List Int} {e : Int} (h : Rd w S g xs e) (hk : Kept w w' S2) (hd : ∀ k, S k → ¬ S2 k) : Rd w' S g xs e := by
  obtain ⟨A, c, hb, hc, hS, hA, hC, hx⟩ := h
  exact ⟨A, c, blk_kept hb hk (hd g hS), hc, hS, fun ad e => ⟨(hA ad e).1, (hA ad e).2.1, Nat.lt_of_lt_of_le (hA ad e).2.2 hk.1⟩, C_keptb hC hk (fun ad e => ⟨hd _ (hA ad e).1, (hA ad e).2.2⟩), hx⟩
theorem Rd.mono {w : World} {S S' : Nat → Prop} {g : Nat} {xs : List Int} {e : Int} (h : Rd w S g xs e) (hs : ∀ k, S k → S' k) : Rd w S' g xs e := by
  obtain ⟨A, c, hb, hc, hS, hA, hC, hx⟩ := h
  exact ⟨A, c, hb, hc, hs g hS, fun ad e => ⟨hs _ (hA ad e).1, (hA ad e).2⟩, hC, hx⟩
theorem Rd.below {w w' : World} {S : Nat → Prop} {g : Nat} {xs : List Int} {e : Int} (h : Rd w S g xs e) (hb : Below w.heap.size w w') : Rd w' S g xs e := h.kept (Kept.of_below hb (fun _ => False)) (fun _ _ hk => hk)
/-- A store into a reader's own block. -/
theorem Rd.far {w : World} {g : Nat} {A : Option Addr} {xs : List Int} (hC : (Kd.int .u8).C w A xs.length xs) (hA : ∀ ad, A = some ad → ad.block ≠ g ∧ ad.block < w.heap.size) (j : Nat) (u : Value) : (Kd.int .u8).C (w.setCell ⟨g, j, none⟩ u) A xs.length xs :=
  C_keptb (S2 := fun k => k = g) hC (Kept.setCell (S := fun k => k = g) (Kept.refl w _) (.inl rfl) u) (fun ad e => ⟨(hA ad e).1, (hA ad e).2⟩)
theorem Fr.set_ (w : World) (g j : Nat) (u : Value) : Fr w (w.setCell ⟨g, j, none⟩ u) (fun k => k = g) := ⟨(Below.refl 0 w).setCell (Nat.zero_le _) u, Kept.setCell (S := fun k => k = g) (Kept.refl w _) (.inl rfl) u⟩
set_option maxRecDepth 100000 in
theorem wire_Reader_take.calls_err (S : Nat → Prop) (g : Nat) (xs : List Int) (ev n : Int) (w : World) (hR : Rd w S g xs ev) (he : ev ≠ 0) :
    Calls Try.prog 56 #[.pointer (some ⟨g, 0, none⟩), .int .i64 n] w fun e w' => e = .returned (.slice none 0 0) ∧ w' = w := by
  obtain ⟨A, c, hb, hc, hS, hA, hC, hx⟩ := hR
  have HB := Aside0.mk hb
  have h2 : w.cell? ⟨g, 2, none⟩ = some (.int .i64 ev) := hb.cell 2
  have d1 : (ev == 0) = false := by simp [he]
  have d2 : (ev != 0) = true := by simp [he]
  clear hb hC hx hA he
  go_enter Try.func56, Try.ntmps56
  go_wp2_with (go_at_call 55; (with_reducible refine (wire_Reader_none.calls g _ _ true _ HB.out).mono ?_); rintro e2 w2 ⟨rfl, hw2⟩; subst w2)
  go_ret
  exact ⟨rfl, rfl⟩
set_option maxRecDepth 100000 in
theorem wire_Reader_take.calls_end (S : Nat → Prop) (g : Nat) (xs : List Int) (n : Int) (w : World) (hR : Rd w S g xs 0) (hn : (xs.length : Int) < n) :
    Calls Try.prog 56 #[.pointer (some ⟨g, 0, none⟩), .int .i64 n] w fun e w' => e = .returned (.slice none 0 0) ∧ Rd w' S g xs 20 ∧ Fr w w' (fun k => k = g) := by
  obtain ⟨A, c, hb, hc, hS, hA, hC, hx⟩ := hR
  have HB := Aside0.mk hb
  have h0 : w.cell? ⟨g, 0, none⟩ = some (.slice A xs.length c) := hb.cell 0
  have h2 : w.cell? ⟨g, 2, none⟩ = some (.int .i64 0) := hb.cell 2
  have f2 : w.frozen? ⟨g, 2, none⟩ = false := hb.frozen 2
  have d1 : decide ((xs.length : Int) < n) = true := decide_eq_true hn
  have HC := Aside0.mk hC
  have HX := Aside0.mk hx
  have HA := Aside0.mk hA
  have hm : xs.length ≤ 9223372036854775807 := hC.2.1
  clear hb hC hx hA hn
  go_enter Try.func56, Try.ntmps56
  go_wp2_with (first | (go_at_call 55; (with_reducible refine (wire_Reader_none.calls g _ _ true _ HB.out).mono ?_); rintro e2 w2 ⟨rfl, hw2⟩; subst w2) | (go_at_call 58; (with_reducible refine (wire_bytes_Left.calls g A xs.length c _ (HB.out.cell 0)).mono ?_); rintro e2 w2 ⟨rfl, hw2⟩; subst w2))
  go_ret
  refine ⟨rfl, ⟨A, c, by simpa using HB.out.set_ 2 (.int .i64 20), hc, hS, fun ad e => ⟨(HA.out ad e).1, (HA.out ad e).2.1, by simpa [World.setCell] using (HA.out ad e).2.2⟩, Rd.far HC.out (fun ad e => (HA.out ad e).2) 2 _, HX.out⟩, Fr.set_ w g 2 _⟩
set_option maxRecDepth 100000 in
set_option maxHeartbeats 1000000 in
theorem wire_Reader_take.calls_ok (S : Nat → Prop) (g : Nat) (xs : List Int) (n : Int) (m : Nat) (hnm : n = (m : Int)) (y z : List Int) (hy' : xs.take m = y) (hz' : xs.drop m = z) (w : World) (hR : Rd w S g xs 0) (hn : m ≤ xs.length) :
    Calls Try.prog 56 #[.pointer (some ⟨g, 0, none⟩), .int .i64 n] w fun e w' => ∃ A c, e = .returned (.slice A y.length c) ∧ y.length ≤ c ∧ (Kd.int .u8).C w' A y.length y ∧ (∀ ad, A = some ad → S ad.block ∧ ad.block ≠ g ∧ ad.block < w'.heap.size) ∧ Rd w' S g z 0 ∧ Fr w w' (fun k => k = g) := by
  have hy := hy'.symm
  have hz := hz'.symm
  clear hy' hz'
  subst hnm
  obtain ⟨A, c, hb, hc, hS, hA, hC, hx⟩ := hR
  obtain ⟨ii, hii, his⟩ : ∃ ii, Try.prog.info? 5 = some ii ∧ ii.size = 1 := by
    obtain ⟨ii, h1, h2⟩ := Option.map_eq_some_iff.1 info5
    exact ⟨ii, h1, congrArg (fun p => p.2.1) h2⟩
  obtain ⟨hq1, hyc, hC1⟩ := ct_to (P := Try.prog) 22 5 Try.underlying22 hii A c xs (m : Int) (by omega) (by omega) hc y (by rw [hy, Int.toNat_natCast])
  obtain ⟨A2, c2, hq2, hzc, hA2, hC2⟩ := ct_from (P := Try.prog) 22 5 Try.underlying22 hii his A c xs (m : Int) (by omega) (by omega) hc z (by rw [hz, Int.toNat_natCast])
  have HB := Aside0.mk hb
  have h0 : w.cell? ⟨g, 0, none⟩ = some (.slice A xs.length c) := hb.cell 0
  have f0 : w.frozen? ⟨g, 0, none⟩ = false := hb.frozen 0
  have h2 : w.cell? ⟨g, 2, none⟩ = some (.int .i64 0) := hb.cell 2
  have d1 : decide (xs.length < m) = false := decide_eq_false (by omega)
  have HC := Aside0.mk hC
  have HX := Aside0.mk (show ∀ x ∈ z, 0 ≤ x ∧ x ≤ 255 from fun x h => hx x (List.mem_of_mem_drop (hz ▸ h)))
  have HA := Aside0.mk hA
  have HA2 := Aside0.mk hA2
  have HC1 := Aside0.mk (hC1 w .u8 hC)
  have HC2 := Aside0.mk (hC2 w .u8 hC)
  have hm : xs.length ≤ 9223372036854775807 := hC.2.1
  clear hb hC hx hA hA2 hC1 hC2 hy hz hn
  go_enter Try.func56, Try.ntmps56
  go_wp2_with (first | (go_at_call 55; (with_reducible refine (wire_Reader_none.calls g _ _ true _ HB.out).mono ?_); rintro e2 w2 ⟨rfl, hw2⟩; subst w2) | (go_at_call 58; (with_reducible refine (wire_bytes_Left.calls g A xs.length c _ (HB.out.cell 0)).mono ?_); rintro e2 w2 ⟨rfl, hw2⟩; subst w2))
  go_ret
  have hA3 : ∀ ad, A2 = some ad → S ad.block ∧ ad.block ≠ g ∧ ad.block < w.heap.size := fun ad e => by
    obtain ⟨a0, e0, hbk⟩ := HA2.out ad e
    rw [hbk]
    exact HA.out a0 e0
  refine ⟨A, c, rfl, hyc, Rd.far HC1.out (fun ad e => (HA.out ad e).2) 0 _, fun ad e => ⟨(HA.out ad e).1, (HA.out ad e).2.1, by simpa [World.setCell] using (HA.out ad e).2.2⟩, ⟨A2, c2, by simpa using HB.out.set_ 0 (.slice A2 z.length c2), hzc, hS, fun ad e => ⟨(hA3 ad e).1, (hA3 ad e).2.1, by simpa [World.setCell] using (hA3 ad e).2.2⟩, Rd.far HC2.out (fun ad e => (hA3 ad e).2) 0 _, HX.out⟩, Fr.set_ w g 0 _⟩


end Go.Proofs.Ytjkimfjhfncldaa.Q
end

section
-- written by hprint.py (a program of these sessions) out of the translation; Lean checks it
namespace Go.Proofs.Ytjkimfjhfncldaa.Q
open Go.RowKit Go.Proofs.YtjkimfjhfncldaaW.Hb Go.Proofs.YtjkimfjhfncldaaW.PrintWords Go.Proofs.YtjkimfjhfncldaaW.PrintLast Go.Proofs.YtjkimfjhfncldaaW.PrintMore
attribute [local go_sem] max2_int min2_int max_two min_two max_three min_three max_four min_four   -- for this text's walks alone
set_option linter.unusedVariables false
set_option linter.unusedSimpArgs false

/-! ### wire_Reader_Byte: function 34, by hand -/
def rByte (xs : List Int) (e : Int) : Int × List Int × Int := if e ≠ 0 then (0, xs, e) else if xs.length < 1 then (0, xs, 20) else (rd xs 0, xs.drop 1, 0)
theorem rd_take {xs : List Int} {n i : Nat} (h : i < n) : rd (xs.take n) (i : Int) = rd xs (i : Int) := by
  simp only [rd, Int.toNat_natCast, List.getD_eq_getElem?_getD, List.getElem?_take, h, if_true]
theorem rd_in {xs : List Int} (hx : ∀ x ∈ xs, 0 ≤ x ∧ x ≤ 255) (i : Nat) (hi : i < xs.length) : 0 ≤ rd xs (i : Int) ∧ rd xs (i : Int) ≤ 255 := by
  simp only [rd, Int.toNat_natCast, List.getD_eq_getElem?_getD, List.getElem?_eq_getElem hi, Option.getD_some]
  exact hx _ (List.getElem_mem hi)
theorem Rd.B {w : World} {S : Nat → Prop} {g : Nat} {xs : List Int} {e : Int} (h : Rd w S g xs e) : ∀ x ∈ xs, 0 ≤ x ∧ x ≤ 255 := by
  obtain ⟨_, _, _, _, _, _, _, hx⟩ := h
  exact hx
theorem Rd.len {w : World} {S : Nat → Prop} {g : Nat} {xs : List Int} {e : Int} (h : Rd w S g xs e) : xs.length ≤ 9223372036854775807 := by
  obtain ⟨_, _, _, _, _, _, hC, _⟩ := h
  exact hC.2.1
set_option maxRecDepth 100000 in
set_option maxHeartbeats 1000000 in
theorem wire_Reader_Byte.calls (S : Nat → Prop) (g : Nat) (xs : List Int) (ev : Int) (w : World) (hR : Rd w S g xs ev) :
    Calls Try.prog 34 #[.pointer (some ⟨g, 0, none⟩)] w fun e w' => e = .returned (.int .i64 (rByte xs ev).1) ∧ Rd w' S g (rByte xs ev).2.1 (rByte xs ev).2.2 ∧ Fr w w' (fun k => k = g) := by
  have qT : ∀ (w : World) (a : Option Addr) (n c n' c' : Nat), (binOp .neq 22 (.slice a n c) (.slice none n' c')).run Try.prog w = .ok (.bool (!a.isNone)) w := fun w a n c n' c' => run_neq_slice_nil_any w _ _ a n c n' c' Try.underlying22
  have HR := Aside0.mk hR
  clear hR
  by_cases he : ev ≠ 0
  · have HS := Aside0.mk (show rByte xs ev = (0, xs, ev) from if_pos he)
    have HE := Aside0.mk he
    clear he
    go_enter Try.func34, Try.ntmps34
    go_wp2_with (go_at_call 56; (with_reducible refine (wire_Reader_take.calls_err S g xs ev 1 _ HR.out HE.out).mono ?_); rintro e2 w2 ⟨rfl, hw2⟩; subst w2)
    go_ret
    rw [HS.out]
    exact ⟨rfl, HR.out, Fr.of_below (Below.refl _ _) _⟩
  · obtain rfl : ev = 0 := by omega
    by_cases h1 : xs.length < 1
    · have HS := Aside0.mk (show rByte xs 0 = (0, xs, 20) by unfold rByte; rw [if_neg (by decide), if_pos h1])
      have HL := Aside0.mk (show (xs.length : Int) < 1 by omega)
      clear he h1
      go_enter Try.func34, Try.ntmps34
      go_wp2_with (go_at_call 56; (with_reducible refine (wire_Reader_take.calls_end S g xs 1 _ HR.out HL.out).mono ?_); rintro e2 w2 ⟨rfl, hR2, hF2⟩; have HR2 := Aside0.mk hR2; have HF2 := Aside0.mk hF2; clear hR2 hF2)
      go_ret
      rw [HS.out]
      exact ⟨rfl, HR2.out, HF2.out⟩
    · have hz0 := rd_in HR.out.B 0 (by omega)
      have hrd := rd_take (xs := xs) (n := 1) (i := 0) (by omega)
      have hyl : (xs.take 1).length = 1 := by rw [List.length_take]; omega
      have HL := Aside0.mk (show 1 ≤ xs.length by omega)
      have HS := Aside0.mk (show rByte xs 0 = (rd xs (0 : Nat), xs.drop 1, 0) by unfold rByte; rw [if_neg (by decide), if_neg h1]; rfl)
      obtain ⟨x0, hx0⟩ : ∃ x0, rd xs (0 : Nat) = x0 := ⟨_, rfl⟩
      obtain ⟨y, hy⟩ : ∃ y, xs.take 1 = y := ⟨_, rfl⟩
      obtain ⟨z, hz⟩ : ∃ z, xs.drop 1 = z := ⟨_, rfl⟩
      have HY := Aside0.mk hy
      have HZ := Aside0.mk hz
      rw [hx0] at hz0 hrd HS
      rw [hz] at HS
      rw [hy] at hrd hyl
      obtain ⟨hz1, hz2⟩ := hz0
      have HRD := Aside0.mk hrd
      have hy1 : 0 < y.length := by omega
      have hy2 : y.length ≤ 1 := by omega
      clear he h1 hx0 hy hz hrd hyl
      go_enter Try.func34, Try.ntmps34
      go_upto_region 2 with (go_at_call 56; (with_reducible refine (wire_Reader_take.calls_ok S g xs 1 1 rfl y z HY.out HZ.out _ HR.out HL.out).mono ?_); rintro e2 w2 ⟨A2, c2, rfl, hc2, hC2, hA2, hR2, hF2⟩; have HR2 := Aside0.mk hR2; have HF2 := Aside0.mk hF2; have HC2 := Aside0.mk hC2; clear hR2 hF2 hC2 hA2)
      obtain ⟨ad, e, hcell⟩ := Kd.at_int HC2.out (0 : Nat) (by omega) (by omega)
      subst e
      rw [HRD.out] at hcell
      replace hcell : w2.cell? ad = some (.int .u8 x0) := by
        have e0 : ad.add ((0 : Nat) : Int).toNat = ad := by cases ad; simp [Addr.add]
        rwa [e0] at hcell
      clear HC2
      go_wp2
      go_ret
      rw [HS.out]
      exact ⟨rfl, HR2.out, HF2.out⟩


end Go.Proofs.Ytjkimfjhfncldaa.Q
end

section
-- written by hprint.py (a program of these sessions) out of the translation; Lean checks it
namespace Go.Proofs.Ytjkimfjhfncldaa.Q
open Go.RowKit Go.Proofs.YtjkimfjhfncldaaW.Hb Go.Proofs.YtjkimfjhfncldaaW.PrintWords Go.Proofs.YtjkimfjhfncldaaW.PrintLast Go.Proofs.YtjkimfjhfncldaaW.PrintMore
attribute [local go_sem] max2_int min2_int max_two min_two max_three min_three max_four min_four   -- for this text's walks alone
set_option linter.unusedVariables false
set_option linter.unusedSimpArgs false

/-! ### wire_number: function 47 -/
def wire_number.l0 : Nat → Int → List Int → Int → Int → Option (Int)
  | 0, _, _, _, _ => none
  | k + 1, x3, x6, x7, x8 => if x8 < x7 then (if 0 ≤ x8 then (if x8 < (x6.length : Int) then (wire_number.l0 k (Go.bits .or .u64 (IntKind.u64.wrap (x3 * 256)) (IntKind.u64.wrap (rd x6 x8))) x6 x7 (wrap64 (x8 + 1))) else (none)) else (none)) else (some x3)
def wire_number.f (k : Nat) (l0 : List Int) : Option (Int) := wire_number.l0 k 0 l0 (l0.length : Int) 0
theorem wire_number.mono_l : ∀ k, (∀ y0 y1 y2 y3, LeO (wire_number.l0 k y0 y1 y2 y3) (wire_number.l0 (k + 1) y0 y1 y2 y3))
  | 0 => fun _ _ _ _ r h => by simp [wire_number.l0] at h
  | k + 1 => by
    have ih0 := wire_number.mono_l k
    · intro y0 y1 y2 y3
      unfold wire_number.l0
      repeat' first
      | (with_reducible exact ih0 _ _ _ _)
      | (with_reducible exact LeO.refl _)
      | (with_reducible exact LeO.none _)
      | (with_reducible refine LeO.ite ?_ ?_)
      | (with_reducible refine LeO.bind ?_ (fun _ => ?_))
      | exact ih0 _ _ _ _
      | exact LeO.none _
      | refine LeO.ite ?_ ?_
      | refine LeO.bind ?_ (fun _ => ?_)
theorem wire_number.mono : ∀ a0 k, LeO (wire_number.f k a0) (wire_number.f (k + 1) a0) := by
  intro a0 k
  have ih0 := wire_number.mono_l k
  unfold wire_number.f
  repeat' first
      | (with_reducible exact ih0 _ _ _ _)
      | (with_reducible exact LeO.refl _)
      | (with_reducible exact LeO.none _)
      | (with_reducible refine LeO.ite ?_ ?_)
      | (with_reducible refine LeO.bind ?_ (fun _ => ?_))
      | exact ih0 _ _ _ _
      | exact LeO.none _
      | refine LeO.ite ?_ ?_
      | refine LeO.bind ?_ (fun _ => ?_)
set_option maxHeartbeats 8000000 in
set_option maxRecDepth 100000 in
theorem wire_number.calls (k : Nat) (A0 : Option Addr) (c0 : Nat) (l0 : List Int) (r : Int) (w : World) (hr0 : Kd.C (Kd.int .u8) w A0 l0.length l0) (hc0 : l0.length ≤ c0) (h : wire_number.f k l0 = some r) :
    Calls Try.prog 47 #[.slice A0 l0.length c0] w fun e w' => e = .returned (.int .u64 r) ∧ Drawn0 w w' := by
  have HR0 := Aside0.mk hr0
  have HC0 := Aside0.mk hc0
  clear hr0 hc0
  have H : (wire_number.l0 k 0 l0 (l0.length : Int) 0) = some r := h
  clear h
  have H' := Aside0.mk H
  clear H
  go_enter Try.func47, Try.ntmps47
  go_wp2
  go_loopg [3, 8] k (fun kq v3 v8 w' => ∃ (x3_1 : Int) (x8_1 : Int), v3 = .int .u64 x3_1 ∧ v8 = .int .i64 x8_1 ∧ Aside0 (wire_number.l0 kq x3_1 l0 (l0.length : Int) x8_1 = some r) ∧ Aside0 (kq ≤ k) ∧ Drawn0 w w')
  case atStart => exact ⟨(0), (0), (by first | rfl | (simp; done) | (simp [*]; done)), (by first | rfl | (simp; done) | (simp [*]; done)), H', ⟨Nat.le_refl _⟩, by repeat (first | exact Drawn0.refl _ | apply Drawn0.step)⟩
  case round =>
    clear H'
    obtain ⟨x3_1, x8_1, rfl, rfl, HA, HK1, ⟨m1, rfl⟩⟩ := hrel
    cases gk with
    | zero => exact absurd HA.out (by simp [wire_number.l0])
    | succ k1 =>
      have H := HA.out
      clear HA
      simp only [wire_number.l0] at H
      by_cases c2 : x8_1 < (l0.length : Int)
      · rw [if_pos c2] at H
        have c2b0 : decide (x8_1 < (l0.length : Int)) = true := decide_eq_true c2
        clear c2
        by_cases c3 : 0 ≤ x8_1
        · rw [if_pos c3] at H
          have c3b0 : decide (0 ≤ x8_1) = true := decide_eq_true c3
          clear c3
          by_cases c4 : x8_1 < (l0.length : Int)
          · rw [if_pos c4] at H
            have c4b0 : decide (x8_1 < (l0.length : Int)) = true := decide_eq_true c4
            clear c4
            have H' := Aside0.mk H
            clear H
            have p129 : 0 ≤ (x8_1 : Int) := of_decide_eq_true (by first | (with_reducible assumption) | assumption)
            have q129 : x8_1 < (l0.length : Int) := of_decide_eq_true (by first | (with_reducible assumption) | assumption)
            obtain ⟨ad129, e129, hx129_0⟩ := Kd.at_int HR0.out x8_1 p129 q129
            cases e129
            replace p129 := eq_true p129
            replace q129 := eq_true q129
            go_wp2
            go_roundg k1
            case measure => have := HK1.out; omega
            case rel => exact ⟨(Go.bits .or .u64 (IntKind.u64.wrap (x3_1 * 256)) (IntKind.u64.wrap (rd l0 x8_1))), (wrap64 (x8_1 + 1)), (by first | rfl | (simp; done) | (simp [*]; done)), (by first | rfl | (simp; done) | (simp [*]; done)), H', ⟨by have := HK1.out; omega⟩, by repeat (first | exact Drawn0.refl _ | apply Drawn0.step)⟩
          · rw [if_neg c4] at H
            exact absurd H (by simp)
        · rw [if_neg c3] at H
          exact absurd H (by simp)
      · rw [if_neg c2] at H
        have c2b0 : decide (x8_1 < (l0.length : Int)) = false := decide_eq_false c2
        clear c2
        obtain rfl := Option.some.inj H
        go_wp2
        go_ret
        exact ⟨by first | rfl | (simp; done) | (simp [*]; done), by repeat (first | exact Drawn0.refl _ | apply Drawn0.step)⟩

end Go.Proofs.Ytjkimfjhfncldaa.Q
end

section
-- written by hprint.py (a program of these sessions) out of the translation; Lean checks it
namespace Go.Proofs.Ytjkimfjhfncldaa.Q
open Go.RowKit Go.Proofs.YtjkimfjhfncldaaW.Hb Go.Proofs.YtjkimfjhfncldaaW.PrintWords Go.Proofs.YtjkimfjhfncldaaW.PrintLast Go.Proofs.YtjkimfjhfncldaaW.PrintMore
attribute [local go_sem] max2_int min2_int max_two min_two max_three min_three max_four min_four   -- for this text's walks alone
set_option linter.unusedVariables false
set_option linter.unusedSimpArgs false

/-! ### wire_Reader_Int: function 36, by hand -/
def numB (n : Nat) (l : List Int) : Nat := l.foldl (fun n b => n * 256 + b.toNat) n
theorem orB (n b : Nat) (hb : b < 256) : (n * 256) ||| b = n * 256 + b := by
  have h : n * 256 = n <<< 8 := by rw [Nat.shiftLeft_eq]
  rw [h]
  exact (Nat.shiftLeft_add_eq_or_of_lt (by omega) n).symm
theorem wrapU64 (n : Int) : IntKind.u64.wrap n = n % 18446744073709551616 := by simp [IntKind.wrap, IntKind.bits, IntKind.signed]
theorem wrapI {n : Int} (h1 : -9223372036854775808 ≤ n) (h2 : n ≤ 9223372036854775807) : wrap64 n = n := by unfold wrap64; omega
theorem rdN (l : List Int) (i : Nat) (hi : i < l.length) : rd l (i : Int) = l[i] := by
  simp [rd, List.getD_eq_getElem?_getD, hi]
set_option maxRecDepth 10000 in
theorem numB_step (n : Nat) (b : Int) (hb : 0 ≤ b ∧ b ≤ 255) (hn : n * 256 + 255 < 18446744073709551616) : Go.bits .or .u64 (IntKind.u64.wrap ((n : Int) * 256)) (IntKind.u64.wrap b) = ((n * 256 + b.toNat : Nat) : Int) := by
  have h0 := hb.1
  have h1 := hb.2
  have e1 : IntKind.u64.wrap ((n : Int) * 256) = ((n * 256 : Nat) : Int) := by rw [wrapU64]; omega
  have e2 : IntKind.u64.wrap b = ((b.toNat : Nat) : Int) := by rw [wrapU64]; omega
  rw [e1, e2, bits_or_u64_nat _ _ (by omega) (by omega), orB _ _ (by omega)]
theorem numB_run (l : List Int) (hl : ∀ x ∈ l, 0 ≤ x ∧ x ≤ 255) (hm : l.length < 9223372036854775807) : ∀ (m i k n : Nat), i + m = l.length → (n + 1) * 256 ^ m ≤ 18446744073709551616 → wire_number.l0 (k + m + 1) (n : Int) l (l.length : Int) (i : Int) = some ((numB n (l.drop i) : Nat) : Int)
  | 0, i, k, n, hi, hn => by
    rw [wire_number.l0, if_neg (by omega), List.drop_eq_nil_of_le (by omega)]
    rfl
  | m + 1, i, k, n, hi, hn => by
    have hil : i < l.length := by omega
    have hb : 0 ≤ l[i] ∧ l[i] ≤ 255 := hl _ (List.getElem_mem hil)
    have hp : 0 < 256 ^ m := Nat.pow_pos (by omega)
    have hn1 : (n + 1) * 256 * 256 ^ m ≤ 18446744073709551616 := by rw [Nat.mul_assoc, Nat.mul_comm 256, ← Nat.pow_succ]; exact hn
    have hn2 : (n + 1) * 256 ≤ 18446744073709551616 := Nat.le_trans (Nat.le_mul_of_pos_right _ (by omega)) hn1
    rw [show k + (m + 1) + 1 = (k + m + 1) + 1 by omega, wire_number.l0, if_pos (by omega), if_pos (by omega), if_pos (by omega), rdN l i hil, numB_step n _ hb (by omega)]
    have e : wrap64 ((i : Int) + 1) = ((i + 1 : Nat) : Int) := by rw [wrapI (by omega) (by omega)]; omega
    have hbt : l[i].toNat ≤ 255 := by have := hb.2; omega
    rw [e, numB_run l hl hm m (i + 1) k (n * 256 + l[i].toNat) (by omega) (Nat.le_trans (Nat.mul_le_mul_right _ (by omega)) hn1), List.drop_eq_getElem_cons hil]
    rfl
theorem numB_eq (l : List Int) (hl : ∀ x ∈ l, 0 ≤ x ∧ x ≤ 255) (h4 : l.length ≤ 8) (k : Nat) : wire_number.f (k + l.length + 1) l = some (numB 0 l : Int) := by
  have hp : 256 ^ l.length ≤ 256 ^ 8 := Nat.pow_le_pow_right (by omega) h4
  exact numB_run l hl (by omega) l.length 0 k 0 (by omega) (by omega)
def rInt (xs : List Int) (e : Int) : Int × List Int × Int := if e ≠ 0 then (0, xs, e) else if xs.length < 8 then (0, xs, 20) else (wrap64 (numB 0 (xs.take 8) : Int), xs.drop 8, 0)
set_option maxRecDepth 100000 in
set_option maxHeartbeats 1000000 in
theorem wire_Reader_Int.calls (S : Nat → Prop) (g : Nat) (xs : List Int) (ev : Int) (w : World) (hR : Rd w S g xs ev) :
    Calls Try.prog 36 #[.pointer (some ⟨g, 0, none⟩)] w fun e w' => e = .returned (.int .i64 (rInt xs ev).1) ∧ Rd w' S g (rInt xs ev).2.1 (rInt xs ev).2.2 ∧ Fr w w' (fun k => k = g) := by
  have qT : ∀ (w : World) (a : Option Addr) (n c n' c' : Nat), (binOp .neq 22 (.slice a n c) (.slice none n' c')).run Try.prog w = .ok (.bool (!a.isNone)) w := fun w a n c n' c' => run_neq_slice_nil_any w _ _ a n c n' c' Try.underlying22
  have HR := Aside0.mk hR
  clear hR
  by_cases he : ev ≠ 0
  · have HS := Aside0.mk (show rInt xs ev = (0, xs, ev) from if_pos he)
    have HE := Aside0.mk he
    clear he
    go_enter Try.func36, Try.ntmps36
    go_wp2_with (go_at_call 56; (with_reducible refine (wire_Reader_take.calls_err S g xs ev 8 _ HR.out HE.out).mono ?_); rintro e2 w2 ⟨rfl, hw2⟩; subst w2)
    go_ret
    rw [HS.out]
    exact ⟨rfl, HR.out, Fr.of_below (Below.refl _ _) _⟩
  · obtain rfl : ev = 0 := by omega
    by_cases h1 : xs.length < 8
    · have HS := Aside0.mk (show rInt xs 0 = (0, xs, 20) by unfold rInt; rw [if_neg (by decide), if_pos h1])
      have HL := Aside0.mk (show (xs.length : Int) < 8 by omega)
      clear he h1
      go_enter Try.func36, Try.ntmps36
      go_wp2_with (go_at_call 56; (with_reducible refine (wire_Reader_take.calls_end S g xs 8 _ HR.out HL.out).mono ?_); rintro e2 w2 ⟨rfl, hR2, hF2⟩; have HR2 := Aside0.mk hR2; have HF2 := Aside0.mk hF2; clear hR2 hF2)
      go_ret
      rw [HS.out]
      exact ⟨rfl, HR2.out, HF2.out⟩
    · have hyl : (xs.take 8).length = 8 := by rw [List.length_take]; omega
      have hyB : ∀ x ∈ xs.take 8, 0 ≤ x ∧ x ≤ 255 := fun x hx => Rd.B HR.out x (List.mem_of_mem_take hx)
      have hnum := numB_eq (xs.take 8) hyB (by omega) 0
      have HL := Aside0.mk (show 8 ≤ xs.length by omega)
      have HS := Aside0.mk (show rInt xs 0 = (wrap64 (numB 0 (xs.take 8) : Int), xs.drop 8, 0) by unfold rInt; rw [if_neg (by decide), if_neg h1])
      obtain ⟨y, hy⟩ : ∃ y, xs.take 8 = y := ⟨_, rfl⟩
      obtain ⟨z, hz⟩ : ∃ z, xs.drop 8 = z := ⟨_, rfl⟩
      have HY := Aside0.mk hy
      have HZ := Aside0.mk hz
      rw [hy] at hyl hnum HS
      rw [hz] at HS
      obtain ⟨nv, hnv⟩ : ∃ nv : Int, (numB 0 y : Int) = nv := ⟨_, rfl⟩
      rw [hnv] at hnum HS
      have HN := Aside0.mk hnum
      have hy1 : 0 < y.length := by omega
      obtain ⟨kk, hkk⟩ : ∃ kk, 0 + y.length + 1 = kk := ⟨_, rfl⟩
      rw [hkk] at HN
      clear he h1 hy hz hnum hnv hyl hyB hkk
      go_enter Try.func36, Try.ntmps36
      go_upto_region 2 with (go_at_call 56; (with_reducible refine (wire_Reader_take.calls_ok S g xs 8 8 rfl y z HY.out HZ.out _ HR.out HL.out).mono ?_); rintro e2 w2 ⟨A2, c2, rfl, hc2, hC2, hA2, hR2, hF2⟩; have HR2 := Aside0.mk hR2; have HF2 := Aside0.mk hF2; have HC2 := Aside0.mk hC2; clear hR2 hF2 hC2 hA2)
      obtain ⟨ad, e, _⟩ := Kd.at_int HC2.out (0 : Nat) (by omega) (by omega)
      subst e
      go_wp2_with (go_at_call 47; (with_reducible refine (wire_number.calls kk (some ad) c2 y nv _ HC2.out hc2 HN.out).mono ?_); rintro e1 w1 ⟨rfl, hd1⟩; have HD1 := Aside0.mk hd1.below; clear hd1)
      go_ret
      rw [HS.out]
      exact ⟨rfl, HR2.out.below HD1.out, HF2.out.then_ (Fr.of_below HD1.out (fun k => k = g)) (fun _ h => .inl h)⟩


end Go.Proofs.Ytjkimfjhfncldaa.Q
end

section
-- written by hprint.py (a program of these sessions) out of the translation; Lean checks it
namespace Go.Proofs.Ytjkimfjhfncldaa.Q
open Go.RowKit Go.Proofs.YtjkimfjhfncldaaW.Hb Go.Proofs.YtjkimfjhfncldaaW.PrintWords Go.Proofs.YtjkimfjhfncldaaW.PrintLast Go.Proofs.YtjkimfjhfncldaaW.PrintMore
attribute [local go_sem] max2_int min2_int max_two min_two max_three min_three max_four min_four   -- for this text's walks alone
set_option linter.unusedVariables false
set_option linter.unusedSimpArgs false

/-! ### weighhouselaw01_Lent: function 12 -/
def weighhouselaw01_Lent.f (l0 : List Int) : Option (List Int) := (some (([] : List Int) : List Int)).bind fun y101 => (if y101.length + l0.length < 140737488355328 then ((some (y101 ++ l0 : List Int)).bind fun y104 => ((some (([77, 78] : List Int) : List Int)).bind fun y107 => (if y104.length + y107.length < 140737488355328 then ((some (y104 ++ y107 : List Int)).bind fun y110 => (if 0 ≤ (l0.length : Int) then (if (l0.length : Int) ≤ (y110.length : Int) then (some (y110.take ((l0.length : Int) : Int).toNat)) else (none)) else (none))) else (none)))) else (none))
set_option maxHeartbeats 8000000 in
set_option maxRecDepth 100000 in
theorem weighhouselaw01_Lent.calls (A0 : Option Addr) (c0 : Nat) (l0 : List Int) (r : List Int) (w : World) (hr0 : Kd.C (Kd.int .u8) w A0 l0.length l0) (hc0 : l0.length ≤ c0) (h : weighhouselaw01_Lent.f l0 = some r) :
    Calls Try.prog 12 #[.slice A0 l0.length c0] w fun e w' => ∃ v0_ : Value, e = .returned (v0_) ∧ Kd.R (Kd.int .u8) 5 w' w.heap.size (fun _ => True) v0_ r ∧ Below w.heap.size w w' := by
  have HR0 := Aside0.mk hr0
  have HC0 := Aside0.mk hc0
  clear hr0 hc0
  have HB := Aside0.mk (Below.refl w.heap.size w)
  have H : ((some (([] : List Int) : List Int)).bind fun y101 => (if y101.length + l0.length < 140737488355328 then ((some (y101 ++ l0 : List Int)).bind fun y104 => ((some (([77, 78] : List Int) : List Int)).bind fun y107 => (if y104.length + y107.length < 140737488355328 then ((some (y104 ++ y107 : List Int)).bind fun y110 => (if 0 ≤ (l0.length : Int) then (if (l0.length : Int) ≤ (y110.length : Int) then (some (y110.take ((l0.length : Int) : Int).toNat)) else (none)) else (none))) else (none)))) else (none))) = some r := h
  clear h
  obtain ⟨y101, hy101⟩ : ∃ y_ : List Int, y_ = (([] : List Int)) := ⟨_, rfl⟩
  replace H : (if y101.length + l0.length < 140737488355328 then ((some (y101 ++ l0 : List Int)).bind fun y104 => ((some (([77, 78] : List Int) : List Int)).bind fun y107 => (if y104.length + y107.length < 140737488355328 then ((some (y104 ++ y107 : List Int)).bind fun y110 => (if 0 ≤ (l0.length : Int) then (if (l0.length : Int) ≤ (y110.length : Int) then (some (y110.take ((l0.length : Int) : Int).toNat)) else (none)) else (none))) else (none)))) else (none)) = some r := by first | (rw [hy101]; with_reducible exact H) | (have H2_ := (Option.bind_some _ _).symm.trans H; rw [hy101]; with_reducible exact H2_) | (have H2_ := (Option.bind_some _ _).symm.trans H; with_reducible exact H2_) | with_reducible exact H | (rw [hy101]; exact H) | exact H
  have Ny101 := Aside0.mk hy101
  clear hy101
  by_cases c2 : y101.length + l0.length < 140737488355328
  · rw [if_pos c2] at H
    have LMc2 := Aside0.mk c2
    clear c2
    obtain ⟨y104, hy104⟩ : ∃ y_ : List Int, y_ = (y101 ++ l0) := ⟨_, rfl⟩
    replace H : ((some (([77, 78] : List Int) : List Int)).bind fun y107 => (if y104.length + y107.length < 140737488355328 then ((some (y104 ++ y107 : List Int)).bind fun y110 => (if 0 ≤ (l0.length : Int) then (if (l0.length : Int) ≤ (y110.length : Int) then (some (y110.take ((l0.length : Int) : Int).toNat)) else (none)) else (none))) else (none))) = some r := by first | (rw [hy104]; with_reducible exact H) | (have H2_ := (Option.bind_some _ _).symm.trans H; rw [hy104]; with_reducible exact H2_) | (have H2_ := (Option.bind_some _ _).symm.trans H; with_reducible exact H2_) | with_reducible exact H | (rw [hy104]; exact H) | exact H
    have Ny104 := Aside0.mk hy104
    clear hy104
    obtain ⟨y107, hy107⟩ : ∃ y_ : List Int, y_ = (([77, 78] : List Int)) := ⟨_, rfl⟩
    replace H : (if y104.length + y107.length < 140737488355328 then ((some (y104 ++ y107 : List Int)).bind fun y110 => (if 0 ≤ (l0.length : Int) then (if (l0.length : Int) ≤ (y110.length : Int) then (some (y110.take ((l0.length : Int) : Int).toNat)) else (none)) else (none))) else (none)) = some r := by first | (rw [hy107]; with_reducible exact H) | (have H2_ := (Option.bind_some _ _).symm.trans H; rw [hy107]; with_reducible exact H2_) | (have H2_ := (Option.bind_some _ _).symm.trans H; with_reducible exact H2_) | with_reducible exact H | (rw [hy107]; exact H) | exact H
    have Ny107 := Aside0.mk hy107
    clear hy107
    by_cases c3 : y104.length + y107.length < 140737488355328
    · rw [if_pos c3] at H
      have LMc3 := Aside0.mk c3
      clear c3
      obtain ⟨y110, hy110⟩ : ∃ y_ : List Int, y_ = (y104 ++ y107) := ⟨_, rfl⟩
      replace H : (if 0 ≤ (l0.length : Int) then (if (l0.length : Int) ≤ (y110.length : Int) then (some (y110.take ((l0.length : Int) : Int).toNat)) else (none)) else (none)) = some r := by first | (rw [hy110]; with_reducible exact H) | (have H2_ := (Option.bind_some _ _).symm.trans H; rw [hy110]; with_reducible exact H2_) | (have H2_ := (Option.bind_some _ _).symm.trans H; with_reducible exact H2_) | with_reducible exact H | (rw [hy110]; exact H) | exact H
      have Ny110 := Aside0.mk hy110
      clear hy110
      by_cases c4 : 0 ≤ (l0.length : Int)
      · rw [if_pos c4] at H
        have c4b0 := eq_true c4
        have c4b1 : decide (0 ≤ (l0.length : Int)) = true := decide_eq_true c4
        clear c4
        by_cases c5 : (l0.length : Int) ≤ (y110.length : Int)
        · rw [if_pos c5] at H
          have c5b0 := eq_true c5
          have c5b1 : decide ((l0.length : Int) ≤ (y110.length : Int)) = true := decide_eq_true c5
          clear c5
          obtain ⟨y113, hy113⟩ : ∃ y_ : List Int, y_ = (y110.take ((l0.length : Int) : Int).toNat) := ⟨_, rfl⟩
          replace H : (some y113) = some r := by first | (rw [hy113]; with_reducible exact H) | (have H2_ := (Option.bind_some _ _).symm.trans H; rw [hy113]; with_reducible exact H2_) | (have H2_ := (Option.bind_some _ _).symm.trans H; with_reducible exact H2_) | with_reducible exact H | (rw [hy113]; exact H) | exact H
          have Ny113 := Aside0.mk hy113
          clear hy113
          obtain rfl := Option.some.inj H
          go_enter Try.func12, Try.ntmps12
          go_wp2_with (first | ((with_reducible refine gate_dst (N := 4) rfl ?_); refine Kd.R_lit (Kd.int .u8) _ 5 ?hg (N := 4) ?hd (xs := ([] : List Int)) (inner := []) (ok := fun _ => True) (okp := fun _ => True) ?hr ?hp (fun _ hk => hk) trivial (Below.refl _ _) (Nat.le_refl _) (by simp) ?_; (case hd => rfl); (case hg => rfl); (case hr => first | (go_simp; done) | (go_simp; rfl)); (case hp => exact (Reps.none _ _)); intro v102 w6 ho7 hb hg_ hnew_; clear hg_ hnew_; (first | rw [← Ny101.out] at ho7 | (simp only [Int.reduceToNat] at ho7; rw [← Ny101.out] at ho7)); have n0_ := Aside0.mk (Kd.R_lower ho7 (below_size (by repeat (first | (with_reducible first | exact HB.out | apply below_alloc | apply pw_below_drewN | apply below_drew1) | exact HB.out)))); have n1_ := Aside0.mk (below_step (by repeat (first | (with_reducible first | exact HB.out | apply below_alloc | apply pw_below_drewN | apply below_drew1) | exact HB.out)) hb); clear HB; have HO103 := n0_; have HB := n1_; clear n0_ n1_; clear hb ho7) | ((with_reducible refine gate_builtin (b := .append) (xs := #[.tmp 4, .tmp 5]) rfl ?_); at_builtin; refine Kd.R_append_rows (Kd.int .u8) (w0 := w) w.heap.size rfl (.tmp 4) (.tmp 5) 22 5 (.int .u8 0) 1 rfl Try.underlying22 info5 rfl (by decide) (by omega) v102 y101 l0 _ _ _ (fun _ => True) (fun _ => False) rfl rfl ?aO ?aR (fun _ _ h => h) (fun _ h => h.elim) ?aF ?aB ?aS ?aL ?_; (case aR => repeat (first | exact (Kd.C_below HR0.out HB.out) | (with_reducible refine Kd.C_alloc ?_ _) | (with_reducible refine Kd.C_drewN ?_ _) | (with_reducible refine Kd.C_drew ?_))); (case aB => exact (by repeat (first | (with_reducible first | exact HB.out | apply below_alloc | apply pw_below_drewN | apply below_drew1) | exact HB.out))); (case aF => exact (fun _ _ => trivial)); (case aO => exact (by (with_reducible repeat (first | apply Kd.R_alloc | apply Kd.R_drewN | apply Kd.R_drew)); exact HO103.out)); (case aS => exact (below_size (by repeat (first | (with_reducible first | exact HB.out | apply below_alloc | apply pw_below_drewN | apply below_drew1) | exact HB.out)))); (case aL => have := LMc2.out; omega); intro v105 w8 ho hb hg hat; rw [← Ny104.out] at ho; have n0_ := Aside0.mk (hb); have n1_ := Aside0.mk (ho); clear HB; clear HO103; have HB := n0_; have HO106 := n1_; clear n0_ n1_; clear ho hb hg hat) | ((with_reducible refine gate_dst (N := 8) rfl ?_); refine Kd.R_lit (Kd.int .u8) _ 5 ?hg (N := 8) ?hd (xs := ([77, 78] : List Int)) (inner := [.int .u8 77, .int .u8 78]) (ok := fun _ => True) (okp := fun _ => True) ?hr ?hp (fun _ hk => hk) trivial (Below.refl _ _) (Nat.le_refl _) (by simp) ?_; (case hd => rfl); (case hg => rfl); (case hr => first | (go_simp; done) | (go_simp; rfl)); (case hp => exact (Reps.one (show Kd.M (Kd.int .u8) _ _ _ 77 [.int .u8 77] from rfl) (Reps.one (show Kd.M (Kd.int .u8) _ _ _ 78 [.int .u8 78] from rfl) (Reps.none _ _)))); intro v108 w9 ho10 hb hg_ hnew_; clear hg_ hnew_; (first | rw [← Ny107.out] at ho10 | (simp only [Int.reduceToNat] at ho10; rw [← Ny107.out] at ho10)); have n0_ := Aside0.mk (Kd.R_elder' (by (with_reducible repeat (first | apply Kd.R_alloc | apply Kd.R_drewN | apply Kd.R_drew)); exact HO106.out) (Kd.R_base ho10) hb); have n1_ := Aside0.mk (Kd.R_lower (Kd.R_new' ho10 (Kd.R_lt (by (with_reducible repeat (first | apply Kd.R_alloc | apply Kd.R_drewN | apply Kd.R_drew)); exact HO106.out))) (below_size (by repeat (first | (with_reducible first | exact HB.out | apply below_alloc | apply pw_below_drewN | apply below_drew1) | exact HB.out)))); have n2_ := Aside0.mk (below_step (by repeat (first | (with_reducible first | exact HB.out | apply below_alloc | apply pw_below_drewN | apply below_drew1) | exact HB.out)) hb); clear HO106; clear HB; have HO106 := n0_; have HO109 := n1_; have HB := n2_; clear n0_ n1_ n2_; clear hb ho10; obtain ⟨Ao12, co12, eo12⟩ := Kd.R_slice HO109.out; subst eo12) | ((with_reducible refine gate_builtin (b := .append) (xs := #[.tmp 7, .tmp 8]) rfl ?_); at_builtin; refine Kd.R_append_rows (Kd.int .u8) (w0 := w) w.heap.size rfl (.tmp 7) (.tmp 8) 22 5 (.int .u8 0) 1 rfl Try.underlying22 info5 rfl (by decide) (by omega) v105 y104 y107 _ _ _ (fun k_ => some k_ ≠ (.slice Ao12 y107.length co12 : Value).ownBlock) (fun _ => False) rfl rfl ?aO ?aR (fun _ _ h => h) (fun _ h => h.elim) ?aF ?aB ?aS ?aL ?_; (case aR => repeat (first | exact (Kd.R_reads' HO109.out).2.2 | (with_reducible refine Kd.C_alloc ?_ _) | (with_reducible refine Kd.C_drewN ?_ _) | (with_reducible refine Kd.C_drew ?_))); (case aB => exact (by repeat (first | (with_reducible first | exact HB.out | apply below_alloc | apply pw_below_drewN | apply below_drew1) | exact HB.out))); (case aF => exact (fun k_ hk => Kd.fresh' (Kd.R_lt (by (with_reducible repeat (first | apply Kd.R_alloc | apply Kd.R_drewN | apply Kd.R_drew)); exact HO109.out)) k_ hk)); (case aO => exact (by (with_reducible repeat (first | apply Kd.R_alloc | apply Kd.R_drewN | apply Kd.R_drew)); exact Kd.R_mono HO106.out (fun _ hk => hk.2))); (case aS => exact (below_size (by repeat (first | (with_reducible first | exact HB.out | apply below_alloc | apply pw_below_drewN | apply below_drew1) | exact HB.out)))); (case aL => have := LMc3.out; omega); intro v111 w11 ho hb hg hat; rw [← Ny110.out] at ho; have n0_ := Aside0.mk (Kd.R_after (ok := (fun _ => True)) (by (with_reducible repeat (first | apply Kd.R_alloc | apply Kd.R_drewN | apply Kd.R_drew)); exact HO109.out) hg hat); have n1_ := Aside0.mk (hb); have n2_ := Aside0.mk (ho); clear HO109; clear HB; clear HO106; have HO109 := n0_; have HB := n1_; have HO112 := n2_; clear n0_ n1_ n2_; clear ho hb hg hat; obtain ⟨Ao13, co13, eo13⟩ := Kd.R_slice HO112.out; subst eo13; have q14 : ((l0.length : Int) : Int) ≤ ((y110.length : Int) : Int) := of_decide_eq_true (by first | (with_reducible assumption) | assumption); obtain ⟨i014, hi014, _, hsz14, _⟩ := info_parts info5; have hcut14 := cut_to (P := Try.prog) 22 5 .i64 Try.underlying22 hi014 Ao13 y110.length co13 (l0.length : Int) (of_decide_eq_true (by first | (with_reducible assumption) | assumption)) q14 (Kd.R_reads' HO112.out).2.1; have hr14 := Kd.R_take (m := ((l0.length : Int) : Int).toNat) HO112.out (by omega); have hy14 : y113.length = ((l0.length : Int) : Int).toNat := (by rw [Ny113.out, List.length_take]; omega); rw [← Ny113.out] at hr14; rw [← hy14] at hr14 hcut14; clear hy14 hi014 hsz14 HO112; have HO115 := Aside0.mk hr14; clear hr14; replace q14 := eq_true q14))
          go_ret
          exact ⟨_, by first | rfl | (simp [errW_none, errW_some] <;> rfl) | (simp [*, errW_none, errW_some] <;> rfl), by (with_reducible repeat (first | apply Kd.R_alloc | apply Kd.R_drewN | apply Kd.R_drew)); exact Kd.R_mono HO115.out (fun _ hk => trivial), by repeat (first | (with_reducible first | exact HB.out | apply below_alloc | apply pw_below_drewN | apply below_drew1) | exact HB.out)⟩
        · rw [if_neg c5] at H
          exact absurd H (by simp)
      · rw [if_neg c4] at H
        exact absurd H (by simp)
    · rw [if_neg c3] at H
      exact absurd H (by simp)
  · rw [if_neg c2] at H
    exact absurd H (by simp)

end Go.Proofs.Ytjkimfjhfncldaa.Q
end

section
-- written by hprint.py (a program of these sessions) out of the translation; Lean checks it
namespace Go.Proofs.Ytjkimfjhfncldaa.Q
open Go.RowKit Go.Proofs.YtjkimfjhfncldaaW.Hb Go.Proofs.YtjkimfjhfncldaaW.PrintWords Go.Proofs.YtjkimfjhfncldaaW.PrintLast Go.Proofs.YtjkimfjhfncldaaW.PrintMore
attribute [local go_sem] max2_int min2_int max_two min_two max_three min_three max_four min_four   -- for this text's walks alone
set_option linter.unusedVariables false
set_option linter.unusedSimpArgs false

/-! ### weighhouselaw01_Stays: function 18, by hand -/
def weighhouselaw01_Stays.T2 : Bool × List (List Nat × List Nat) := (true, [([], []), ([], []), ([1], [1]), ([0, 2], [0, 2]), ([3], [3]), ([], []), ([5], [5]), ([4, 6], [4, 6]), ([7], [7]), ([8], [8]), ([8], [8]), ([10, 8], [8, 10]), ([9, 11, 8], [8, 9, 11]), ([12, 8], [8, 12]), ([13, 8], [8, 13]), ([8, 14], [8, 14]), ([15, 8], [15]), ([16], [16]), ([16], [16]), ([18, 16], [16, 18]), ([19, 16], [16, 19]), ([17, 20, 16], [16, 17, 20]), ([21, 16], [16, 21]), ([22, 16], [16, 22]), ([16, 23], [16, 23]), ([24, 16, 0, 1, 2, 3, 4, 5, 6, 7, 8, 9, 10, 11, 12, 13, 14, 15, 16, 17, 18, 19, 20, 21, 22, 23, 24], [24])])
def weighhouselaw01_Stays.B2 : List Nat := [0, 0, 2, 7, 15, 0, 32, 127, 255, 511, 511, 1535, 4095, 8191, 16383, 32767, 65535, 131071, 131071, 393215, 917503, 2097151, 4194303, 8388607, 16777215, 33554431]
theorem weighhouselaw01_Stays.tab2 : rtab .any (opsOf Try.f18 2) = weighhouselaw01_Stays.T2 := by kernel_rfl
theorem weighhouselaw01_Stays.bits2 : waitsOk weighhouselaw01_Stays.T2.2 weighhouselaw01_Stays.B2 = true := by kernel_rfl
theorem lent_is (l : List Int) (h : l.length ≤ 140737488351232) : weighhouselaw01_Lent.f l = some l := by
  unfold weighhouselaw01_Lent.f
  rw [Option.bind_some, if_pos (by simp; omega), Option.bind_some, Option.bind_some, if_pos (by simp; omega), Option.bind_some, if_pos (by omega), if_pos (by simp; omega)]
  simp
theorem cut_room {P : Program} (t e : TypeId) (kh : IntKind) {i : TypeInfo} (ht : P.underlying t = some (.slice e)) (hi : P.info? e = some i) (A : Option Addr) (n c : Nat) (j : Int) (m : Nat) (hj : j = (m : Int)) (hm : m ≤ c) :
    ∀ W : World, (Instr.slice t (.slice A n c) none (some (.int kh j)) none).run P W = .ok (.slice A m c) W := by
  intro W
  have hel : P.elem t = e := by simp [Program.elem, ht]
  have hu : P.underlying t = some (.slice (P.elem t)) := by rw [hel]; exact ht
  have ha : (A.map fun x => x.add 0) = A := by cases A <;> simp [Addr.add]
  subst hj
  rw [run_slice_h W t A n c hu kh (m : Int) (by omega) (by omega), hel]
  simp [sizeOf, typeInfo, hi, sliced, Result.andThen, ha]
set_option maxRecDepth 100000 in
set_option maxHeartbeats 1000000 in
/-- Lent bytes, and the marked room behind them. -/
theorem lentRoom (A : Option Addr) (c : Nat) (l : List Int) (w : World) (hr : (Kd.int .u8).C w A l.length l) (hc : l.length ≤ c) (hl : (l.length + 2) * 1 ≤ 140737488355328) :
    Calls Try.prog 12 #[.slice A l.length c] w fun e w' => ∃ A' c', e = .returned (.slice A' l.length c') ∧ (Kd.int .u8).R 5 w' w.heap.size (fun _ => True) (.slice A' (l.length + 2) c') (l ++ [77, 78]) ∧ Below w.heap.size w w' := by
  have HC := Aside0.mk (Kd.C_alloc hr (.cells #[] 5))
  have HO := Aside0.mk (show (Kd.int .u8).R 5 (w.alloc (.cells #[] 5)) w.heap.size (fun _ => True) (.slice (some ⟨w.heap.size, 0, none⟩) 0 0) [] from Kd.R_of_own (own_lit w w.heap.size 5 .u8 [] (Nat.le_refl _) (by simp)) (fun _ _ => trivial))
  have HB := Aside0.mk ((Below.refl w.heap.size w).alloc (Nat.le_refl _) (.cells #[] 5))
  have HL := Aside0.mk (show (([] : List Int).length + l.length) * 1 ≤ 140737488355328 by simp only [List.length_nil]; omega)
  have HL2 := Aside0.mk hl
  have hm : l.length ≤ 140737488355326 := by omega
  obtain ⟨q, hq⟩ : ∃ q, l ++ [77, 78] = q := ⟨_, rfl⟩
  have HQ := Aside0.mk hq
  have HQL := Aside0.mk (show q.length = l.length + 2 by rw [← hq]; simp)
  obtain ⟨ii, hii, his⟩ : ∃ ii, Try.prog.info? 5 = some ii ∧ ii.size = 1 := by
    obtain ⟨ii, h1, h2⟩ := Option.map_eq_some_iff.1 info5
    exact ⟨ii, h1, congrArg (fun p => p.2.1) h2⟩
  have HII := Aside0.mk hii
  clear hr hl hq hii his
  go_enter Try.func12, Try.ntmps12
  go_upto_region 2 with ((with_reducible refine gate_builtin (b := .append) (xs := #[.tmp 4, .tmp 5]) rfl ?_); at_builtin; refine Kd.R_append_rows (Kd.int .u8) (w0 := w) (Rr := (Kd.int .u8).K (w.alloc (.cells #[] 5))) w.heap.size rfl (.tmp 4) (.tmp 5) 22 5 (.int .u8 0) 1 rfl Try.underlying22 info5 rfl (by decide) (by omega) (.slice (some ⟨w.heap.size, 0, none⟩) 0 0) [] l A l.length c (fun _ => True) (fun _ => False) rfl rfl HO.out HC.out (fun x cs hK => hK) (fun _ hk => hk.elim) (fun _ _ => trivial) HB.out HB.out.size HL.out ?_; intro v2 w2 hR2 hB2 _ _; rw [List.nil_append] at hR2; have HR2 := Aside0.mk hR2; have HB2 := Aside0.mk hB2; clear hR2 hB2)
  have HC2 := Aside0.mk (C_lit_int w2 w2.heap.size rfl .u8 [77, 78] #[.int .u8 77, .int .u8 78] rfl 5 (by simp))
  have HO2 := Aside0.mk (Kd.R_below HR2.out ((Below.refl _ _).alloc (Nat.le_refl _) (.cells #[.int .u8 77, .int .u8 78] 5)))
  have HB3 := Aside0.mk (HB2.out.alloc HB2.out.size (.cells #[.int .u8 77, .int .u8 78] 5))
  clear HC HO HB HR2
  go_upto_region 3 with ((with_reducible refine gate_builtin (b := .append) (xs := #[.tmp 7, .tmp 8]) rfl ?_); at_builtin; refine Kd.R_append_rows (Kd.int .u8) (w0 := w) (Rr := (Kd.int .u8).K (w2.alloc (.cells #[.int .u8 77, .int .u8 78] 5))) w.heap.size rfl (.tmp 7) (.tmp 8) 22 5 (.int .u8 0) 1 rfl Try.underlying22 info5 rfl (by decide) (by omega) v2 l [77, 78] (some ⟨w2.heap.size, 0, none⟩) 2 2 (fun _ => True) (fun _ => False) rfl rfl HO2.out HC2.out (fun x cs hK => hK) (fun _ hk => hk.elim) (fun _ _ => trivial) HB3.out HB3.out.size HL2.out ?_; intro v3 w3 hR3 hB4 _ _; rw [HQ.out] at hR3; obtain ⟨A3, c3, rfl, hc3, hC3⟩ := Kd.R_reads hR3; have HR3 := Aside0.mk hR3; have HB4 := Aside0.mk hB4; have HC3 := Aside0.mk hc3; clear hR3 hB4 hC3 hc3)
  have hqq := cut_room (P := Try.prog) 22 5 .i64 Try.underlying22 HII.out A3 q.length c3 (l.length : Int) l.length rfl (by have h1 := HC3.out; have h2 := HQL.out; omega)
  go_wp2
  go_ret
  refine ⟨A3, c3, rfl, ?_, HB4.out⟩
  have := HR3.out
  rw [HQL.out] at this
  rw [HQ.out]
  exact this
set_option maxRecDepth 100000 in
set_option maxHeartbeats 1000000 in
/-- Lent bytes that nobody touched stay. -/
theorem weighhouselaw01_Stays.calls (A : Option Addr) (c : Nat) (l : List Int) (A2 : Option Addr) (c2 : Nat) (w : World) (hr : (Kd.int .u8).C w A (l.length + 2) (l ++ [77, 78])) (hc : l.length + 2 ≤ c) (hr2 : (Kd.int .u8).C w A2 l.length l) (hc2 : l.length ≤ c2) :
    Calls Try.prog 18 #[.slice A l.length c, .slice A2 l.length c2] w fun e w' => e = .returned (.bool true) ∧ Below w.heap.size w w' := by
  have hm := hr.2.1
  obtain ⟨ii, hii, his⟩ : ∃ ii, Try.prog.info? 5 = some ii ∧ ii.size = 1 := by
    obtain ⟨ii, h1, h2⟩ := Option.map_eq_some_iff.1 info5
    exact ⟨ii, h1, congrArg (fun p => p.2.1) h2⟩
  have hql : (l ++ [77, 78]).length = l.length + 2 := by simp
  obtain ⟨ad, e, h77⟩ := at_intN hr l.length (by omega)
  obtain ⟨ad', e', h78⟩ := at_intN hr (l.length + 1) (by omega)
  cases e
  cases e'
  have e77 : (l ++ [77, 78])[l.length]'(by omega) = 77 := by simp
  have e78 : (l ++ [77, 78])[l.length + 1]'(by omega) = 78 := by simp [List.getElem_append]
  rw [e77] at h77
  rw [e78] at h78
  have hT : (Kd.int .u8).C w (some ad) l.length l := by
    have h1 : (Kd.int .u8).C w (some ad) (l ++ [77, 78]).length (l ++ [77, 78]) := by rw [hql]; exact hr
    have h2 := Kd.C_take (m := l.length) h1 (by omega)
    have h3 : (l ++ [77, 78]).take l.length = l := by simp
    rw [h3] at h2
    exact h2
  have hq1 := cut_room (P := Try.prog) 22 5 .i64 Try.underlying22 hii (some ad) l.length c ((l.length : Int) + 2) (l.length + 2) (by omega) (by omega)
  have hq2 := cut_room (P := Try.prog) 22 5 .i64 Try.underlying22 hii (some ad) (l.length + 2) c (l.length : Int) l.length rfl (by omega)
  have hcv1 := Kd.C_string (P := Try.prog) (w := w.drew) (src := 22) (dst := 9) (e := 5) (c := c) Try.underlying22 Try.underlying5 Try.underlying9 (Kd.C_below hT ((Below.refl _ _).drew))
  have hcv2 := Kd.C_string (P := Try.prog) (w := w.drew) (src := 22) (dst := 9) (e := 5) (c := c2) Try.underlying22 Try.underlying5 Try.underlying9 (Kd.C_below hr2 ((Below.refl _ _).drew))
  obtain ⟨sB, hsB⟩ : ∃ sB, strOfNums l = sB := ⟨_, rfl⟩
  rw [hsB] at hcv1 hcv2
  have k7 : w.drew.cell? (ad.add l.length) = some (.int .u8 77) := h77
  have k8 : w.drew.cell? ⟨ad.block, ad.off + (l.length + 1), none⟩ = some (.int .u8 78) := by simpa [Addr.add] using h78
  have HBD := Aside0.mk (show Below w.heap.size w w.drew from (Below.refl _ _).drew)
  have hc' : l.length + 2 ≤ c := hc
  have d1 : (l.length : Int) < (l.length : Int) + 2 := by omega
  have d2 : (l.length : Int) + 1 < (l.length : Int) + 2 := by omega
  have d3 : ((l.length : Int) + 1).toNat = l.length + 1 := by omega
  have d4 : 0 ≤ (l.length : Int) + 1 := by omega
  have d5 : wrap64 ((l.length : Int) + 1) = (l.length : Int) + 1 := wrapI (by omega) (by omega)
  clear hr hr2 hii his hql e77 e78 hT hsB h77 h78
  go_enter Try.func18, Try.ntmps18
  go_upto_region 2 with (fail)
  refine start_ (n := 26) (S := fun w' => w' = w.drew ∧ w'.cell? (ad.add l.length) = some (.int .u8 77) ∧ w'.cell? ⟨ad.block, ad.off + (l.length + 1), none⟩ = some (.int .u8 78)) (ds := []) #[false, false, false, false, false, false, false, false, false, false, false, false, false, false, false, false, false, false, false, false, false, false, false, false, false, false] (by kernel_rfl) rfl rfl ⟨rfl, k7, k8⟩ (fun hHeld => ?_); refine with_tabW weighhouselaw01_Stays.tab2 weighhouselaw01_Stays.bits2 (fun HT_ HW_ => ?_)
  generalize w.drew = wd at HBD k7 k8 hcv1 hcv2 hHeld ⊢
  refine pure_ (i := 0) (N := some 11) (v := ?_) (a' := ?_) #[true, false, false, false, false, false, false, false, false, false, false, false, false, false, false, false, false, false, false, false, false, false, false, false, false, false] rfl rfl (any_of HT_.out (by kernel_rfl)) (fun _ _ _ h => h) (Or.inl ⟨by rfl, ?_⟩) ?_ ?_
  rotate_left
  · intro w'
    go_simp
    with_reducible rfl
  rotate_left
  · simp only [Act.put, List.setIfInBounds_toArray, List.set_cons_zero, List.set_cons_succ, i64_w, i32_w]
    rfl
  refine pure_ (i := 1) (N := some 12) (v := ?_) (a' := ?_) #[true, true, false, false, false, false, false, false, false, false, false, false, false, false, false, false, false, false, false, false, false, false, false, false, false, false] rfl rfl (any_of HT_.out (by kernel_rfl)) (fun _ _ _ h => h) (Or.inl ⟨by rfl, ?_⟩) ?_ ?_
  rotate_left
  · intro w'
    go_simp
    with_reducible rfl
  rotate_left
  · simp only [Act.put, List.setIfInBounds_toArray, List.set_cons_zero, List.set_cons_succ, i64_w, i32_w]
    rfl
  refine pure_ (i := 2) (N := some 13) (v := ?_) (a' := ?_) #[true, true, true, false, false, false, false, false, false, false, false, false, false, false, false, false, false, false, false, false, false, false, false, false, false, false] rfl rfl (any_of HT_.out (by kernel_rfl)) (fun _ _ _ h => h) (Or.inl ⟨by rfl, ?_⟩) ?_ ?_
  rotate_left
  · intro w'
    go_simp
    with_reducible rfl
  rotate_left
  · simp only [Act.put, List.setIfInBounds_toArray, List.set_cons_zero, List.set_cons_succ, i64_w, i32_w]
    rfl
  refine pure_ (i := 3) (N := some 14) (v := ?_) (a' := ?_) #[true, true, true, true, false, false, false, false, false, false, false, false, false, false, false, false, false, false, false, false, false, false, false, false, false, false] rfl rfl (any_of HT_.out (by kernel_rfl)) (fun _ _ _ h => h) (Or.inl ⟨by rfl, ?_⟩) ?_ ?_
  rotate_left
  · intro w'
    go_simp
    with_reducible rfl
  rotate_left
  · simp only [Act.put, List.setIfInBounds_toArray, List.set_cons_zero, List.set_cons_succ, i64_w, i32_w]
    rfl
  refine pure_ (i := 5) (N := some 16) (v := ?_) (a' := ?_) #[true, true, true, true, false, true, false, false, false, false, false, false, false, false, false, false, false, false, false, false, false, false, false, false, false, false] rfl rfl (any_of HT_.out (by kernel_rfl)) (fun _ _ _ h => h) (Or.inl ⟨by rfl, ?_⟩) ?_ ?_
  rotate_left
  · intro w'
    go_simp
    with_reducible rfl
  rotate_left
  · simp only [Act.put, List.setIfInBounds_toArray, List.set_cons_zero, List.set_cons_succ, i64_w, i32_w]
    rfl
  refine take_ (i := 4) (N := some 15) (v := ?_) (a' := ?_) #[true, true, true, true, true, true, false, false, false, false, false, false, false, false, false, false, false, false, false, false, false, false, false, false, false, false] rfl rfl (take_ofW HT_.out HW_.out (by kernel_rfl)) (fun _ _ _ h => h) (Or.inl ⟨by rfl, ?_⟩) hHeld ?_ ?_
  rotate_left
  · rintro w' ⟨s0, s1, s2⟩
    go_simp
    with_reducible rfl
  rotate_left
  · simp only [Act.put, List.setIfInBounds_toArray, List.set_cons_zero, List.set_cons_succ, i64_w, i32_w]
    rfl
  refine take_ (i := 6) (N := some 17) (v := ?_) (a' := ?_) #[true, true, true, true, true, true, true, false, false, false, false, false, false, false, false, false, false, false, false, false, false, false, false, false, false, false] rfl rfl (take_ofW HT_.out HW_.out (by kernel_rfl)) (fun _ _ _ h => h) (Or.inl ⟨by rfl, ?_⟩) hHeld ?_ ?_
  rotate_left
  · rintro w' ⟨s0, s1, s2⟩
    go_simp
    with_reducible rfl
  rotate_left
  · simp only [Act.put, List.setIfInBounds_toArray, List.set_cons_zero, List.set_cons_succ, i64_w, i32_w]
    rfl
  refine pure_ (i := 7) (N := some 18) (v := ?_) (a' := ?_) #[true, true, true, true, true, true, true, true, false, false, false, false, false, false, false, false, false, false, false, false, false, false, false, false, false, false] rfl rfl (any_of HT_.out (by kernel_rfl)) (fun _ _ _ h => h) (Or.inl ⟨by rfl, ?_⟩) ?_ ?_
  rotate_left
  · intro w'
    go_simp
    with_reducible rfl
  rotate_left
  · simp only [Act.put, List.setIfInBounds_toArray, List.set_cons_zero, List.set_cons_succ, i64_w, i32_w]
    rfl
  refine pure_ (i := 8) (N := some 19) (v := ?_) (a' := ?_) #[true, true, true, true, true, true, true, true, true, false, false, false, false, false, false, false, false, false, false, false, false, false, false, false, false, false] rfl rfl (any_of HT_.out (by kernel_rfl)) (fun _ _ _ h => h) (Or.inl ⟨by rfl, ?_⟩) ?_ ?_
  rotate_left
  · intro w'
    go_simp
    with_reducible rfl
  rotate_left
  · simp only [Act.put, List.setIfInBounds_toArray, List.set_cons_zero, List.set_cons_succ, i64_w, i32_w]
    rfl
  refine pure_ (i := 9) (N := some 20) (v := ?_) (a' := ?_) #[true, true, true, true, true, true, true, true, true, true, false, false, false, false, false, false, false, false, false, false, false, false, false, false, false, false] rfl rfl (any_of HT_.out (by kernel_rfl)) (fun _ _ _ h => h) (Or.inl ⟨by rfl, ?_⟩) ?_ ?_
  rotate_left
  · intro w'
    go_simp
    with_reducible rfl
  rotate_left
  · simp only [Act.put, List.setIfInBounds_toArray, List.set_cons_zero, List.set_cons_succ, i64_w, i32_w]
    rfl
  refine pure_ (i := 10) (N := some 21) (v := ?_) (a' := ?_) #[true, true, true, true, true, true, true, true, true, true, true, false, false, false, false, false, false, false, false, false, false, false, false, false, false, false] rfl rfl (any_of HT_.out (by kernel_rfl)) (fun _ _ _ h => h) (Or.inl ⟨by rfl, ?_⟩) ?_ ?_
  rotate_left
  · intro w'
    go_simp
    with_reducible rfl
  rotate_left
  · simp only [Act.put, List.setIfInBounds_toArray, List.set_cons_zero, List.set_cons_succ, i64_w, i32_w]
    rfl
  refine pure_ (i := 11) (N := some 22) (v := ?_) (a' := ?_) #[true, true, true, true, true, true, true, true, true, true, true, true, false, false, false, false, false, false, false, false, false, false, false, false, false, false] rfl rfl (any_of HT_.out (by kernel_rfl)) (fun _ _ _ h => h) (Or.inl ⟨by rfl, ?_⟩) ?_ ?_
  rotate_left
  · intro w'
    go_simp
    with_reducible rfl
  rotate_left
  · simp only [Act.put, List.setIfInBounds_toArray, List.set_cons_zero, List.set_cons_succ, i64_w, i32_w]
    rfl
  refine pure_ (i := 12) (N := some 23) (v := ?_) (a' := ?_) #[true, true, true, true, true, true, true, true, true, true, true, true, true, false, false, false, false, false, false, false, false, false, false, false, false, false] rfl rfl (any_of HT_.out (by kernel_rfl)) (fun _ _ _ h => h) (Or.inl ⟨by rfl, ?_⟩) ?_ ?_
  rotate_left
  · intro w'
    go_simp
    with_reducible rfl
  rotate_left
  · simp only [Act.put, List.setIfInBounds_toArray, List.set_cons_zero, List.set_cons_succ, i64_w, i32_w]
    rfl
  refine take_ (i := 13) (N := some 24) (v := ?_) (a' := ?_) #[true, true, true, true, true, true, true, true, true, true, true, true, true, true, false, false, false, false, false, false, false, false, false, false, false, false] rfl rfl (take_ofW HT_.out HW_.out (by kernel_rfl)) (fun _ _ _ h => h) (Or.inl ⟨by rfl, ?_⟩) hHeld ?_ ?_
  rotate_left
  · rintro w' ⟨s0, s1, s2⟩
    go_simp
    with_reducible rfl
  rotate_left
  · simp only [Act.put, List.setIfInBounds_toArray, List.set_cons_zero, List.set_cons_succ, i64_w, i32_w]
    rfl
  refine pure_ (i := 14) (N := some 25) (v := ?_) (a' := ?_) #[true, true, true, true, true, true, true, true, true, true, true, true, true, true, true, false, false, false, false, false, false, false, false, false, false, false] rfl rfl (any_of HT_.out (by kernel_rfl)) (fun _ _ _ h => h) (Or.inl ⟨by rfl, ?_⟩) ?_ ?_
  rotate_left
  · intro w'
    go_simp
    with_reducible rfl
  rotate_left
  · simp only [Act.put, List.setIfInBounds_toArray, List.set_cons_zero, List.set_cons_succ, i64_w, i32_w]
    rfl
  refine pure_ (i := 15) (N := some 26) (v := ?_) (a' := ?_) #[true, true, true, true, true, true, true, true, true, true, true, true, true, true, true, true, false, false, false, false, false, false, false, false, false, false] rfl rfl (any_of HT_.out (by kernel_rfl)) (fun _ _ _ h => h) (Or.inl ⟨by rfl, ?_⟩) ?_ ?_
  rotate_left
  · intro w'
    go_simp
    with_reducible rfl
  rotate_left
  · simp only [Act.put, List.setIfInBounds_toArray, List.set_cons_zero, List.set_cons_succ, i64_w, i32_w]
    rfl
  refine pure_ (i := 16) (N := some 27) (v := ?_) (a' := ?_) #[true, true, true, true, true, true, true, true, true, true, true, true, true, true, true, true, true, false, false, false, false, false, false, false, false, false] rfl rfl (any_of HT_.out (by kernel_rfl)) (fun _ _ _ h => h) (Or.inl ⟨by rfl, ?_⟩) ?_ ?_
  rotate_left
  · intro w'
    go_simp
    with_reducible rfl
  rotate_left
  · simp only [Act.put, List.setIfInBounds_toArray, List.set_cons_zero, List.set_cons_succ, i64_w, i32_w]
    rfl
  refine pure_ (i := 17) (N := some 28) (v := ?_) (a' := ?_) #[true, true, true, true, true, true, true, true, true, true, true, true, true, true, true, true, true, true, false, false, false, false, false, false, false, false] rfl rfl (any_of HT_.out (by kernel_rfl)) (fun _ _ _ h => h) (Or.inl ⟨by rfl, ?_⟩) ?_ ?_
  rotate_left
  · intro w'
    go_simp
    with_reducible rfl
  rotate_left
  · simp only [Act.put, List.setIfInBounds_toArray, List.set_cons_zero, List.set_cons_succ, i64_w, i32_w]
    rfl
  refine pure_ (i := 18) (N := some 29) (v := ?_) (a' := ?_) #[true, true, true, true, true, true, true, true, true, true, true, true, true, true, true, true, true, true, true, false, false, false, false, false, false, false] rfl rfl (any_of HT_.out (by kernel_rfl)) (fun _ _ _ h => h) (Or.inl ⟨by rfl, ?_⟩) ?_ ?_
  rotate_left
  · intro w'
    go_simp
    with_reducible rfl
  rotate_left
  · simp only [Act.put, List.setIfInBounds_toArray, List.set_cons_zero, List.set_cons_succ, i64_w, i32_w]
    rfl
  refine pure_ (i := 19) (N := some 30) (v := ?_) (a' := ?_) #[true, true, true, true, true, true, true, true, true, true, true, true, true, true, true, true, true, true, true, true, false, false, false, false, false, false] rfl rfl (any_of HT_.out (by kernel_rfl)) (fun _ _ _ h => h) (Or.inl ⟨by rfl, ?_⟩) ?_ ?_
  rotate_left
  · intro w'
    go_simp
    with_reducible rfl
  rotate_left
  · simp only [Act.put, List.setIfInBounds_toArray, List.set_cons_zero, List.set_cons_succ, i64_w, i32_w]
    rfl
  refine pure_ (i := 20) (N := some 31) (v := ?_) (a' := ?_) #[true, true, true, true, true, true, true, true, true, true, true, true, true, true, true, true, true, true, true, true, true, false, false, false, false, false] rfl rfl (any_of HT_.out (by kernel_rfl)) (fun _ _ _ h => h) (Or.inl ⟨by rfl, ?_⟩) ?_ ?_
  rotate_left
  · intro w'
    go_simp
    with_reducible rfl
  rotate_left
  · simp only [Act.put, List.setIfInBounds_toArray, List.set_cons_zero, List.set_cons_succ, i64_w, i32_w]
    rfl
  refine pure_ (i := 21) (N := some 32) (v := ?_) (a' := ?_) #[true, true, true, true, true, true, true, true, true, true, true, true, true, true, true, true, true, true, true, true, true, true, false, false, false, false] rfl rfl (any_of HT_.out (by kernel_rfl)) (fun _ _ _ h => h) (Or.inl ⟨by rfl, ?_⟩) ?_ ?_
  rotate_left
  · intro w'
    go_simp
    with_reducible rfl
  rotate_left
  · simp only [Act.put, List.setIfInBounds_toArray, List.set_cons_zero, List.set_cons_succ, i64_w, i32_w]
    rfl
  refine take_ (i := 22) (N := some 33) (v := ?_) (a' := ?_) #[true, true, true, true, true, true, true, true, true, true, true, true, true, true, true, true, true, true, true, true, true, true, true, false, false, false] rfl rfl (take_ofW HT_.out HW_.out (by kernel_rfl)) (fun _ _ _ h => h) (Or.inl ⟨by rfl, ?_⟩) hHeld ?_ ?_
  rotate_left
  · rintro w' ⟨s0, s1, s2⟩
    go_simp
    with_reducible rfl
  rotate_left
  · simp only [Act.put, List.setIfInBounds_toArray, List.set_cons_zero, List.set_cons_succ, i64_w, i32_w]
    rfl
  refine pure_ (i := 23) (N := some 34) (v := ?_) (a' := ?_) #[true, true, true, true, true, true, true, true, true, true, true, true, true, true, true, true, true, true, true, true, true, true, true, true, false, false] rfl rfl (any_of HT_.out (by kernel_rfl)) (fun _ _ _ h => h) (Or.inl ⟨by rfl, ?_⟩) ?_ ?_
  rotate_left
  · intro w'
    go_simp
    with_reducible rfl
  rotate_left
  · simp only [Act.put, List.setIfInBounds_toArray, List.set_cons_zero, List.set_cons_succ, i64_w, i32_w]
    rfl
  refine pure_ (i := 24) (N := some 35) (v := ?_) (a' := ?_) #[true, true, true, true, true, true, true, true, true, true, true, true, true, true, true, true, true, true, true, true, true, true, true, true, true, false] rfl rfl (any_of HT_.out (by kernel_rfl)) (fun _ _ _ h => h) (Or.inl ⟨by rfl, ?_⟩) ?_ ?_
  rotate_left
  · intro w'
    go_simp
    with_reducible rfl
  rotate_left
  · simp only [Act.put, List.setIfInBounds_toArray, List.set_cons_zero, List.set_cons_succ, i64_w, i32_w]
    rfl
  refine pure_ (i := 25) (N := some 4) (v := ?_) (a' := ?_) #[true, true, true, true, true, true, true, true, true, true, true, true, true, true, true, true, true, true, true, true, true, true, true, true, true, true] rfl rfl (any_of HT_.out (by kernel_rfl)) (fun _ _ _ h => h) (Or.inl ⟨by rfl, ?_⟩) ?_ ?_
  rotate_left
  · intro w'
    go_simp
    with_reducible rfl
  rotate_left
  · simp only [Act.put, List.setIfInBounds_toArray, List.set_cons_zero, List.set_cons_succ, i64_w, i32_w]
    rfl
  refine done_ (done_of HT_.out (by kernel_rfl)) ?_
  clear hHeld k7 k8 hcv1 hcv2 hq1 hq2 d5
  go_wp2
  go_ret
  exact ⟨rfl, HBD.out⟩


end Go.Proofs.Ytjkimfjhfncldaa.Q
end

section
-- written by hprint.py (a program of these sessions) out of the translation; Lean checks it
namespace Go.Proofs.Ytjkimfjhfncldaa.Q
open Go.RowKit Go.Proofs.YtjkimfjhfncldaaW.Hb Go.Proofs.YtjkimfjhfncldaaW.PrintWords Go.Proofs.YtjkimfjhfncldaaW.PrintLast Go.Proofs.YtjkimfjhfncldaaW.PrintMore
attribute [local go_sem] max2_int min2_int max_two min_two max_three min_three max_four min_four   -- for this text's walks alone
set_option linter.unusedVariables false
set_option linter.unusedSimpArgs false

/-! ### wire_Sum: function 15 -/
mutual
def wire_Sum.l0 : Nat → Int → List Int → Int → Int → Option (Int)
  | 0, _, _, _, _ => none
  | k + 1, x3, x6, x7, x8 => if x8 < x7 then (if 0 ≤ x8 then (if x8 < (x6.length : Int) then (wire_Sum.l1 k (Go.bits .xor .u32 x3 ((rd x6 x8) % 4294967296)) x6 x7 x8 0) else (none)) else (none)) else (some (Go.bits .xor .u32 (-1) x3))
def wire_Sum.l1 : Nat → Int → List Int → Int → Int → Int → Option (Int)
  | 0, _, _, _, _, _ => none
  | k + 1, x3, x6, x7, x8, x16 => if x16 < 8 then (wire_Sum.l1 k (Go.bits .xor .u32 (x3 / 2) (Go.bits .and .u32 3988292384 ((-(Go.bits .and .u32 x3 1)) % 4294967296))) x6 x7 x8 (wrap64 (x16 + 1))) else (wire_Sum.l0 k x3 x6 x7 (wrap64 (x8 + 1)))
end
def wire_Sum.f (k : Nat) (l0 : List Int) : Option (Int) := wire_Sum.l0 k 4294967295 l0 (l0.length : Int) 0
theorem wire_Sum.mono_l : ∀ k, (∀ y0 y1 y2 y3, LeO (wire_Sum.l0 k y0 y1 y2 y3) (wire_Sum.l0 (k + 1) y0 y1 y2 y3)) ∧ (∀ y0 y1 y2 y3 y4, LeO (wire_Sum.l1 k y0 y1 y2 y3 y4) (wire_Sum.l1 (k + 1) y0 y1 y2 y3 y4))
  | 0 => ⟨fun _ _ _ _ r h => by simp [wire_Sum.l0] at h, fun _ _ _ _ _ r h => by simp [wire_Sum.l1] at h⟩
  | k + 1 => by
    obtain ⟨ih0, ih1⟩ := wire_Sum.mono_l k
    refine ⟨?_, ?_⟩
    · intro y0 y1 y2 y3
      unfold wire_Sum.l0
      repeat' first
      | (with_reducible exact ih0 _ _ _ _)
      | (with_reducible exact ih1 _ _ _ _ _)
      | (with_reducible exact LeO.refl _)
      | (with_reducible exact LeO.none _)
      | (with_reducible refine LeO.ite ?_ ?_)
      | (with_reducible refine LeO.bind ?_ (fun _ => ?_))
      | exact ih0 _ _ _ _
      | exact ih1 _ _ _ _ _
      | exact LeO.none _
      | refine LeO.ite ?_ ?_
      | refine LeO.bind ?_ (fun _ => ?_)
    · intro y0 y1 y2 y3 y4
      unfold wire_Sum.l1
      repeat' first
      | (with_reducible exact ih0 _ _ _ _)
      | (with_reducible exact ih1 _ _ _ _ _)
      | (with_reducible exact LeO.refl _)
      | (with_reducible exact LeO.none _)
      | (with_reducible refine LeO.ite ?_ ?_)
      | (with_reducible refine LeO.bind ?_ (fun _ => ?_))
      | exact ih0 _ _ _ _
      | exact ih1 _ _ _ _ _
      | exact LeO.none _
      | refine LeO.ite ?_ ?_
      | refine LeO.bind ?_ (fun _ => ?_)
theorem wire_Sum.mono : ∀ a0 k, LeO (wire_Sum.f k a0) (wire_Sum.f (k + 1) a0) := by
  intro a0 k
  obtain ⟨ih0, ih1⟩ := wire_Sum.mono_l k
  unfold wire_Sum.f
  repeat' first
      | (with_reducible exact ih0 _ _ _ _)
      | (with_reducible exact ih1 _ _ _ _ _)
      | (with_reducible exact LeO.refl _)
      | (with_reducible exact LeO.none _)
      | (with_reducible refine LeO.ite ?_ ?_)
      | (with_reducible refine LeO.bind ?_ (fun _ => ?_))
      | exact ih0 _ _ _ _
      | exact ih1 _ _ _ _ _
      | exact LeO.none _
      | refine LeO.ite ?_ ?_
      | refine LeO.bind ?_ (fun _ => ?_)
set_option maxHeartbeats 8000000 in
set_option maxRecDepth 100000 in
theorem wire_Sum.calls (k : Nat) (A0 : Option Addr) (c0 : Nat) (l0 : List Int) (r : Int) (w : World) (hr0 : Kd.C (Kd.int .u8) w A0 l0.length l0) (hc0 : l0.length ≤ c0) (h : wire_Sum.f k l0 = some r) :
    Calls Try.prog 15 #[.slice A0 l0.length c0] w fun e w' => e = .returned (.int .u32 r) ∧ Drawn0 w w' := by
  have HR0 := Aside0.mk hr0
  have HC0 := Aside0.mk hc0
  clear hr0 hc0
  have H : (wire_Sum.l0 k 4294967295 l0 (l0.length : Int) 0) = some r := h
  clear h
  have H' := Aside0.mk H
  clear H
  go_enter Try.func15, Try.ntmps15
  go_wp2
  go_loopg [3, 8] k (fun kq v3 v8 w' => ∃ (x3_1 : Int) (x8_1 : Int), v3 = .int .u32 x3_1 ∧ v8 = .int .i64 x8_1 ∧ Aside0 (wire_Sum.l0 kq x3_1 l0 (l0.length : Int) x8_1 = some r) ∧ Aside0 (kq ≤ k) ∧ Drawn0 w w')
  case atStart => exact ⟨(4294967295), (0), (by first | rfl | (simp; done) | (simp [*]; done)), (by first | rfl | (simp; done) | (simp [*]; done)), H', ⟨Nat.le_refl _⟩, by repeat (first | exact Drawn0.refl _ | apply Drawn0.step)⟩
  case round =>
    clear H'
    try clear c1
    obtain ⟨x3_1, x8_1, rfl, rfl, HA, HK1, ⟨m1, rfl⟩⟩ := hrel
    cases gk with
    | zero => exact absurd HA.out (by simp [wire_Sum.l0])
    | succ k1 =>
      have H := HA.out
      clear HA
      simp only [wire_Sum.l0] at H
      by_cases c2 : x8_1 < (l0.length : Int)
      · rw [if_pos c2] at H
        have c2b0 : decide (x8_1 < (l0.length : Int)) = true := decide_eq_true c2
        clear c2
        by_cases c3 : 0 ≤ x8_1
        · rw [if_pos c3] at H
          have c3b0 : decide (0 ≤ x8_1) = true := decide_eq_true c3
          clear c3
          by_cases c4 : x8_1 < (l0.length : Int)
          · rw [if_pos c4] at H
            have c4b0 : decide (x8_1 < (l0.length : Int)) = true := decide_eq_true c4
            clear c4
            have H' := Aside0.mk H
            clear H
            have p116 : 0 ≤ (x8_1 : Int) := of_decide_eq_true (by first | (with_reducible assumption) | assumption)
            have q116 : x8_1 < (l0.length : Int) := of_decide_eq_true (by first | (with_reducible assumption) | assumption)
            obtain ⟨ad116, e116, hx116_0⟩ := Kd.at_int HR0.out x8_1 p116 q116
            cases e116
            replace p116 := eq_true p116
            replace q116 := eq_true q116
            go_wp2
            go_loopg [3, 16] k1 (fun kq v3 v16 w' => ∃ (x3_2 : Int) (x16_2 : Int), v3 = .int .u32 x3_2 ∧ v16 = .int .i64 x16_2 ∧ Aside0 (wire_Sum.l1 kq x3_2 l0 (l0.length : Int) x8_1 x16_2 = some r) ∧ Aside0 (kq ≤ k1) ∧ Drawn0 w w')
            case atStart => exact ⟨(Go.bits .xor .u32 x3_1 ((rd l0 x8_1) % 4294967296)), (0), (by first | rfl | (simp; done) | (simp [*]; done)), (by first | rfl | (simp; done) | (simp [*]; done)), H', ⟨Nat.le_refl _⟩, by repeat (first | exact Drawn0.refl _ | apply Drawn0.step)⟩
            case round =>
              clear H'
              try clear c1
              try clear p1
              try clear q1
              try clear hx1
              try clear c2
              try clear c2b0
              try clear p2
              try clear c3
              try clear c3b0
              try clear c4
              try clear c4b0
              try clear hx116_0
              try clear p116
              try clear q116
              obtain ⟨x3_2, x16_2, rfl, rfl, HA, HK2, ⟨m2, rfl⟩⟩ := hrel
              cases gk with
              | zero => exact absurd HA.out (by simp [wire_Sum.l1])
              | succ k2 =>
                have H := HA.out
                clear HA
                simp only [wire_Sum.l1] at H
                by_cases c5 : x16_2 < 8
                · rw [if_pos c5] at H
                  have c5b0 : decide (x16_2 < 8) = true := decide_eq_true c5
                  clear c5
                  have H' := Aside0.mk H
                  clear H
                  go_wp2
                  go_roundg k2
                  case measure => have := HK1.out; have := HK2.out; omega
                  case rel => exact ⟨(Go.bits .xor .u32 (x3_2 / 2) (Go.bits .and .u32 3988292384 ((-(Go.bits .and .u32 x3_2 1)) % 4294967296))), (wrap64 (x16_2 + 1)), (by first | rfl | (simp; done) | (simp [*]; done)), (by first | rfl | (simp; done) | (simp [*]; done)), H', ⟨by have := HK1.out; have := HK2.out; omega⟩, by repeat (first | exact Drawn0.refl _ | apply Drawn0.step)⟩
                · rw [if_neg c5] at H
                  have c5b0 : decide (x16_2 < 8) = false := decide_eq_false c5
                  clear c5
                  have H' := Aside0.mk H
                  clear H
                  go_wp2
                  go_roundg k2
                  case measure => have := HK1.out; have := HK2.out; omega
                  case rel => exact ⟨(x3_2), (wrap64 (x8_1 + 1)), (by first | rfl | (simp; done) | (simp [*]; done)), (by first | rfl | (simp; done) | (simp [*]; done)), H', ⟨by have := HK1.out; have := HK2.out; omega⟩, by repeat (first | exact Drawn0.refl _ | apply Drawn0.step)⟩
          · rw [if_neg c4] at H
            exact absurd H (by simp)
        · rw [if_neg c3] at H
          exact absurd H (by simp)
      · rw [if_neg c2] at H
        have c2b0 : decide (x8_1 < (l0.length : Int)) = false := decide_eq_false c2
        clear c2
        obtain rfl := Option.some.inj H
        go_wp2
        go_ret
        exact ⟨by first | rfl | (simp; done) | (simp [*]; done), by repeat (first | exact Drawn0.refl _ | apply Drawn0.step)⟩

end Go.Proofs.Ytjkimfjhfncldaa.Q
end

section
-- written by hprint.py (a program of these sessions) out of the translation; Lean checks it
namespace Go.Proofs.Ytjkimfjhfncldaa.Q
open Go.RowKit Go.Proofs.YtjkimfjhfncldaaW.Hb Go.Proofs.YtjkimfjhfncldaaW.PrintWords Go.Proofs.YtjkimfjhfncldaaW.PrintLast Go.Proofs.YtjkimfjhfncldaaW.PrintMore
attribute [local go_sem] max2_int min2_int max_two min_two max_three min_three max_four min_four   -- for this text's walks alone
set_option linter.unusedVariables false
set_option linter.unusedSimpArgs false

/-! ### slices_Reverse_byte_byte: function 60 -/
def slices_Reverse_byte_byte.l0 : Nat → List Int → Int → Int → Option (List Int)
  | 0, _, _, _ => none
  | k + 1, x0, x2, x3 => if x2 < x3 then (if 0 ≤ x3 then (if x3 < (x0.length : Int) then (if 0 ≤ x2 then (if x2 < (x0.length : Int) then (slices_Reverse_byte_byte.l0 k ((x0.set (x2 : Int).toNat (rd x0 x3)).set (x3 : Int).toNat (rd x0 x2)) (wrap64 (x2 + 1)) (wrap64 (x3 - 1))) else (none)) else (none)) else (none)) else (none)) else (some x0)
def slices_Reverse_byte_byte.f (k : Nat) (l0 : List Int) : Option (List Int) := slices_Reverse_byte_byte.l0 k l0 0 (wrap64 ((l0.length : Int) - 1))
theorem slices_Reverse_byte_byte.mono_l : ∀ k, (∀ y0 y1 y2, LeO (slices_Reverse_byte_byte.l0 k y0 y1 y2) (slices_Reverse_byte_byte.l0 (k + 1) y0 y1 y2))
  | 0 => fun _ _ _ r h => by simp [slices_Reverse_byte_byte.l0] at h
  | k + 1 => by
    have ih0 := slices_Reverse_byte_byte.mono_l k
    · intro y0 y1 y2
      unfold slices_Reverse_byte_byte.l0
      repeat' first
      | (with_reducible exact ih0 _ _ _)
      | (with_reducible exact LeO.refl _)
      | (with_reducible exact LeO.none _)
      | (with_reducible refine LeO.ite ?_ ?_)
      | (with_reducible refine LeO.bind ?_ (fun _ => ?_))
      | exact ih0 _ _ _
      | exact LeO.none _
      | refine LeO.ite ?_ ?_
      | refine LeO.bind ?_ (fun _ => ?_)
theorem slices_Reverse_byte_byte.mono : ∀ a0 k, LeO (slices_Reverse_byte_byte.f k a0) (slices_Reverse_byte_byte.f (k + 1) a0) := by
  intro a0 k
  have ih0 := slices_Reverse_byte_byte.mono_l k
  unfold slices_Reverse_byte_byte.f
  repeat' first
      | (with_reducible exact ih0 _ _ _)
      | (with_reducible exact LeO.refl _)
      | (with_reducible exact LeO.none _)
      | (with_reducible refine LeO.ite ?_ ?_)
      | (with_reducible refine LeO.bind ?_ (fun _ => ?_))
      | exact ih0 _ _ _
      | exact LeO.none _
      | refine LeO.ite ?_ ?_
      | refine LeO.bind ?_ (fun _ => ?_)
def slices_Reverse_byte_byte.T3 : Bool × List (List Nat × List Nat) := (true, [([], []), ([], []), ([], []), ([], []), ([], []), ([], []), ([4, 5], [4, 5]), ([6], [6]), ([], []), ([], []), ([8, 9], [8, 9]), ([10], [10]), ([0, 1, 0, 1, 4, 5, 6, 7, 11], [0, 1]), ([12, 7, 0, 1, 4, 5, 6, 7, 11], [7, 12]), ([2, 3, 0, 1, 2, 3, 4, 5, 6, 7, 8, 9, 10, 11, 12, 13], [2, 3]), ([14, 11, 13, 0, 1, 2, 3, 4, 5, 6, 7, 8, 9, 10, 11, 12, 13], [11, 14])])
def slices_Reverse_byte_byte.B3 : List Nat := [0, 0, 0, 0, 0, 0, 48, 112, 0, 0, 768, 1792, 4083, 8179, 16383, 32767]
theorem slices_Reverse_byte_byte.tab3 : rtab .any (opsOf Try.f60 3) = slices_Reverse_byte_byte.T3 := by kernel_rfl
theorem slices_Reverse_byte_byte.bits3 : waitsOk slices_Reverse_byte_byte.T3.2 slices_Reverse_byte_byte.B3 = true := by kernel_rfl
set_option maxHeartbeats 8000000 in
set_option maxRecDepth 100000 in
theorem slices_Reverse_byte_byte.calls (k : Nat) (P0_ : Nat → Prop) (u9000_ : Value) (l0 : List Int) (r : List Int) (w0 w : World) (hB : Below w0.heap.size w0 w) (ho0 : Kd.R (Kd.int .u8) 5 w w0.heap.size P0_ u9000_ l0) (h : slices_Reverse_byte_byte.f k l0 = some r) :
    Calls Try.prog 60 #[u9000_] w fun e w' => e = .returned (.tuple #[]) ∧ Kd.R (Kd.int .u8) 5 w' w0.heap.size (fun k_ => (P0_ k_ ∨ w.heap.size ≤ k_)) u9000_ r ∧ Below w0.heap.size w0 w' ∧ Kept w w' (fun k_ => P0_ k_) := by
  have HO0 := Aside0.mk (show Kd.R (Kd.int .u8) 5 w w0.heap.size (fun k_ => (P0_ k_ ∨ w.heap.size ≤ k_)) u9000_ l0 from Kd.R_mono ho0 (fun k_ hk => (.inl hk)))
  have HK := Aside0.mk (Kept.refl w (fun k_ => P0_ k_))
  have HW0 := Aside0.mk hB.size
  have HB := Aside0.mk hB
  clear hB
  have H : (slices_Reverse_byte_byte.l0 k l0 0 (wrap64 ((l0.length : Int) - 1))) = some r := h
  clear h
  have H' := Aside0.mk H
  clear H
  obtain ⟨Ao2, co2, eo2⟩ := Kd.R_slice HO0.out
  subst eo2
  go_enter Try.func60, Try.ntmps60
  go_wp2
  go_loopg [2, 3] k (fun kq v2 v3 w' => ∃ (x0_1 : List Int) (x2_1 : Int) (x3_1 : Int), v2 = .int .i64 x2_1 ∧ v3 = .int .i64 x3_1 ∧ Aside0 (slices_Reverse_byte_byte.l0 kq x0_1 x2_1 x3_1 = some r) ∧ Aside0 (kq ≤ k) ∧ Aside0 (Kd.R (Kd.int .u8) 5 w' w0.heap.size (fun k_ => (P0_ k_ ∨ w.heap.size ≤ k_)) (.slice Ao2 l0.length co2) x0_1) ∧ Aside0 (Kept w w' (fun k_ => P0_ k_)) ∧ Aside0 (Below w0.heap.size w0 w'))
  case atStart => exact ⟨(l0), (0), (wrap64 ((l0.length : Int) - 1)), (by first | rfl | (simp; done) | (simp [*]; done)), (by first | rfl | (simp; done) | (simp [*]; done)), H', ⟨Nat.le_refl _⟩, ⟨by (with_reducible repeat (first | apply Kd.R_alloc | apply Kd.R_drewN | apply Kd.R_drew)); exact HO0.out⟩, ⟨by repeat (first | (with_reducible first | exact HK.out | apply Kept.alloc | apply Kept.drewN | apply Kept.drew) | exact HK.out)⟩, ⟨by repeat (first | (with_reducible first | exact HB.out | apply below_alloc | apply pw_below_drewN | apply below_drew1) | exact HB.out)⟩⟩
  case round =>
    clear H'
    try clear p2
    obtain ⟨x0_1, x2_1, x3_1, rfl, rfl, HA, HK1, HO_0, HK, HB⟩ := hrel
    have hl0_1 := (Kd.R_reads' HO_0.out).1
    rw [hl0_1] at HO_0
    (try simp only [hl0_1])
    cases gk with
    | zero => exact absurd HA.out (by simp [slices_Reverse_byte_byte.l0])
    | succ k1 =>
      have H := HA.out
      clear HA
      simp only [slices_Reverse_byte_byte.l0] at H
      by_cases c3 : x2_1 < x3_1
      · rw [if_pos c3] at H
        have c3b0 : decide (x2_1 < x3_1) = true := decide_eq_true c3
        clear c3
        by_cases c4 : 0 ≤ x3_1
        · rw [if_pos c4] at H
          have c4b0 : decide (0 ≤ x3_1) = true := decide_eq_true c4
          clear c4
          by_cases c5 : x3_1 < (x0_1.length : Int)
          · rw [if_pos c5] at H
            have c5b0 : decide (x3_1 < (x0_1.length : Int)) = true := decide_eq_true c5
            clear c5
            by_cases c6 : 0 ≤ x2_1
            · rw [if_pos c6] at H
              have c6b0 : decide (0 ≤ x2_1) = true := decide_eq_true c6
              clear c6
              by_cases c7 : x2_1 < (x0_1.length : Int)
              · rw [if_pos c7] at H
                have c7b0 : decide (x2_1 < (x0_1.length : Int)) = true := decide_eq_true c7
                clear c7
                obtain ⟨y119, hy119⟩ : ∃ y_ : List Int, y_ = (x0_1.set (x2_1 : Int).toNat (rd x0_1 x3_1)) := ⟨_, rfl⟩
                replace H : (slices_Reverse_byte_byte.l0 k1 (y119.set (x3_1 : Int).toNat (rd x0_1 x2_1)) (wrap64 (x2_1 + 1)) (wrap64 (x3_1 - 1))) = some r := by first | (rw [hy119]; with_reducible exact H) | (have H2_ := (Option.bind_some _ _).symm.trans H; rw [hy119]; with_reducible exact H2_) | (have H2_ := (Option.bind_some _ _).symm.trans H; with_reducible exact H2_) | with_reducible exact H | (rw [hy119]; exact H) | exact H
                have Ny119 := Aside0.mk hy119
                clear hy119
                obtain ⟨y120, hy120⟩ : ∃ y_ : List Int, y_ = (y119.set (x3_1 : Int).toNat (rd x0_1 x2_1)) := ⟨_, rfl⟩
                replace H : (slices_Reverse_byte_byte.l0 k1 y120 (wrap64 (x2_1 + 1)) (wrap64 (x3_1 - 1))) = some r := by first | (rw [hy120]; with_reducible exact H) | (have H2_ := (Option.bind_some _ _).symm.trans H; rw [hy120]; with_reducible exact H2_) | (have H2_ := (Option.bind_some _ _).symm.trans H; with_reducible exact H2_) | with_reducible exact H | (rw [hy120]; exact H) | exact H
                have Ny120 := Aside0.mk hy120
                clear hy120
                have H' := Aside0.mk H
                clear H
                try go_wp2
                have n0_ := Aside0.mk (Kd.R_drew HO_0.out)
                have n1_ := Aside0.mk (Kept.drew HK.out)
                have n2_ := Aside0.mk (below_drew1 HB.out)
                clear HO_0
                clear HK
                clear HB
                have HO_0 := n0_
                have HK := n1_
                have HB := n2_
                clear n0_ n1_ n2_
                have p117 : 0 ≤ (x3_1 : Int) := of_decide_eq_true (by first | (with_reducible assumption) | assumption)
                have q117 : x3_1 < (x0_1.length : Int) := of_decide_eq_true (by first | (with_reducible assumption) | assumption)
                obtain ⟨ad117, e117, hx117_0⟩ := Kd.at_int (Kd.R_reads' HO_0.out).2.2 x3_1 p117 q117
                cases e117
                replace p117 := eq_true p117
                replace q117 := eq_true q117
                have p118 : 0 ≤ (x2_1 : Int) := of_decide_eq_true (by first | (with_reducible assumption) | assumption)
                have q118 : x2_1 < (x0_1.length : Int) := of_decide_eq_true (by first | (with_reducible assumption) | assumption)
                obtain ⟨ad118, e118, hx118_0⟩ := Kd.at_int (Kd.R_reads' HO_0.out).2.2 x2_1 p118 q118
                obtain rfl : ad117 = ad118 := (by injection e118)
                replace p118 := eq_true p118
                replace q118 := eq_true q118
                have p8 : 0 ≤ (x2_1 : Int) := of_decide_eq_true (by first | (with_reducible assumption) | assumption)
                have q8 : (x2_1 : Int) < ((x0_1.length : Int) : Int) := of_decide_eq_true (by first | (with_reducible assumption) | assumption)
                obtain ⟨go8, co8, eo8, gb8, gl8, cl8, HG8⟩ := Kd.R_form HO_0.out (by omega)
                (first | cases eo8 | (injection eo8 with ea_ en_ ec_; (first | subst ea_ | (injection ea_ with ea_; subst ea_)); subst ec_; clear en_))
                have GB8 := Aside0.mk gb8
                have GG8 := Aside0.mk HG8
                clear gb8 gl8 HG8
                have HMgo8 := Aside0.mk (show (P0_ go8 ∨ w.heap.size ≤ go8) from (HO_0.out.1 _ rfl))
                (first | simp only [add_plain] at hx117_0 | skip)
                (first | simp only [add_plain] at hx118_0 | skip)
                obtain ⟨hx8_0, hf8_0⟩ := Kd.R_celln 0 HO_0.out (x2_1 : Int) p8 q8
                replace p8 := eq_true p8
                replace q8 := eq_true q8
                have HP11 := Kd.R_putn HO_0.out (x2_1 : Int) (rd x0_1 x3_1)
                rw [← Ny119.out] at HP11
                have HQ11 := Aside0.mk HP11
                clear HP11
                have p9 : 0 ≤ (x3_1 : Int) := of_decide_eq_true (by first | (with_reducible assumption) | assumption)
                have q9 : (x3_1 : Int) < ((x0_1.length : Int) : Int) := of_decide_eq_true (by first | (with_reducible assumption) | assumption)
                obtain ⟨hx9_0, hf9_0⟩ := Kd.R_celln 0 HQ11.out (x3_1 : Int) p9 q9
                replace p9 := eq_true p9
                replace q9 := eq_true q9
                have HP12 := Kd.R_putn HQ11.out (x3_1 : Int) (rd x0_1 x2_1)
                rw [← Ny120.out] at HP12
                have HQ12 := Aside0.mk HP12
                clear HP12
                refine start_ (n := 16) (S := fun w' => w'.cell? ⟨go8, (x3_1).toNat, none⟩ = some (.int .u8 (rd x0_1 x3_1)) ∧ w'.cell? ⟨go8, (x2_1).toNat, none⟩ = some (.int .u8 (rd x0_1 x2_1))) (ds := [13, 15]) #[false, false, false, false, false, false, false, false, false, false, false, false, false, false, false, false] (by kernel_rfl) rfl rfl ⟨hx117_0, hx118_0⟩ (fun hHeld => ?_); refine with_tabW slices_Reverse_byte_byte.tab3 slices_Reverse_byte_byte.bits3 (fun HT_ HW_ => ?_)
                generalize wr.drew = w10 at HO_0 HK HB GG8 HQ11 HQ12 hf8_0 hf9_0 hx117_0 hx118_0 hx8_0 hx9_0 hHeld ⊢
                refine pure_ (i := 0) (N := some 14) (v := ?_) (a' := ?_) #[true, false, false, false, false, false, false, false, false, false, false, false, false, false, false, false] rfl rfl (any_of HT_.out (by kernel_rfl)) (fun _ _ _ h => h) (Or.inl ⟨by rfl, ?_⟩) ?_ ?_
                rotate_left
                · intro w'
                  go_simp
                  with_reducible rfl
                rotate_left
                · simp only [Act.put, List.setIfInBounds_toArray, List.set_cons_zero, List.set_cons_succ, i64_w, i32_w]
                  rfl
                refine pure_ (i := 1) (N := some 15) (v := ?_) (a' := ?_) #[true, true, false, false, false, false, false, false, false, false, false, false, false, false, false, false] rfl rfl (any_of HT_.out (by kernel_rfl)) (fun _ _ _ h => h) (Or.inl ⟨by rfl, ?_⟩) ?_ ?_
                rotate_left
                · intro w'
                  go_simp
                  with_reducible rfl
                rotate_left
                · simp only [Act.put, List.setIfInBounds_toArray, List.set_cons_zero, List.set_cons_succ, i64_w, i32_w]
                  rfl
                refine pure_ (i := 2) (N := some 16) (v := ?_) (a' := ?_) #[true, true, true, false, false, false, false, false, false, false, false, false, false, false, false, false] rfl rfl (any_of HT_.out (by kernel_rfl)) (fun _ _ _ h => h) (Or.inl ⟨by rfl, ?_⟩) ?_ ?_
                rotate_left
                · intro w'
                  go_simp
                  with_reducible rfl
                rotate_left
                · simp only [Act.put, List.setIfInBounds_toArray, List.set_cons_zero, List.set_cons_succ, i64_w, i32_w]
                  rfl
                refine pure_ (i := 3) (N := some 17) (v := ?_) (a' := ?_) #[true, true, true, true, false, false, false, false, false, false, false, false, false, false, false, false] rfl rfl (any_of HT_.out (by kernel_rfl)) (fun _ _ _ h => h) (Or.inl ⟨by rfl, ?_⟩) ?_ ?_
                rotate_left
                · intro w'
                  go_simp
                  with_reducible rfl
                rotate_left
                · simp only [Act.put, List.setIfInBounds_toArray, List.set_cons_zero, List.set_cons_succ, i64_w, i32_w]
                  rfl
                refine pure_ (i := 4) (N := some 18) (v := ?_) (a' := ?_) #[true, true, true, true, true, false, false, false, false, false, false, false, false, false, false, false] rfl rfl (any_of HT_.out (by kernel_rfl)) (fun _ _ _ h => h) (Or.inl ⟨by rfl, ?_⟩) ?_ ?_
                rotate_left
                · intro w'
                  go_simp
                  with_reducible rfl
                rotate_left
                · simp only [Act.put, List.setIfInBounds_toArray, List.set_cons_zero, List.set_cons_succ, i64_w, i32_w]
                  rfl
                refine pure_ (i := 5) (N := some 19) (v := ?_) (a' := ?_) #[true, true, true, true, true, true, false, false, false, false, false, false, false, false, false, false] rfl rfl (any_of HT_.out (by kernel_rfl)) (fun _ _ _ h => h) (Or.inl ⟨by rfl, ?_⟩) ?_ ?_
                rotate_left
                · intro w'
                  go_simp
                  with_reducible rfl
                rotate_left
                · simp only [Act.put, List.setIfInBounds_toArray, List.set_cons_zero, List.set_cons_succ, i64_w, i32_w]
                  rfl
                refine pure_ (i := 6) (N := some 20) (v := ?_) (a' := ?_) #[true, true, true, true, true, true, true, false, false, false, false, false, false, false, false, false] rfl rfl (any_of HT_.out (by kernel_rfl)) (fun _ _ _ h => h) (Or.inl ⟨by rfl, ?_⟩) ?_ ?_
                rotate_left
                · intro w'
                  go_simp
                  with_reducible rfl
                rotate_left
                · simp only [Act.put, List.setIfInBounds_toArray, List.set_cons_zero, List.set_cons_succ, i64_w, i32_w]
                  rfl
                refine pure_ (i := 8) (N := some 22) (v := ?_) (a' := ?_) #[true, true, true, true, true, true, true, false, true, false, false, false, false, false, false, false] rfl rfl (any_of HT_.out (by kernel_rfl)) (fun _ _ _ h => h) (Or.inl ⟨by rfl, ?_⟩) ?_ ?_
                rotate_left
                · intro w'
                  go_simp
                  with_reducible rfl
                rotate_left
                · simp only [Act.put, List.setIfInBounds_toArray, List.set_cons_zero, List.set_cons_succ, i64_w, i32_w]
                  rfl
                refine pure_ (i := 9) (N := some 23) (v := ?_) (a' := ?_) #[true, true, true, true, true, true, true, false, true, true, false, false, false, false, false, false] rfl rfl (any_of HT_.out (by kernel_rfl)) (fun _ _ _ h => h) (Or.inl ⟨by rfl, ?_⟩) ?_ ?_
                rotate_left
                · intro w'
                  go_simp
                  with_reducible rfl
                rotate_left
                · simp only [Act.put, List.setIfInBounds_toArray, List.set_cons_zero, List.set_cons_succ, i64_w, i32_w]
                  rfl
                refine pure_ (i := 10) (N := some 24) (v := ?_) (a' := ?_) #[true, true, true, true, true, true, true, false, true, true, true, false, false, false, false, false] rfl rfl (any_of HT_.out (by kernel_rfl)) (fun _ _ _ h => h) (Or.inl ⟨by rfl, ?_⟩) ?_ ?_
                rotate_left
                · intro w'
                  go_simp
                  with_reducible rfl
                rotate_left
                · simp only [Act.put, List.setIfInBounds_toArray, List.set_cons_zero, List.set_cons_succ, i64_w, i32_w]
                  rfl
                refine take_ (i := 7) (N := some 21) (v := ?_) (a' := ?_) #[true, true, true, true, true, true, true, true, true, true, true, false, false, false, false, false] rfl rfl (take_ofW HT_.out HW_.out (by kernel_rfl)) (fun _ _ _ h => h) (Or.inl ⟨by rfl, ?_⟩) hHeld ?_ ?_
                rotate_left
                · rintro w' ⟨s0, s1⟩
                  go_simp
                  with_reducible rfl
                rotate_left
                · simp only [Act.put, List.setIfInBounds_toArray, List.set_cons_zero, List.set_cons_succ, i64_w, i32_w]
                  rfl
                refine take_ (i := 11) (N := some 25) (v := ?_) (a' := ?_) #[true, true, true, true, true, true, true, true, true, true, true, true, false, false, false, false] rfl rfl (take_ofW HT_.out HW_.out (by kernel_rfl)) (fun _ _ _ h => h) (Or.inl ⟨by rfl, ?_⟩) hHeld ?_ ?_
                rotate_left
                · rintro w' ⟨s0, s1⟩
                  go_simp
                  with_reducible rfl
                rotate_left
                · simp only [Act.put, List.setIfInBounds_toArray, List.set_cons_zero, List.set_cons_succ, i64_w, i32_w]
                  rfl
                refine pure_ (i := 12) (N := some 26) (v := ?_) (a' := ?_) #[true, true, true, true, true, true, true, true, true, true, true, true, true, false, false, false] rfl rfl (any_of HT_.out (by kernel_rfl)) (fun _ _ _ h => h) (Or.inl ⟨by rfl, ?_⟩) ?_ ?_
                rotate_left
                · intro w'
                  go_simp
                  with_reducible rfl
                rotate_left
                · simp only [Act.put, List.setIfInBounds_toArray, List.set_cons_zero, List.set_cons_succ, i64_w, i32_w]
                  rfl
                refine last_ (i := 13) (N := none) #[true, true, true, true, true, true, true, true, true, true, true, true, true, true, false, false] rfl rfl (one_of HT_.out (by kernel_rfl)) (by decide) (fun K hK => ?_)
                refine skip_ (w1 := ?_) (by rfl) rfl ?_ ?_
                rotate_left
                · go_simp
                  rfl
                refine hK.out _ _ ?_
                clear hK K
                refine pure_ (i := 14) (N := some 27) (v := ?_) (a' := ?_) #[true, true, true, true, true, true, true, true, true, true, true, true, true, true, true, false] rfl rfl (any_of HT_.out (by kernel_rfl)) (fun _ _ _ h => h) (Or.inl ⟨by rfl, ?_⟩) ?_ ?_
                rotate_left
                · intro w'
                  go_simp
                  with_reducible rfl
                rotate_left
                · simp only [Act.put, List.setIfInBounds_toArray, List.set_cons_zero, List.set_cons_succ, i64_w, i32_w]
                  rfl
                refine last_ (i := 15) (N := none) #[true, true, true, true, true, true, true, true, true, true, true, true, true, true, true, true] rfl rfl (one_of HT_.out (by kernel_rfl)) (by decide) (fun K hK => ?_)
                refine skip_ (w1 := ?_) (by rfl) rfl ?_ ?_
                rotate_left
                · go_simp
                  rfl
                refine hK.out _ _ ?_
                clear hK K
                refine done_ (done_of HT_.out (by kernel_rfl)) ?_
                try go_wp2
                (try simp only [← hl0_1])
                go_roundg k1
                case measure => have := HK1.out; omega
                case rel => exact ⟨(y120), (wrap64 (x2_1 + 1)), (wrap64 (x3_1 - 1)), (by first | rfl | (simp; done) | (simp [*]; done)), (by first | rfl | (simp; done) | (simp [*]; done)), H', ⟨by have := HK1.out; omega⟩, ⟨by (try simp only [hl0_1]); (with_reducible repeat (first | apply Kd.R_alloc | apply Kd.R_drewN | apply Kd.R_drew)); exact HQ12.out⟩, ⟨by repeat (first | (with_reducible first | exact HK.out | apply Kept.alloc | apply Kept.drewN | apply Kept.drew | refine Kept.setCell ?_ HMgo8.out _ | refine Kept.setCell ?_ HMgo8.out _) | exact HK.out)⟩, ⟨by repeat (first | (with_reducible first | exact HB.out | apply below_alloc | apply pw_below_drewN | apply below_drew1 | refine below_set ?_ GB8.out | refine below_set ?_ GB8.out) | exact HB.out)⟩⟩
              · rw [if_neg c7] at H
                exact absurd H (by simp)
            · rw [if_neg c6] at H
              exact absurd H (by simp)
          · rw [if_neg c5] at H
            exact absurd H (by simp)
        · rw [if_neg c4] at H
          exact absurd H (by simp)
      · rw [if_neg c3] at H
        have c3b0 : decide (x2_1 < x3_1) = false := decide_eq_false c3
        clear c3
        obtain rfl := Option.some.inj H
        go_wp2
        first | go_end0 | ((try simp only [Exit.inBlock, Exit.then]); refine bodyPost_ret (results_none rfl _ _ _) rfl ?_)
        exact ⟨by first | rfl | (simp [errW_none, errW_some] <;> rfl) | (simp [*, errW_none, errW_some] <;> rfl), (by first | exact (by (with_reducible repeat (first | apply Kd.R_alloc | apply Kd.R_drewN | apply Kd.R_drew)); exact HO_0.out) | (simp only [hl0_1]; exact (by (with_reducible repeat (first | apply Kd.R_alloc | apply Kd.R_drewN | apply Kd.R_drew)); exact HO_0.out))), by repeat (first | (with_reducible first | exact HB.out | apply below_alloc | apply pw_below_drewN | apply below_drew1) | exact HB.out), by repeat (first | (with_reducible first | exact HK.out | apply Kept.alloc | apply Kept.drewN | apply Kept.drew) | exact HK.out)⟩

end Go.Proofs.Ytjkimfjhfncldaa.Q
end

section
-- written by hprint.py (a program of these sessions) out of the translation; Lean checks it
namespace Go.Proofs.Ytjkimfjhfncldaa.Q
open Go.RowKit Go.Proofs.YtjkimfjhfncldaaW.Hb Go.Proofs.YtjkimfjhfncldaaW.PrintWords Go.Proofs.YtjkimfjhfncldaaW.PrintLast Go.Proofs.YtjkimfjhfncldaaW.PrintMore
attribute [local go_sem] max2_int min2_int max_two min_two max_three min_three max_four min_four   -- for this text's walks alone
set_option linter.unusedVariables false
set_option linter.unusedSimpArgs false

/-! ### wire_little: function 45 -/
def wire_little.f (k : Nat) (a0 : Int) : Option (List Int) := (wire_big.f (IntKind.u64.wrap (a0)) 4).bind fun t121 => ((slices_Reverse_byte_byte.f k t121).bind fun t124 => (some t124))
theorem wire_little.mono : ∀ a0 k, LeO (wire_little.f k a0) (wire_little.f (k + 1) a0) := by
  intro a0 k
  unfold wire_little.f
  repeat' first
      | (with_reducible exact slices_Reverse_byte_byte.mono _ _)
      | (with_reducible exact LeO.refl _)
      | (with_reducible exact LeO.none _)
      | (with_reducible refine LeO.ite ?_ ?_)
      | (with_reducible refine LeO.bind ?_ (fun _ => ?_))
      | exact slices_Reverse_byte_byte.mono _ _
      | exact LeO.none _
      | refine LeO.ite ?_ ?_
      | refine LeO.bind ?_ (fun _ => ?_)
set_option maxHeartbeats 8000000 in
set_option maxRecDepth 100000 in
theorem wire_little.calls (k : Nat) (a0 : Int) (r : List Int) (w : World) (h : wire_little.f k a0 = some r) :
    Calls Try.prog 45 #[.int .u32 a0] w fun e w' => ∃ v0_ : Value, e = .returned (v0_) ∧ Kd.R (Kd.int .u8) 5 w' w.heap.size (fun _ => True) v0_ r ∧ Below w.heap.size w w' := by
  have HB := Aside0.mk (Below.refl w.heap.size w)
  have H : ((wire_big.f (IntKind.u64.wrap (a0)) 4).bind fun t121 => ((slices_Reverse_byte_byte.f k t121).bind fun t124 => (some t124))) = some r := h
  clear h
  replace H := Option.bind_eq_some_iff.mp H
  obtain ⟨t121, A20, H⟩ := H
  replace H : ((slices_Reverse_byte_byte.f k t121).bind fun t124 => (some t124)) = some r := H
  have A2 := Aside0.mk A20
  clear A20
  replace H := Option.bind_eq_some_iff.mp H
  obtain ⟨t124, A30, H⟩ := H
  replace H : (some t124) = some r := H
  have A3 := Aside0.mk A30
  clear A30
  obtain rfl := Option.some.inj H
  go_enter Try.func45, Try.ntmps45
  go_wp2_with (first | ((with_reducible refine gate_callee (f := 43) rfl ?_); refine goesL_ (some 6) rfl rfl Try.func43 (by kernel_rfl) rfl #[.int .u64 (IntKind.u64.wrap (a0)), .int .i64 4] rfl (by (try simp only [List.map_toArray, List.map_cons, List.map_nil]); first | done | rfl | (simp only [List.length_drop, List.length_take]; rfl)) ?_; (with_reducible refine (wire_big.calls (IntKind.u64.wrap (a0)) 4 t121 _ A2.out).mono ?_); rintro e w4 ⟨v122, rfl, ho0, hb⟩; refine ⟨_, rfl, ?_⟩; have n0_ := Aside0.mk (Kd.R_lower ho0 (below_size (by repeat (first | (with_reducible first | exact HB.out | apply below_alloc | apply pw_below_drewN | apply below_drew1) | exact HB.out)))); have n1_ := Aside0.mk (below_step (by repeat (first | (with_reducible first | exact HB.out | apply below_alloc | apply pw_below_drewN | apply below_drew1) | exact HB.out)) hb); clear HB; have HO123 := n0_; have HB := n1_; clear n0_ n1_; (try clear hb); (try clear hb2); (try clear hk); (try clear hi); (try clear ho0); obtain ⟨Ao5, co5, eo5⟩ := Kd.R_slice HO123.out; subst eo5) | ((with_reducible refine gate_callee (f := 60) rfl ?_); refine goesL_ (some 8) rfl rfl Try.func60 (by kernel_rfl) rfl #[.slice Ao5 t121.length co5] rfl (by (try simp only [List.map_toArray, List.map_cons, List.map_nil]); first | done | rfl | (simp only [List.length_drop, List.length_take]; rfl)) ?_; (with_reducible refine (slices_Reverse_byte_byte.calls k (fun k_ => some k_ = (.slice Ao5 t121.length co5 : Value).ownBlock) (.slice Ao5 t121.length co5) t121 t124 w _ ?side1 ?side2 A3.out).mono ?_); (case side1 => repeat (first | (with_reducible first | exact HB.out | apply below_alloc | apply pw_below_drewN | apply below_drew1) | exact HB.out)); (case side2 => exact Kd.R_tight rfl HO123.out); rintro e w6 ⟨rfl, hy0, hb, hkp⟩; refine ⟨_, rfl, ?_⟩; have n0_ := Aside0.mk (Kd.R_reok rfl hy0 (fun k_ e_ => HO123.out.1 k_ e_)); have n1_ := Aside0.mk (hb); clear HO123; clear HB; have HO123 := n0_; have HB := n1_; clear n0_ n1_; (try clear hb); (try clear hkp); (try clear hy0)))
  go_ret
  exact ⟨_, by first | rfl | (simp [errW_none, errW_some] <;> rfl) | (simp [*, errW_none, errW_some] <;> rfl), by (with_reducible repeat (first | apply Kd.R_alloc | apply Kd.R_drewN | apply Kd.R_drew)); exact HO123.out, by repeat (first | (with_reducible first | exact HB.out | apply below_alloc | apply pw_below_drewN | apply below_drew1) | exact HB.out)⟩

end Go.Proofs.Ytjkimfjhfncldaa.Q
end

section
-- written by hprint.py (a program of these sessions) out of the translation; Lean checks it
namespace Go.Proofs.Ytjkimfjhfncldaa.Q
open Go.RowKit Go.Proofs.YtjkimfjhfncldaaW.Hb Go.Proofs.YtjkimfjhfncldaaW.PrintWords Go.Proofs.YtjkimfjhfncldaaW.PrintLast Go.Proofs.YtjkimfjhfncldaaW.PrintMore
attribute [local go_sem] max2_int min2_int max_two min_two max_three min_three max_four min_four   -- for this text's walks alone
set_option linter.unusedVariables false
set_option linter.unusedSimpArgs false

/-! ### slices_Clone_byte_byte: function 48, by hand -/
def slices_Clone_byte_byte.f (l0 : List Int) : Option (List Int) := if l0.length ≤ 140737488355328 then some l0 else none
set_option maxRecDepth 100000 in
set_option maxHeartbeats 1000000 in
theorem slices_Clone_byte_byte.walk (A0 : Option Addr) (n c0 : Nat) (l0 : List Int) (w : World) (hn : l0.length = n) (hr0 : Kd.C (Kd.int .u8) w A0 l0.length l0) (hc0 : n ≤ c0) (hl : l0.length * 1 ≤ 140737488355328) :
    Calls Try.prog 48 #[.slice A0 n c0] w (OwnRes (Kd.int .u8) 5 w l0) := by
  subst hn
  have qT : ∀ (w : World) (a : Option Addr) (n c n' c' : Nat), (binOp .eql 22 (.slice a n c) (.slice none n' c')).run Try.prog w = .ok (.bool a.isNone) w := fun w a n c n' c' => Lib.run_eql_slice_nil w _ _ a n c n' c' Try.underlying22
  cases A0 with
  | none =>
    obtain rfl : l0 = [] := by
      rcases Nat.eq_zero_or_pos l0.length with h | h
      · exact List.eq_nil_of_length_eq_zero h
      · obtain ⟨ad, e, _⟩ := hr0.2.2 h
        cases e
    go_enter Try.func48, Try.ntmps48
    go_wp2
    go_ret
    exact ⟨_, rfl, Kd.R_nil _ _ _ _ _, Below.refl _ _⟩
  | some ad =>
    have HC := Aside0.mk (Kd.C_alloc hr0 (.cells #[] 5))
    have HO := Aside0.mk (show (Kd.int .u8).R 5 (w.alloc (.cells #[] 5)) w.heap.size (fun _ => True) (.slice (some ⟨w.heap.size, 0, none⟩) 0 0) [] from Kd.R_of_own (own_lit w w.heap.size 5 .u8 [] (Nat.le_refl _) (by simp)) (fun _ _ => trivial))
    have HB := Aside0.mk ((Below.refl w.heap.size w).alloc (Nat.le_refl _) (.cells #[] 5))
    clear hr0
    go_enter Try.func48, Try.ntmps48
    go_wp2_with ((with_reducible refine gate_builtin (b := .append) (xs := #[.tmp 5, .tmp 6]) rfl ?_); at_builtin; refine Kd.R_append_rows (Kd.int .u8) (w0 := w) (Rr := (Kd.int .u8).K (w.alloc (.cells #[] 5))) w.heap.size rfl (.tmp 5) (.tmp 6) 22 5 (.int .u8 0) 1 rfl Try.underlying22 info5 rfl (by decide) (by omega) (.slice (some ⟨w.heap.size, 0, none⟩) 0 0) [] l0 (some ad) l0.length c0 (fun _ => True) (fun _ => False) rfl rfl HO.out HC.out (fun x cs hK => hK) (fun _ hk => hk.elim) (fun _ _ => trivial) HB.out HB.out.size (by simpa using hl) ?_; intro v3 w3 hR3 hB3 _ _; have HR3 := Aside0.mk hR3; have HB3 := Aside0.mk hB3; clear hR3 hB3)
    go_ret
    exact ⟨_, rfl, HR3.out, HB3.out⟩
theorem slices_Clone_byte_byte.calls (A0 : Option Addr) (c0 : Nat) (l0 : List Int) (r : List Int) (w : World) (hr0 : Kd.C (Kd.int .u8) w A0 l0.length l0) (hc0 : l0.length ≤ c0) (h : slices_Clone_byte_byte.f l0 = some r) :
    Calls Try.prog 48 #[.slice A0 l0.length c0] w fun e w' => ∃ v0_ : Value, e = .returned (v0_) ∧ Kd.R (Kd.int .u8) 5 w' w.heap.size (fun _ => True) v0_ r ∧ Below w.heap.size w w' := by
  unfold slices_Clone_byte_byte.f at h
  split at h
  · obtain rfl := Option.some.inj h
    exact slices_Clone_byte_byte.walk A0 l0.length c0 l0 w rfl hr0 hc0 (by omega)
  · cases h


end Go.Proofs.Ytjkimfjhfncldaa.Q
end

section
-- written by hprint.py (a program of these sessions) out of the translation; Lean checks it
namespace Go.Proofs.Ytjkimfjhfncldaa.Q
open Go.RowKit Go.Proofs.YtjkimfjhfncldaaW.Hb Go.Proofs.YtjkimfjhfncldaaW.PrintWords Go.Proofs.YtjkimfjhfncldaaW.PrintLast Go.Proofs.YtjkimfjhfncldaaW.PrintMore
attribute [local go_sem] max2_int min2_int max_two min_two max_three min_three max_four min_four   -- for this text's walks alone
set_option linter.unusedVariables false
set_option linter.unusedSimpArgs false

/-! ### slices_Equal_byte_byte: function 49 -/
def slices_Equal_byte_byte.l0 : Nat → List Int → List Int → Int → Int → Option (Bool)
  | 0, _, _, _, _ => none
  | k + 1, x0, x1, x12, x13 => if x13 < x12 then (if 0 ≤ x13 then (if x13 < (x0.length : Int) then (if x13 < (x1.length : Int) then (if (rd x0 x13) = (rd x1 x13) then (slices_Equal_byte_byte.l0 k x0 x1 x12 (wrap64 (x13 + 1))) else (some false)) else (none)) else (none)) else (none)) else (some true)
def slices_Equal_byte_byte.f (k : Nat) (l0 : List Int) (l1 : List Int) : Option (Bool) := if (l0.length : Int) = (l1.length : Int) then (slices_Equal_byte_byte.l0 k l0 l1 (l0.length : Int) 0) else (some false)
theorem slices_Equal_byte_byte.mono_l : ∀ k, (∀ y0 y1 y2 y3, LeO (slices_Equal_byte_byte.l0 k y0 y1 y2 y3) (slices_Equal_byte_byte.l0 (k + 1) y0 y1 y2 y3))
  | 0 => fun _ _ _ _ r h => by simp [slices_Equal_byte_byte.l0] at h
  | k + 1 => by
    have ih0 := slices_Equal_byte_byte.mono_l k
    · intro y0 y1 y2 y3
      unfold slices_Equal_byte_byte.l0
      repeat' first
      | (with_reducible exact ih0 _ _ _ _)
      | (with_reducible exact LeO.refl _)
      | (with_reducible exact LeO.none _)
      | (with_reducible refine LeO.ite ?_ ?_)
      | (with_reducible refine LeO.bind ?_ (fun _ => ?_))
      | exact ih0 _ _ _ _
      | exact LeO.none _
      | refine LeO.ite ?_ ?_
      | refine LeO.bind ?_ (fun _ => ?_)
theorem slices_Equal_byte_byte.mono : ∀ a0 a1 k, LeO (slices_Equal_byte_byte.f k a0 a1) (slices_Equal_byte_byte.f (k + 1) a0 a1) := by
  intro a0 a1 k
  have ih0 := slices_Equal_byte_byte.mono_l k
  unfold slices_Equal_byte_byte.f
  repeat' first
      | (with_reducible exact ih0 _ _ _ _)
      | (with_reducible exact LeO.refl _)
      | (with_reducible exact LeO.none _)
      | (with_reducible refine LeO.ite ?_ ?_)
      | (with_reducible refine LeO.bind ?_ (fun _ => ?_))
      | exact ih0 _ _ _ _
      | exact LeO.none _
      | refine LeO.ite ?_ ?_
      | refine LeO.bind ?_ (fun _ => ?_)
set_option maxHeartbeats 8000000 in
set_option maxRecDepth 100000 in
theorem slices_Equal_byte_byte.calls (k : Nat) (A0 : Option Addr) (c0 : Nat) (l0 : List Int) (A1 : Option Addr) (c1 : Nat) (l1 : List Int) (r : Bool) (w : World) (hr0 : Kd.C (Kd.int .u8) w A0 l0.length l0) (hc0 : l0.length ≤ c0) (hr1 : Kd.C (Kd.int .u8) w A1 l1.length l1) (hc1 : l1.length ≤ c1) (h : slices_Equal_byte_byte.f k l0 l1 = some r) :
    Calls Try.prog 49 #[.slice A0 l0.length c0, .slice A1 l1.length c1] w fun e w' => e = .returned (.bool r) ∧ Drawn0 w w' := by
  have HR0 := Aside0.mk hr0
  have HC0 := Aside0.mk hc0
  clear hr0 hc0
  have HR1 := Aside0.mk hr1
  have HC1 := Aside0.mk hc1
  clear hr1 hc1
  have H : (if (l0.length : Int) = (l1.length : Int) then (slices_Equal_byte_byte.l0 k l0 l1 (l0.length : Int) 0) else (some false)) = some r := h
  clear h
  by_cases c3 : (l0.length : Int) = (l1.length : Int)
  · rw [if_pos c3] at H
    have c3b0 : ((l0.length : Int) == (l1.length : Int)) = true := beq_iff_eq.mpr c3
    have c3b1 : ((l0.length : Int) != (l1.length : Int)) = false := bne_eq_false_iff_eq.mpr c3
    have c3b2 : (l0.length == l1.length) = true := by first | simpa using c3 | (simp at c3 ⊢; omega)
    clear c3
    have H' := Aside0.mk H
    clear H
    go_enter Try.func49, Try.ntmps49
    go_wp2
    repeat (go_quiet (fail); try go_wp2)
    go_loopg [13] k (fun kq v13 w' => ∃ (x13_1 : Int), v13 = .int .i64 x13_1 ∧ Aside0 (slices_Equal_byte_byte.l0 kq l0 l1 (l0.length : Int) x13_1 = some r) ∧ Aside0 (kq ≤ k) ∧ Drawn0 w w')
    case atStart => exact ⟨(0), (by first | rfl | (simp; done) | (simp [*]; done)), H', ⟨Nat.le_refl _⟩, by repeat (first | exact Drawn0.refl _ | apply Drawn0.step)⟩
    case round =>
      clear H'
      try clear c1
      try clear p2
      try clear c3
      try clear c3b0
      try clear c3b1
      try clear c3b2
      obtain ⟨x13_1, rfl, HA, HK1, ⟨m1, rfl⟩⟩ := hrel
      cases gk with
      | zero => exact absurd HA.out (by simp [slices_Equal_byte_byte.l0])
      | succ k1 =>
        have H := HA.out
        clear HA
        simp only [slices_Equal_byte_byte.l0] at H
        by_cases c4 : x13_1 < (l0.length : Int)
        · rw [if_pos c4] at H
          have c4b0 : decide (x13_1 < (l0.length : Int)) = true := decide_eq_true c4
          clear c4
          by_cases c5 : 0 ≤ x13_1
          · rw [if_pos c5] at H
            have c5b0 : decide (0 ≤ x13_1) = true := decide_eq_true c5
            clear c5
            by_cases c6 : x13_1 < (l0.length : Int)
            · rw [if_pos c6] at H
              have c6b0 : decide (x13_1 < (l0.length : Int)) = true := decide_eq_true c6
              clear c6
              by_cases c7 : x13_1 < (l1.length : Int)
              · rw [if_pos c7] at H
                have c7b0 : decide (x13_1 < (l1.length : Int)) = true := decide_eq_true c7
                clear c7
                by_cases c8 : (rd l0 x13_1) = (rd l1 x13_1)
                · rw [if_pos c8] at H
                  have c8b0 : ((rd l0 x13_1) == (rd l1 x13_1)) = true := beq_iff_eq.mpr c8
                  have c8b1 : ((rd l0 x13_1) != (rd l1 x13_1)) = false := bne_eq_false_iff_eq.mpr c8
                  clear c8
                  have H' := Aside0.mk H
                  clear H
                  have p130 : 0 ≤ (x13_1 : Int) := of_decide_eq_true (by first | (with_reducible assumption) | assumption)
                  have q130 : x13_1 < (l0.length : Int) := of_decide_eq_true (by first | (with_reducible assumption) | assumption)
                  obtain ⟨ad130, e130, hx130_0⟩ := Kd.at_int HR0.out x13_1 p130 q130
                  cases e130
                  replace p130 := eq_true p130
                  replace q130 := eq_true q130
                  have p131 : 0 ≤ (x13_1 : Int) := of_decide_eq_true (by first | (with_reducible assumption) | assumption)
                  have q131 : x13_1 < (l1.length : Int) := of_decide_eq_true (by first | (with_reducible assumption) | assumption)
                  obtain ⟨ad131, e131, hx131_0⟩ := Kd.at_int HR1.out x13_1 p131 q131
                  cases e131
                  replace p131 := eq_true p131
                  replace q131 := eq_true q131
                  go_wp2
                  repeat (go_quiet (fail); try go_wp2)
                  go_roundg k1
                  case measure => have := HK1.out; omega
                  case rel => exact ⟨(wrap64 (x13_1 + 1)), (by first | rfl | (simp; done) | (simp [*]; done)), H', ⟨by have := HK1.out; omega⟩, by repeat (first | exact Drawn0.refl _ | apply Drawn0.step)⟩
                · rw [if_neg c8] at H
                  have c8b0 : ((rd l0 x13_1) == (rd l1 x13_1)) = false := beq_eq_false_iff_ne.mpr c8
                  have c8b1 : ((rd l0 x13_1) != (rd l1 x13_1)) = true := bne_iff_ne.mpr c8
                  obtain rfl := Option.some.inj H
                  have p130 : 0 ≤ (x13_1 : Int) := of_decide_eq_true (by first | (with_reducible assumption) | assumption)
                  have q130 : x13_1 < (l0.length : Int) := of_decide_eq_true (by first | (with_reducible assumption) | assumption)
                  obtain ⟨ad130, e130, hx130_0⟩ := Kd.at_int HR0.out x13_1 p130 q130
                  cases e130
                  replace p130 := eq_true p130
                  replace q130 := eq_true q130
                  have p131 : 0 ≤ (x13_1 : Int) := of_decide_eq_true (by first | (with_reducible assumption) | assumption)
                  have q131 : x13_1 < (l1.length : Int) := of_decide_eq_true (by first | (with_reducible assumption) | assumption)
                  obtain ⟨ad131, e131, hx131_0⟩ := Kd.at_int HR1.out x13_1 p131 q131
                  cases e131
                  replace p131 := eq_true p131
                  replace q131 := eq_true q131
                  go_wp2
                  repeat (go_quiet (fail); try go_wp2)
                  go_ret
                  exact ⟨by first | rfl | (simp; done) | (simp [*]; done), by repeat (first | exact Drawn0.refl _ | apply Drawn0.step)⟩
              · rw [if_neg c7] at H
                exact absurd H (by simp)
            · rw [if_neg c6] at H
              exact absurd H (by simp)
          · rw [if_neg c5] at H
            exact absurd H (by simp)
        · rw [if_neg c4] at H
          have c4b0 : decide (x13_1 < (l0.length : Int)) = false := decide_eq_false c4
          clear c4
          obtain rfl := Option.some.inj H
          go_wp2
          repeat (go_quiet (fail); try go_wp2)
          go_ret
          exact ⟨by first | rfl | (simp; done) | (simp [*]; done), by repeat (first | exact Drawn0.refl _ | apply Drawn0.step)⟩
  · rw [if_neg c3] at H
    have c3b0 : ((l0.length : Int) == (l1.length : Int)) = false := beq_eq_false_iff_ne.mpr c3
    have c3b1 : ((l0.length : Int) != (l1.length : Int)) = true := bne_iff_ne.mpr c3
    have c3b2 : (l0.length == l1.length) = false := by first | simpa using c3 | (simp at c3 ⊢; omega)
    obtain rfl := Option.some.inj H
    go_enter Try.func49, Try.ntmps49
    go_wp2
    repeat (go_quiet (fail); try go_wp2)
    go_ret
    exact ⟨by first | rfl | (simp; done) | (simp [*]; done), by repeat (first | exact Drawn0.refl _ | apply Drawn0.step)⟩

end Go.Proofs.Ytjkimfjhfncldaa.Q
end

section
-- written by hprint.py (a program of these sessions) out of the translation; Lean checks it
namespace Go.Proofs.Ytjkimfjhfncldaa.Q
open Go.RowKit Go.Proofs.YtjkimfjhfncldaaW.Hb Go.Proofs.YtjkimfjhfncldaaW.PrintWords Go.Proofs.YtjkimfjhfncldaaW.PrintLast Go.Proofs.YtjkimfjhfncldaaW.PrintMore
attribute [local go_sem] max2_int min2_int max_two min_two max_three min_three max_four min_four   -- for this text's walks alone
set_option linter.unusedVariables false
set_option linter.unusedSimpArgs false

/-! ### wire_Frames: function 20, by hand -/
theorem cut_ex {P : Program} (t e : TypeId) {i : TypeInfo} (ht : P.underlying t = some (.slice e)) (hi : P.info? e = some i) (hsz : i.size = 1) (A : Option Addr) (c : Nat) (xs : List Int) (lo hi' : Int) (h0 : 0 ≤ lo) (h1 : lo ≤ hi') (h2 : hi' ≤ xs.length) (hc : xs.length ≤ c) (ys : List Int) (hys : ys = (xs.take hi'.toNat).drop lo.toNat) :
    ∃ A' c', (∀ W : World, (Instr.slice t (.slice A xs.length c) (some (.int .i64 lo)) (some (.int .i64 hi')) none).run P W = .ok (.slice A' ys.length c') W) ∧ ys.length ≤ c' ∧ ∀ (w : World) (k : IntKind), (Kd.int k).C w A xs.length xs → (Kd.int k).C w A' ys.length ys := by
  subst hys
  have hl : ((xs.take hi'.toNat).drop lo.toNat).length = hi'.toNat - lo.toNat := by simp; omega
  refine ⟨(if c = lo.toNat then A else A.map (·.add (lo.toNat * 1))), c - lo.toNat, fun W => ?_, by rw [hl]; omega, fun w k h => ?_⟩
  · rw [hl]
    exact cut_mid t e .i64 .i64 ht hi 1 hsz A xs.length c lo hi' h0 h1 h2 hc W
  · exact Kd.C_mid h (by omega) (by omega) hc
theorem cut_ex_from {P : Program} (t e : TypeId) {i : TypeInfo} (ht : P.underlying t = some (.slice e)) (hi : P.info? e = some i) (hsz : i.size = 1) (A : Option Addr) (c : Nat) (xs : List Int) (lo : Int) (h0 : 0 ≤ lo) (h1 : lo ≤ xs.length) (hc : xs.length ≤ c) (ys : List Int) (hys : ys = xs.drop lo.toNat) :
    ∃ A' c', (∀ W : World, (Instr.slice t (.slice A xs.length c) (some (.int .i64 lo)) none none).run P W = .ok (.slice A' ys.length c') W) ∧ ys.length ≤ c' ∧ ∀ (w : World) (k : IntKind), (Kd.int k).C w A xs.length xs → (Kd.int k).C w A' ys.length ys := by
  subst hys
  have hl : (xs.drop lo.toNat).length = xs.length - lo.toNat := by simp
  refine ⟨(if c = lo.toNat then A else A.map (·.add (lo.toNat * 1))), c - lo.toNat, fun W => ?_, by rw [hl]; omega, fun w k h => ?_⟩
  · rw [hl]
    exact cut_from t e .i64 ht hi 1 hsz A xs.length c lo h0 h1 W
  · exact Kd.C_drop h (by omega) hc
theorem cut_ex_to {P : Program} (t e : TypeId) {i : TypeInfo} (ht : P.underlying t = some (.slice e)) (hi : P.info? e = some i) (A : Option Addr) (c : Nat) (xs : List Int) (hi' : Int) (h0 : 0 ≤ hi') (h1 : hi' ≤ xs.length) (hc : xs.length ≤ c) (ys : List Int) (hys : ys = xs.take hi'.toNat) :
    (∀ W : World, (Instr.slice t (.slice A xs.length c) none (some (.int .i64 hi')) none).run P W = .ok (.slice A ys.length c) W) ∧ ys.length ≤ c ∧ ∀ (w : World) (k : IntKind), (Kd.int k).C w A xs.length xs → (Kd.int k).C w A ys.length ys := by
  subst hys
  have hl : (xs.take hi'.toNat).length = hi'.toNat := by simp; omega
  refine ⟨fun W => ?_, by rw [hl]; omega, fun w k h => Kd.C_take h (by omega)⟩
  rw [hl]
  exact cut_to t e .i64 ht hi A xs.length c hi' h0 h1 hc W
def wire_Frames.l0 : Nat → List Int → List (List Int) → Nat → Option (List (List Int) × Int)
  | 0, _, _, _ => none
  | k + 1, b, l, e => if b.length < e then none else if (b.drop e).length < 8 then some (l, (e : Int)) else (wire_number.f k ((b.drop e).take 4)).bind fun m => if 1048576 < wrap64 m then some (l, (e : Int)) else if ((b.drop e).length : Int) - 8 < wrap64 m then some (l, (e : Int)) else if wrap64 m < 0 then none else (wire_Sum.f k ((b.drop e).take 4 ++ (((b.drop e).take (8 + wrap64 m).toNat).drop 8))).bind fun c => (wire_little.f k c).bind fun lc => (slices_Equal_byte_byte.f k lc (((b.drop e).take 8).drop 4)).bind fun q => if q = true then (if (l.length + 1) * 24 ≤ 140737488355328 then wire_Frames.l0 k b (l ++ [((b.drop e).take (8 + wrap64 m).toNat).drop 8]) (e + 8 + (wrap64 m).toNat) else none) else some (l, (e : Int))
def wire_Frames.f (k : Nat) (b : List Int) : Option (List (List Int) × Int) := wire_Frames.l0 k b [] 0
theorem wire_Frames.mono_l : ∀ k b l e, LeO (wire_Frames.l0 k b l e) (wire_Frames.l0 (k + 1) b l e)
  | 0, _, _, _ => fun r h => by simp [wire_Frames.l0] at h
  | k + 1, b, l, e => by
    have ih := wire_Frames.mono_l k
    rw [wire_Frames.l0, wire_Frames.l0]
    exact LeO.ite (LeO.none _) (LeO.ite (LeO.refl _) (LeO.bind (wire_number.mono _ _) (fun _ => LeO.ite (LeO.refl _) (LeO.ite (LeO.refl _) (LeO.ite (LeO.none _) (LeO.bind (wire_Sum.mono _ _) (fun _ => LeO.bind (wire_little.mono _ _) (fun _ => LeO.bind (slices_Equal_byte_byte.mono _ _ _) (fun _ => LeO.ite (LeO.ite (ih _ _ _) (LeO.none _)) (LeO.refl _))))))))))
theorem wire_Frames.mono : ∀ a0 k, LeO (wire_Frames.f k a0) (wire_Frames.f (k + 1) a0) := fun a0 k => wire_Frames.mono_l k a0 [] 0
set_option maxRecDepth 100000 in
set_option maxHeartbeats 2000000 in
theorem wire_Frames.calls (k : Nat) (A0 : Option Addr) (c0 : Nat) (l0 : List Int) (r1 : List (List Int)) (r2 : Int) (w : World) (hr0 : Kd.C (Kd.int .u8) w A0 l0.length l0) (hc0 : l0.length ≤ c0) (h : wire_Frames.f k l0 = some (r1, r2)) :
    Calls Try.prog 20 #[.slice A0 l0.length c0] w fun e w' => ∃ v0_ : Value, e = .returned (.tuple #[v0_, .int .i64 r2]) ∧ Kd.S (Kd.slice 5 (Kd.int .u8)) 22 w' w.heap.size (fun _ => True) v0_ r1 ∧ Below w.heap.size w w' := by
  have hm : l0.length ≤ 9223372036854775807 := hr0.2.1
  have HR := Aside0.mk hr0
  have H := Aside0.mk h
  clear hr0 h
  obtain ⟨ii, hii, his⟩ : ∃ ii, Try.prog.info? 5 = some ii ∧ ii.size = 1 := by
    obtain ⟨ii, h1, h2⟩ := Option.map_eq_some_iff.1 info5
    exact ⟨ii, h1, congrArg (fun p => p.2.1) h2⟩
  go_enter Try.func20, Try.ntmps20
  go_wp2
  go_loopg [2, 3] k (fun kq v2 v3 wr => ∃ (l : List (List Int)) (e : Nat), v3 = .int .i64 e ∧ Aside0 (wire_Frames.l0 kq l0 l e = some (r1, r2)) ∧ Aside0 (kq ≤ k) ∧ Aside0 (Kd.S (Kd.slice 5 (Kd.int .u8)) 22 wr w.heap.size (fun _ => True) v2 l) ∧ Aside0 (Below w.heap.size w wr))
  case atStart => exact ⟨[], 0, rfl, H, ⟨Nat.le_refl _⟩, ⟨Kd.S_nil _ _ _ _ _⟩, ⟨Below.refl _ _⟩⟩
  case round =>
    clear H
    obtain ⟨l, e, rfl, HA, HK, HO, HB⟩ := hrel
    cases gk with
    | zero => exact absurd HA.out (by simp [wire_Frames.l0])
    | succ k1 =>
      have H := HA.out
      clear HA
      rw [wire_Frames.l0] at H
      by_cases hlt : l0.length < e
      · rw [if_pos hlt] at H
        cases H
      rw [if_neg hlt] at H
      have he : e ≤ l0.length := by omega
      clear hlt
      obtain ⟨b, hb⟩ : ∃ b, b = l0.drop e := ⟨_, rfl⟩
      rw [← hb] at H
      obtain ⟨A1, c1, hq1, hc1, hC1⟩ := cut_ex_from (P := Try.prog) 22 5 Try.underlying22 hii his A0 c0 l0 (e : Int) (by omega) (by omega) hc0 b (by rw [hb]; rfl)
      have hbl : b.length = l0.length - e := by rw [hb]; simp
      have HC1 := Aside0.mk (hC1 w .u8 HR.out)
      have HBL := Aside0.mk hbl
      clear hC1 hb hbl
      by_cases h8 : b.length < 8
      · rw [if_pos h8] at H
        cases H
        have h8b : decide ((b.length : Int) < 8) = true := decide_eq_true (by omega)
        go_wp2
        go_ret2
        exact ⟨_, rfl, HO.out, HB.out⟩
      · rw [if_neg h8] at H
        have h8' : 8 ≤ b.length := by omega
        clear h8
        have h8b : decide ((b.length : Int) < 8) = false := decide_eq_false (by omega)
        have hbm : b.length ≤ 9223372036854775807 := by have := HBL.out; omega
        obtain ⟨m, hn, H⟩ := Option.bind_eq_some_iff.1 H
        have HN := Aside0.mk hn
        clear hn
        obtain ⟨q, hq⟩ : ∃ q, q = b.take 4 := ⟨_, rfl⟩
        rw [← hq] at H HN
        obtain ⟨hq2, hc2, hC2⟩ := cut_ex_to (P := Try.prog) 22 5 Try.underlying22 hii A1 c1 b 4 (by omega) (by omega) hc1 q hq
        have HC2 := Aside0.mk (hC2 w .u8 HC1.out)
        have HQ := Aside0.mk hq
        have hql : q.length ≤ 4 := by rw [hq]; simp; omega
        clear hC2 hq
        have H' := Aside0.mk H
        clear H
        go_upto_region 5 with (go_at_call 47; (with_reducible refine (wire_number.calls k1 A1 c1 q m _ (Kd.C_below HC2.out HB.out) hc2 HN.out).mono ?_); rintro e1 w1 ⟨rfl, hd1⟩; have HD1 := Aside0.mk hd1.below; clear hd1)
        have HB1 := Aside0.mk (HB.out.trans (HD1.out.mono HB.out.size))
        have HO1 := Aside0.mk (Kd.S_below HO.out HD1.out)
        have H := H'.out
        clear H'
        by_cases h1 : 1048576 < wrap64 m
        · rw [if_pos h1] at H
          cases H
          have h1b : decide (1048576 < wrap64 m) = true := decide_eq_true h1
          clear h1
          go_wp2
          go_ret2
          exact ⟨_, rfl, HO1.out, HB1.out⟩
        rw [if_neg h1] at H
        have h1b : decide (1048576 < wrap64 m) = false := decide_eq_false h1
        by_cases h2 : (b.length : Int) - 8 < wrap64 m
        · rw [if_pos h2] at H
          cases H
          have h2b : decide ((b.length : Int) - 8 < wrap64 m) = true := decide_eq_true h2
          clear h1 h2
          go_wp2
          go_ret2
          exact ⟨_, rfl, HO1.out, HB1.out⟩
        rw [if_neg h2] at H
        by_cases h3 : wrap64 m < 0
        · rw [if_pos h3] at H
          cases H
        rw [if_neg h3] at H
        have h2b : decide ((b.length : Int) - 8 < wrap64 m) = false := decide_eq_false h2
        obtain ⟨n, hn⟩ : ∃ n : Nat, wrap64 m = (n : Int) := Int.eq_ofNat_of_zero_le (by omega)
        rw [hn] at H h1 h2 h3
        have hn1 : n ≤ 1048576 := by omega
        have hn2 : 8 + n ≤ b.length := by omega
        clear h1 h2 h3
        obtain ⟨x, hx⟩ : ∃ x, x = (b.take (8 + (n : Int)).toNat).drop 8 := ⟨_, rfl⟩
        rw [← hx] at H
        obtain ⟨c, hs, H⟩ := Option.bind_eq_some_iff.1 H
        obtain ⟨lc, hlc, H⟩ := Option.bind_eq_some_iff.1 H
        obtain ⟨y, hy⟩ : ∃ y, y = (b.take 8).drop 4 := ⟨_, rfl⟩
        rw [← hy] at H
        obtain ⟨qq, hqq, H⟩ := Option.bind_eq_some_iff.1 H
        have HS := Aside0.mk hs
        have HLC := Aside0.mk hlc
        have HQQ := Aside0.mk hqq
        have H' := Aside0.mk H
        clear H hs hlc hqq
        obtain ⟨A3, c3, hq3, hc3, hC3⟩ := cut_ex (P := Try.prog) 22 5 Try.underlying22 hii his A1 c1 b 8 (8 + (n : Int)) (by omega) (by omega) (by omega) hc1 x hx
        obtain ⟨A4, c4, hq4, hc4, hC4⟩ := cut_ex (P := Try.prog) 22 5 Try.underlying22 hii his A1 c1 b 4 8 (by omega) (by omega) (by omega) hc1 y hy
        have HC3 := Aside0.mk (hC3 w .u8 HC1.out)
        have HC4 := Aside0.mk (hC4 w .u8 HC1.out)
        have hxl : x.length * 1 ≤ 140737488355328 := by rw [hx]; simp; omega
        have HXL := Aside0.mk (show x.length ≤ 1048576 by rw [hx]; simp; omega)
        have HX := Aside0.mk hx
        have HY := Aside0.mk hy
        have HN1 := Aside0.mk hn
        clear hC3 hC4 hx hy
        go_upto_region 8 with (go_at_call 48; (with_reducible refine (slices_Clone_byte_byte.walk A3 x.length c3 x _ rfl (Kd.C_below HC3.out HB1.out) hc3 hxl).mono ?_); rintro e2 w2 ⟨v6, rfl, hR6, hB6⟩; obtain ⟨A6, c6, rfl, hc6, hC6⟩ := Kd.R_reads hR6; have HR6 := Aside0.mk (Kd.R_mono (Kd.R_bound hR6) (fun k hk => hk.2.1)); have HC6 := Aside0.mk hC6; have HB6 := Aside0.mk hB6; clear hR6 hC6 hB6)
        have HL2 := Aside0.mk (C_lit_two (Kd.int .u8) w2 w2.heap.size rfl 5 22 A1 A6 q.length x.length c1 c6 q x rfl rfl (Kd.C_below HC2.out (HB1.out.trans (HB6.out.mono HB1.out.size))) HC6.out hc2 hc6)
        obtain ⟨L, hL⟩ : ∃ L, L = q ++ x := ⟨_, rfl⟩
        rw [show (wire_Sum.f k1 (q ++ x)) = (wire_Sum.f k1 L) by rw [hL]] at HS
        have HFL := Aside0.mk (show ([q, x] : List (List Int)).flatten = L by rw [hL]; simp)
        have hsum : ([q, x] : List (List Int)).flatten.length * 1 ≤ 140737488355328 := by have := HXL.out; simp; omega
        clear hL
        have HB12 := Aside0.mk (HB1.out.trans (HB6.out.mono HB1.out.size))
        have hend : e + 8 + n ≤ 9223372036854775807 := by have := HBL.out; omega
        cases qq
        all_goals go_region_with (first | (go_at_call 44; (with_reducible refine (slices_Concat_byte_byte.walk (some ⟨w2.heap.size, 0, none⟩) 2 2 [q, x] _ rfl (Kd.C_below HL2.out ((Below.refl _ _).drew)) (Nat.le_refl 2) hsum).mono ?_); rintro e3 w3 ⟨v3, rfl, hR3, hB3⟩; rw [HFL.out] at hR3; obtain ⟨A7, c7, rfl, hc7, hC7⟩ := Kd.R_reads hR3; have HC7 := Aside0.mk hC7; have HB7 := Aside0.mk (((Below.refl w2.heap.size w2).alloc (Nat.le_refl _) _).drew.trans (hB3.mono (by simp))); clear hR3 hC7 hB3) | (go_at_call 15; (with_reducible refine (wire_Sum.calls k1 A7 c7 L c _ HC7.out hc7 HS.out).mono ?_); rintro e4 w4 ⟨rfl, hd4⟩; have HB8 := Aside0.mk (HB7.out.trans (hd4.below.mono HB7.out.size)); clear hd4) | (go_at_call 45; (with_reducible refine (wire_little.calls k1 c lc _ HLC.out).mono ?_); rintro e5 w5 ⟨v5, rfl, hR5, hB5⟩; obtain ⟨A9, c9, rfl, hc9, hC9⟩ := Kd.R_reads hR5; have HC9 := Aside0.mk hC9; have HB9 := Aside0.mk (HB8.out.trans (hB5.mono HB8.out.size)); clear hR5 hC9 hB5) | (go_at_call 49; (with_reducible refine (slices_Equal_byte_byte.calls k1 A9 c9 lc A4 c4 y _ _ HC9.out hc9 (Kd.C_below HC4.out (HB12.out.trans (HB9.out.mono HB12.out.size))) hc4 HQQ.out).mono ?_); rintro e6 w6 ⟨rfl, hd6⟩; have HB10 := Aside0.mk (HB9.out.trans (hd6.below.mono HB9.out.size)); clear hd6))
        all_goals have HB26 := Aside0.mk (HB12.out.trans (HB10.out.mono HB12.out.size))
        all_goals have HO6 := Aside0.mk (Kd.S_below HO1.out (HB6.out.trans (HB10.out.mono HB6.out.size)))
        · have H := H'.out
          rw [if_neg (by decide)] at H
          cases H
          go_wp2
          go_ret2
          exact ⟨_, rfl, HO6.out, HB26.out⟩
        · have H := H'.out
          first | rw [if_pos trivial] at H | rw [if_pos rfl] at H
          by_cases hll : (l.length + 1) * 24 ≤ 140737488355328
          · rw [if_pos hll] at H
            have H1 := Aside0.mk H
            have HLL := Aside0.mk hll
            clear hll H H'
            have HM := Aside0.mk (show (Kd.slice 5 (Kd.int .u8)).M w6 w.heap.size (fun k => w1.heap.size ≤ k) x [.slice A6 x.length c6] from ⟨_, rfl, Kd.R_below (Kd.R_lower HR6.out HB1.out.size) HB10.out⟩)
            have HO6s := Aside0.mk (Kd.S_below (Kd.S_mono (ok' := fun k => True ∧ ¬ w1.heap.size ≤ k) (Kd.S_bound HO1.out) (fun k hk => ⟨trivial, by have := hk.2.2.1; omega⟩)) (HB6.out.trans (HB10.out.mono HB6.out.size)))
            have HNE := Aside0.mk (show ∀ k, w1.heap.size ≤ k → True ∧ some k ≠ u2.ownBlock from fun k hk => ⟨trivial, fun he => by have := Kd.S_lt HO1.out _ he.symm; omega⟩)
            go_wp2_with ((with_reducible refine gate_builtin (b := .append) (xs := #[.tmp 48, .tmp 50]) rfl ?_); at_builtin; refine Kd.S_append (Kd.slice 5 (Kd.int .u8)) (w0 := w) w.heap.size rfl (.tmp 48) (.tmp 50) 35 22 (.slice none 0 0) 24 rfl Try.underlying35 info22 rfl (by decide) (by omega) u2 l x [.slice A6 x.length c6] (fun _ => True) (fun k => w1.heap.size ≤ k) rfl rfl HM.out HNE.out (fun _ _ => trivial) HO6s.out HB26.out HB26.out.size HLL.out ?_; intro v7 w7 hR7 hB7 _ _; have HR7 := Aside0.mk hR7; have HB7' := Aside0.mk hB7; clear hR7 hB7)
            go_roundg k1
            case measure => have := HK.out; omega
            case rel => exact ⟨l ++ [x], e + 8 + n, by go_num, ⟨H1.out⟩, ⟨by have := HK.out; omega⟩, HR7, HB7'⟩
          · rw [if_neg hll] at H
            cases H



end Go.Proofs.Ytjkimfjhfncldaa.Q
end

section
-- written by hprint.py (a program of these sessions) out of the translation; Lean checks it
namespace Go.Proofs.Ytjkimfjhfncldaa.Q
open Go.RowKit Go.Proofs.YtjkimfjhfncldaaW.Hb Go.Proofs.YtjkimfjhfncldaaW.PrintWords Go.Proofs.YtjkimfjhfncldaaW.PrintLast Go.Proofs.YtjkimfjhfncldaaW.PrintMore
attribute [local go_sem] max2_int min2_int max_two min_two max_three min_three max_four min_four   -- for this text's walks alone
set_option linter.unusedVariables false
set_option linter.unusedSimpArgs false

/-! ### wire_Writer_Bytes: function 29, by hand -/
set_option maxRecDepth 100000 in
set_option maxHeartbeats 1000000 in
theorem wire_Writer_Bytes.calls (S : Nat → Prop) (g : Nat) (l : List Int) (w : World) (hW : Wr w S g l) (hl : l.length ≤ 1048576) :
    Calls Try.prog 29 #[.pointer (some ⟨g, 0, none⟩)] w (OwnRes (Kd.int .u8) 5 w l) := by
  obtain ⟨v, hb, hS, hR⟩ := hW
  obtain ⟨Av, cv, rfl, hcv, hC⟩ := Kd.R_reads hR
  have HB := Aside0.mk hb
  have h0 : w.cell? ⟨g, 0, none⟩ = some (.slice Av l.length cv) := hb.cell 0
  have HC := Aside0.mk (slices_Clone_byte_byte.walk Av l.length cv l w rfl hC hcv (by omega))
  clear hb hR hC
  go_enter Try.func29, Try.ntmps29
  go_wp2_with (first | (go_at_call 51; (with_reducible refine (wire_Writer_none.calls g _ true _ HB.out).mono ?_); rintro e2 w2 ⟨rfl, hw2⟩; subst w2) | (go_at_call 48; (with_reducible refine HC.out.mono ?_); rintro e2 w2 ⟨v2, rfl, hR2, hB2⟩; have HR2 := Aside0.mk hR2; have HB2 := Aside0.mk hB2; clear hR2 hB2))
  go_ret
  exact ⟨_, rfl, HR2.out, HB2.out⟩


end Go.Proofs.Ytjkimfjhfncldaa.Q
end

section
-- written by hprint.py (a program of these sessions) out of the translation; Lean checks it
namespace Go.Proofs.Ytjkimfjhfncldaa.Q
open Go.RowKit Go.Proofs.YtjkimfjhfncldaaW.Hb Go.Proofs.YtjkimfjhfncldaaW.PrintWords Go.Proofs.YtjkimfjhfncldaaW.PrintLast Go.Proofs.YtjkimfjhfncldaaW.PrintMore
attribute [local go_sem] max2_int min2_int max_two min_two max_three min_three max_four min_four   -- for this text's walks alone
set_option linter.unusedVariables false
set_option linter.unusedSimpArgs false

/-! ### wire_Frame: function 13, by hand -/
def wire_Frame.f (k : Nat) (l0 : List Int) : Option (List Int × Int) := if 1048576 < (l0.length : Int) then some ([], 6) else (wire_Sum.f k (bigL (l0.length : Int) 4 ++ l0)).bind fun c => (wire_little.f k c).bind fun lc => if lc.length ≤ 8 then some (bigL (l0.length : Int) 4 ++ (lc ++ l0), 0) else none
theorem wire_Frame.mono : ∀ a0 k, LeO (wire_Frame.f k a0) (wire_Frame.f (k + 1) a0) := by
  intro a0 k
  unfold wire_Frame.f
  exact LeO.ite (LeO.refl _) (LeO.bind (wire_Sum.mono _ _) (fun _ => LeO.bind (wire_little.mono _ _) (fun _ => LeO.refl _)))
theorem Reps_three {α : Type} {R : α → List Value → Prop} {size : Nat} {p q r : α} {c e f : List Value} (h : R p c) (hc : c.length = size) (h' : R q e) (he : e.length = size) (h'' : R r f) (hf : f.length = size) : Reps R size [p, q, r] (c ++ e ++ f) := by
  have := Reps.snoc (Reps_two h hc h' he) h'' hf
  simpa using this
theorem C_lit_three {α : Type} (d : Kd α) (W : World) (e t : TypeId) (A1 A2 A3 : Option Addr) (n1 n2 n3 c1 c2 c3 : Nat) (x1 x2 x3 : List α) (hn1 : x1.length = n1) (hn2 : x2.length = n2) (hn3 : x3.length = n3) (h1 : d.C W A1 x1.length x1) (h2 : d.C W A2 x2.length x2) (h3 : d.C W A3 x3.length x3) (hc1 : n1 ≤ c1) (hc2 : n2 ≤ c2) (hc3 : n3 ≤ c3) :
    (Kd.slice e d).C (W.alloc (.cells #[.slice A1 n1 c1, .slice A2 n2 c2, .slice A3 n3 c3] t)) (some ⟨W.heap.size, 0, none⟩) [x1, x2, x3].length [x1, x2, x3] := by
  subst hn1 hn2 hn3
  refine C_of_reps (d := Kd.slice e d) (Blk.new W t _) [x1, x2, x3] (Reps_three (c := [.slice A1 x1.length c1]) (e := [.slice A2 x2.length c2]) (f := [.slice A3 x3.length c3]) ⟨A1, c1, rfl, hc1, Kd.C_alloc h1 _⟩ rfl ⟨A2, c2, rfl, hc2, Kd.C_alloc h2 _⟩ rfl ⟨A3, c3, rfl, hc3, Kd.C_alloc h3 _⟩ rfl) (by simp)
theorem bigL_len (n : Int) (m : Nat) : (bigL n m).length = m := by simp [bigL]
set_option maxRecDepth 100000 in
set_option maxHeartbeats 1000000 in
theorem wire_Frame.calls (k : Nat) (A0 : Option Addr) (c0 : Nat) (l0 : List Int) (r1 : List Int) (r2 : Int) (w : World) (hr0 : Kd.C (Kd.int .u8) w A0 l0.length l0) (hc0 : l0.length ≤ c0) (h : wire_Frame.f k l0 = some (r1, r2)) :
    Calls Try.prog 13 #[.slice A0 l0.length c0] w fun e w' => ∃ v0_ : Value, e = .returned (.tuple #[v0_, .int .i64 r2]) ∧ Kd.R (Kd.int .u8) 5 w' w.heap.size (fun _ => True) v0_ r1 ∧ Below w.heap.size w w' := by
  have hm : l0.length ≤ 9223372036854775807 := hr0.2.1
  have HR := Aside0.mk hr0
  clear hr0
  unfold wire_Frame.f at h
  by_cases h1 : 1048576 < (l0.length : Int)
  · rw [if_pos h1] at h
    cases h
    go_enter Try.func13, Try.ntmps13
    go_wp2
    go_ret2
    exact ⟨_, rfl, Kd.R_nil _ _ _ _ _, Below.refl _ _⟩
  · rw [if_neg h1] at h
    obtain ⟨c, hs, h⟩ := Option.bind_eq_some_iff.1 h
    obtain ⟨lc, hl, h⟩ := Option.bind_eq_some_iff.1 h
    have hlc : lc.length ≤ 8 := by
      split at h
      · assumption
      · cases h
    rw [if_pos hlc] at h
    cases h
    have HSM := Aside0.mk hs
    have HLT := Aside0.mk hl
    have h2 : (l0.length : Int) ≤ u64top := by unfold u64top; omega
    have HBG := Aside0.mk (wire_big.walkI (l0.length : Int) 4 4 rfl w (by omega) (by omega) h2)
    clear hs hl h2
    obtain ⟨sz, hsz⟩ : ∃ sz, sz = bigL (l0.length : Int) 4 := ⟨_, rfl⟩
    have hsl : sz.length = 4 := by rw [hsz, bigL_len]
    rw [← hsz]
    rw [← hsz] at HBG HSM
    clear hsz
    have hsl' : sz.length ≤ 4 := by omega
    have HSL := Aside0.mk hsl
    clear hsl
    go_enter Try.func13, Try.ntmps13
    go_wp2_with (first | (go_at_call 43; (with_reducible refine HBG.out.mono ?_); rintro e w1 ⟨v1, rfl, hR1, hB1⟩; obtain ⟨A1, c1, rfl, hc1, hC1⟩ := Kd.R_reads hR1; have HR1 := Aside0.mk hR1; have HC1 := Aside0.mk hC1; have HB1 := Aside0.mk hB1; clear hR1 hC1 hB1))
    have HL2 := Aside0.mk (C_lit_two (Kd.int .u8) w1 w1.heap.size rfl 5 22 A1 A0 sz.length l0.length c1 c0 sz l0 rfl rfl HC1.out (Kd.C_below HR.out HB1.out) hc1 hc0)
    refine (slices_Concat_byte_byte.walk (some ⟨w1.heap.size, 0, none⟩) 2 2 [sz, l0] (w1.alloc (.cells #[.slice A1 sz.length c1, .slice A0 l0.length c0] 22)) rfl HL2.out (Nat.le_refl 2) (by simp; omega)).mono ?_
    rintro e w2 ⟨v2, rfl, hR2, hB2⟩
    have e2 : ([sz, l0] : List (List Int)).flatten = sz ++ l0 := by simp
    obtain ⟨L, hL⟩ : ∃ L, L = sz ++ l0 := ⟨_, rfl⟩
    rw [e2, ← hL] at hR2
    rw [← hL] at HSM
    clear e2 hL
    obtain ⟨A2, c2, rfl, hc2, hC2⟩ := Kd.R_reads hR2
    have HC2 := Aside0.mk hC2
    have HB2 := Aside0.mk (HB1.out.trans (((Below.refl w1.heap.size w1).alloc (Nat.le_refl _) _).trans (hB2.mono (by simp)) |>.mono HB1.out.size))
    have HK2 := Aside0.mk (((Below.refl w1.heap.size w1).alloc (Nat.le_refl _) _).trans (hB2.mono (by simp)))
    clear hR2 hC2 hB2 HL2
    go_wp2_with (go_at_call 15; (with_reducible refine (wire_Sum.calls k A2 c2 L c _ HC2.out hc2 HSM.out).mono ?_); rintro e w3 ⟨rfl, hd3⟩; have HB3 := Aside0.mk hd3.below; clear hd3)
    refine (wire_little.calls k c lc w3 HLT.out).mono ?_
    rintro e w4 ⟨v4, rfl, hR4, hB4⟩
    obtain ⟨A4, c4, rfl, hc4, hC4⟩ := Kd.R_reads hR4
    have HC4 := Aside0.mk hC4
    have HB4 := Aside0.mk hB4
    clear hR4 hC4 hB4
    go_wp2_with (fail)
    have HK4 := Aside0.mk ((HK2.out.trans (HB3.out.mono HK2.out.size)).trans (HB4.out.mono (Nat.le_trans HK2.out.size HB3.out.size)))
    have HL3 := Aside0.mk (C_lit_three (Kd.int .u8) w4 5 22 A1 A4 A0 sz.length lc.length l0.length c1 c4 c0 sz lc l0 rfl rfl rfl (Kd.C_below HC1.out HK4.out) HC4.out (Kd.C_below HR.out (HB1.out.trans (HK4.out.mono HB1.out.size))) hc1 hc4 hc0)
    refine (slices_Concat_byte_byte.walk (some ⟨w4.heap.size, 0, none⟩) 3 3 [sz, lc, l0] (w4.alloc (.cells #[.slice A1 sz.length c1, .slice A4 lc.length c4, .slice A0 l0.length c0] 22)) rfl HL3.out (Nat.le_refl 3) (by simp; omega)).mono ?_
    rintro e w5 ⟨v5, rfl, hR5, hB5⟩
    have e5 : ([sz, lc, l0] : List (List Int)).flatten = sz ++ (lc ++ l0) := by simp
    rw [e5] at hR5
    have hW4 := HB1.out.trans (HK4.out.mono HB1.out.size)
    have HR5 := Aside0.mk (Kd.R_lower hR5 (show w.heap.size ≤ _ by have := hW4.size; simp; omega))
    have HB5 := Aside0.mk ((hW4.alloc hW4.size _).trans (hB5.mono (by have := hW4.size; simp; omega)))
    clear hR5 hB5 e5 hW4 HL3
    go_wp2
    go_ret2
    exact ⟨_, rfl, HR5.out, HB5.out⟩



end Go.Proofs.Ytjkimfjhfncldaa.Q
end

section
-- written by hprint.py (a program of these sessions) out of the translation; Lean checks it
namespace Go.Proofs.Ytjkimfjhfncldaa.Q
open Go.RowKit Go.Proofs.YtjkimfjhfncldaaW.Hb Go.Proofs.YtjkimfjhfncldaaW.PrintWords Go.Proofs.YtjkimfjhfncldaaW.PrintLast Go.Proofs.YtjkimfjhfncldaaW.PrintMore
attribute [local go_sem] max2_int min2_int max_two min_two max_three min_three max_four min_four   -- for this text's walks alone
set_option linter.unusedVariables false
set_option linter.unusedSimpArgs false

/-! ### weighhouselaw01_num: function 17 -/
def weighhouselaw01_num.f (a0 : Int) : Option (Int) := some a0
set_option maxHeartbeats 8000000 in
set_option maxRecDepth 100000 in
theorem weighhouselaw01_num.calls (a0 : Int) (r : Int) (w : World) (h : weighhouselaw01_num.f a0 = some r) :
    Calls Try.prog 17 #[.int .i64 a0] w fun e w' => e = .returned (.int .i64 r) ∧ Drawn0 w w' := by
  have H : (some a0) = some r := h
  clear h
  obtain rfl := Option.some.inj H
  go_enter Try.func17, Try.ntmps17
  go_wp2
  go_ret
  exact ⟨by first | rfl | (simp; done) | (simp [*]; done), by repeat (first | exact Drawn0.refl _ | apply Drawn0.step)⟩

end Go.Proofs.Ytjkimfjhfncldaa.Q
end

section
-- written by hprint.py (a program of these sessions) out of the translation; Lean checks it
namespace Go.Proofs.Ytjkimfjhfncldaa.Q
open Go.RowKit Go.Proofs.YtjkimfjhfncldaaW.Hb Go.Proofs.YtjkimfjhfncldaaW.PrintWords Go.Proofs.YtjkimfjhfncldaaW.PrintLast Go.Proofs.YtjkimfjhfncldaaW.PrintMore
attribute [local go_sem] max2_int min2_int max_two min_two max_three min_three max_four min_four   -- for this text's walks alone
set_option linter.unusedVariables false
set_option linter.unusedSimpArgs false

/-! ### weighhouselaw01_knows: function 19, by hand -/
def weighhouselaw01_knows.f : Option Bool := some true
def knFr : List Int := [0, 0, 0, 0, 28, 223, 68, 33]
def knIn : List (List Int) := [[]]
theorem knFr_eq : wire_Frame.f 100 [] = some (knFr, 0) := by decide +kernel
theorem knIn_eq : wire_Frames.f 100 knFr = some (knIn, 8) := by decide +kernel
abbrev knS : ByteArray := { data := #[97, 98] }
def knB : List Int := (wtexts (wmore [] (ints8 [1])).1 [knS]).1
theorem knB_len : knB.length ≤ 1048576 := by decide +kernel
theorem kn1 : (wmore [] (ints8 [1])).2 = 0 := by decide +kernel
theorem kn2 : (wtexts (wmore [] (ints8 [1])).1 [knS]).2 = 0 := by decide +kernel
theorem kn3 : (wmore [] (ints8 [1])).1.length ≤ 1048576 := by decide +kernel
theorem kn4 : (textsB [knS]).length * 1 ≤ 140737488355328 := by decide +kernel
theorem kn5 : strOfNums knB = { data := #[0, 0, 0, 0, 0, 0, 0, 1, 0, 2, 97, 98] } := by decide +kernel
theorem knFrame (w : World) : Calls Try.prog 13 #[.slice none 0 0] w fun e w' => ∃ v0_ : Value, e = .returned (.tuple #[v0_, .int .i64 0]) ∧ Kd.R (Kd.int .u8) 5 w' w.heap.size (fun _ => True) v0_ knFr ∧ Below w.heap.size w w' :=
  wire_Frame.calls 100 none 0 [] knFr 0 w (Kd.C_nil _ _) (Nat.le_refl 0) knFr_eq
set_option maxRecDepth 100000 in
set_option maxHeartbeats 2000000 in
theorem weighhouselaw01_knows.calls (r : Bool) (w : World) (h : weighhouselaw01_knows.f = some r) : Calls Try.prog 19 #[] w fun e w' => e = .returned (.bool r) ∧ Below w.heap.size w w' := by
  obtain rfl : true = r := Option.some.inj h
  clear h
  have HI := Aside0.mk knIn_eq
  go_enter Try.func19, Try.ntmps19
  go_upto_region 2 with (go_at_call 22; (with_reducible refine (wire_NewWriter.calls w).mono ?_); rintro e w1 ⟨g, rfl, hW1, hg1, hB1⟩; have HW1 := Aside0.mk hW1; have HB1 := Aside0.mk hB1; clear hW1 hB1)
  have hx1 : (Kd.int .i64).C (w1.alloc (.cells #[.int .i64 1] 3)) (some ⟨w1.heap.size, 0, none⟩) [(1 : Int)].length [1] := C_lit_int w1 w1.heap.size rfl .i64 [1] #[.int .i64 1] rfl 3 (by decide)
  have HI1 := Aside0.mk (wire_Writer_Int.calls (fun k => k = g) g [] (some ⟨w1.heap.size, 0, none⟩) 1 1 [1] (w1.alloc (.cells #[.int .i64 1] 3)) rfl hx1 (Nat.le_refl 1) (by decide) (HW1.out.below ((Below.refl _ _).alloc (Nat.le_refl _) _)) (by decide))
  clear hx1
  go_upto_region 3 with (go_at_call 25; (with_reducible refine HI1.out.mono ?_); rintro e w2 ⟨rfl, hW2, hF2⟩; rw [kn1]; have HW2 := Aside0.mk hW2; have HF2 := Aside0.mk hF2; clear hW2 hF2)
  have HD2 := Aside0.mk (Fr.below (B := w.heap.size) ((Fr.of_below (((Below.refl _ _).alloc (Nat.le_refl _) (.cells #[.int .i64 1] 3)) : Below w1.heap.size w1 _) _).then_ HF2.out (fun _ h => .inl h)) HB1.out.size (fun k hk => by subst hk; exact hg1))
  have HE2 := Aside0.mk (HB1.out.trans HD2.out)
  have hx2 : Kd.string.C (w2.alloc (.cells #[.string knS] 9)) (some ⟨w2.heap.size, 0, none⟩) [knS].length [knS] := C_of_reps (d := Kd.string) (Blk.new w2 _ _) [knS] (Reps_one (c := [.string knS]) rfl rfl) (by decide)
  have HT1 := Aside0.mk (wire_Writer_Text.calls (SS (fun k => k = g) (w1.alloc (.cells #[.int .i64 1] 3)) w2) g (wmore [] (ints8 [1])).1 (some ⟨w2.heap.size, 0, none⟩) 1 1 [knS] (w2.alloc (.cells #[.string knS] 9)) rfl hx2 (Nat.le_refl 1) kn4 (by decide) (HW2.out.below ((Below.refl _ _).alloc (Nat.le_refl _) _)) kn3)
  clear hx2
  go_upto_region 4 with (go_at_call 27; (with_reducible refine HT1.out.mono ?_); rintro e w3 ⟨rfl, hW3, hF3⟩; rw [kn2]; have HW3 := Aside0.mk hW3; have HF3 := Aside0.mk hF3; clear hW3 hF3)
  have HD3 := Aside0.mk (Fr.below (B := w.heap.size) ((Fr.of_below (((Below.refl _ _).alloc (Nat.le_refl _) (.cells #[.string knS] 9)) : Below w2.heap.size w2 _) _).then_ HF3.out (fun _ h => .inl h)) HE2.out.size (fun k hk => by
    rcases hk with hk | hk
    · subst hk; exact hg1
    · have := HB1.out.size
      have := hk.1
      simp at this
      omega))
  have HE3 := Aside0.mk (HE2.out.trans HD3.out)
  have HFR := Aside0.mk (knFrame w3)
  have HK2 := Aside0.mk knIn_eq
  obtain ⟨fl, hfl⟩ : ∃ fl, fl = knFr := ⟨_, rfl⟩
  rw [← hfl] at HFR HK2
  clear hfl
  go_upto_region 5 with (go_at_call 13; (with_reducible refine HFR.out.mono ?_); rintro e w4 ⟨v4, rfl, hR4, hB4⟩; obtain ⟨A4, c4, rfl, hc4, hC4⟩ := Kd.R_reads hR4; have HC4 := Aside0.mk hC4; have HB4 := Aside0.mk hB4; clear hR4 hC4 hB4)
  have HW4 := Aside0.mk (show Wr w4 _ g knB from HW3.out.below HB4.out)
  have HE4 := Aside0.mk (HE3.out.trans (HB4.out.mono HE3.out.size))
  have HFM := Aside0.mk (wire_Frames.calls 100 A4 c4 fl knIn 8 w4 HC4.out hc4 HK2.out)
  go_upto_region 6 with (go_at_call 20; (with_reducible refine HFM.out.mono ?_); rintro e w5 ⟨v5, rfl, hR5, hB5⟩; obtain ⟨A5, c5, hv5, hc5, hC5⟩ := Kd.S_reads hR5; rw [show knIn.length = 1 from rfl] at hv5; subst hv5; have HB5 := Aside0.mk hB5; clear hR5 hB5 hC5 hc5)
  have HWX := Aside0.mk (HW4.out.below HB5.out)
  have HEX := Aside0.mk (HE4.out.trans (HB5.out.mono HE4.out.size))
  go_wp2_with (first | (go_at_call 17; (with_reducible refine (weighhouselaw01_num.calls 0 0 _ rfl).mono ?_); rintro e w6 ⟨rfl, hd⟩; have n0_ := Aside0.mk (HWX.out.below hd.below); have n1_ := Aside0.mk (HEX.out.trans (hd.below.mono HEX.out.size)); clear HWX HEX hd; have HWX := n0_; have HEX := n1_; clear n0_ n1_) | (go_at_call 29; (with_reducible refine (wire_Writer_Bytes.calls _ g knB _ HWX.out knB_len).mono ?_); rintro e w7 ⟨v7, rfl, hR7, hB7⟩; obtain ⟨A7, c7, rfl, hc7, hC7⟩ := Kd.R_reads hR7; have hcv := Kd.C_string (P := Try.prog) (src := 22) (dst := 9) (e := 5) (c := c7) Try.underlying22 Try.underlying5 Try.underlying9 hC7; rw [kn5] at hcv; have HEY := Aside0.mk (HEX.out.trans (hB7.mono HEX.out.size)); clear hR7 hB7 hC7 hc7))
  go_ret
  exact ⟨rfl, HEY.out⟩


end Go.Proofs.Ytjkimfjhfncldaa.Q
end

section
-- written by hprint.py (a program of these sessions) out of the translation; Lean checks it
namespace Go.Proofs.Ytjkimfjhfncldaa.Q
open Go.RowKit Go.Proofs.YtjkimfjhfncldaaW.Hb Go.Proofs.YtjkimfjhfncldaaW.PrintWords Go.Proofs.YtjkimfjhfncldaaW.PrintLast Go.Proofs.YtjkimfjhfncldaaW.PrintMore
attribute [local go_sem] max2_int min2_int max_two min_two max_three min_three max_four min_four   -- for this text's walks alone
set_option linter.unusedVariables false
set_option linter.unusedSimpArgs false

/-! ### weighhouseref01_Sum: function 16 -/
mutual
def weighhouseref01_Sum.l0 : Nat → List Int → Int → Int → Option (Int)
  | 0, _, _, _ => none
  | k + 1, x0, x3, x4 => if x4 < (x0.length : Int) then (weighhouseref01_Sum.l1 k x0 x3 x4 0) else (some (Go.bits .xor .u32 x3 4294967295))
def weighhouseref01_Sum.l1 : Nat → List Int → Int → Int → Int → Option (Int)
  | 0, _, _, _, _ => none
  | k + 1, x0, x3, x4, x5 => if x5 < 8 then (if 0 ≤ x4 then (if x4 < (x0.length : Int) then (if 0 ≤ (IntKind.u64.wrap (x5)) then (if (Go.bits .xor .u32 (Go.bits .and .u32 x3 1) (Go.bits .and .u32 (shr .u32 ((rd x0 x4) % 4294967296) (IntKind.u64.wrap (x5))) 1)) = 1 then (weighhouseref01_Sum.l1 k x0 (Go.bits .xor .u32 (x3 / 2) 3988292384) x4 (wrap64 (x5 + 1))) else (weighhouseref01_Sum.l1 k x0 (x3 / 2) x4 (wrap64 (x5 + 1)))) else (none)) else (none)) else (none)) else (weighhouseref01_Sum.l0 k x0 x3 (wrap64 (x4 + 1)))
end
def weighhouseref01_Sum.f (k : Nat) (l0 : List Int) : Option (Int) := weighhouseref01_Sum.l0 k l0 4294967295 0
theorem weighhouseref01_Sum.mono_l : ∀ k, (∀ y0 y1 y2, LeO (weighhouseref01_Sum.l0 k y0 y1 y2) (weighhouseref01_Sum.l0 (k + 1) y0 y1 y2)) ∧ (∀ y0 y1 y2 y3, LeO (weighhouseref01_Sum.l1 k y0 y1 y2 y3) (weighhouseref01_Sum.l1 (k + 1) y0 y1 y2 y3))
  | 0 => ⟨fun _ _ _ r h => by simp [weighhouseref01_Sum.l0] at h, fun _ _ _ _ r h => by simp [weighhouseref01_Sum.l1] at h⟩
  | k + 1 => by
    obtain ⟨ih0, ih1⟩ := weighhouseref01_Sum.mono_l k
    refine ⟨?_, ?_⟩
    · intro y0 y1 y2
      unfold weighhouseref01_Sum.l0
      repeat' first
      | (with_reducible exact ih0 _ _ _)
      | (with_reducible exact ih1 _ _ _ _)
      | (with_reducible exact LeO.refl _)
      | (with_reducible exact LeO.none _)
      | (with_reducible refine LeO.ite ?_ ?_)
      | (with_reducible refine LeO.bind ?_ (fun _ => ?_))
      | exact ih0 _ _ _
      | exact ih1 _ _ _ _
      | exact LeO.none _
      | refine LeO.ite ?_ ?_
      | refine LeO.bind ?_ (fun _ => ?_)
    · intro y0 y1 y2 y3
      unfold weighhouseref01_Sum.l1
      repeat' first
      | (with_reducible exact ih0 _ _ _)
      | (with_reducible exact ih1 _ _ _ _)
      | (with_reducible exact LeO.refl _)
      | (with_reducible exact LeO.none _)
      | (with_reducible refine LeO.ite ?_ ?_)
      | (with_reducible refine LeO.bind ?_ (fun _ => ?_))
      | exact ih0 _ _ _
      | exact ih1 _ _ _ _
      | exact LeO.none _
      | refine LeO.ite ?_ ?_
      | refine LeO.bind ?_ (fun _ => ?_)
theorem weighhouseref01_Sum.mono : ∀ a0 k, LeO (weighhouseref01_Sum.f k a0) (weighhouseref01_Sum.f (k + 1) a0) := by
  intro a0 k
  obtain ⟨ih0, ih1⟩ := weighhouseref01_Sum.mono_l k
  unfold weighhouseref01_Sum.f
  repeat' first
      | (with_reducible exact ih0 _ _ _)
      | (with_reducible exact ih1 _ _ _ _)
      | (with_reducible exact LeO.refl _)
      | (with_reducible exact LeO.none _)
      | (with_reducible refine LeO.ite ?_ ?_)
      | (with_reducible refine LeO.bind ?_ (fun _ => ?_))
      | exact ih0 _ _ _
      | exact ih1 _ _ _ _
      | exact LeO.none _
      | refine LeO.ite ?_ ?_
      | refine LeO.bind ?_ (fun _ => ?_)
set_option maxHeartbeats 8000000 in
set_option maxRecDepth 100000 in
theorem weighhouseref01_Sum.calls (k : Nat) (A0 : Option Addr) (c0 : Nat) (l0 : List Int) (r : Int) (w : World) (hr0 : Kd.C (Kd.int .u8) w A0 l0.length l0) (hc0 : l0.length ≤ c0) (h : weighhouseref01_Sum.f k l0 = some r) :
    Calls Try.prog 16 #[.slice A0 l0.length c0] w fun e w' => e = .returned (.int .u32 r) ∧ Drawn0 w w' := by
  have HR0 := Aside0.mk hr0
  have HC0 := Aside0.mk hc0
  clear hr0 hc0
  have H : (weighhouseref01_Sum.l0 k l0 4294967295 0) = some r := h
  clear h
  have H' := Aside0.mk H
  clear H
  go_enter Try.func16, Try.ntmps16
  go_wp2
  go_loopg [3, 4] k (fun kq v3 v4 w' => ∃ (x3_1 : Int) (x4_1 : Int), v3 = .int .u32 x3_1 ∧ v4 = .int .i64 x4_1 ∧ Aside0 (weighhouseref01_Sum.l0 kq l0 x3_1 x4_1 = some r) ∧ Aside0 (kq ≤ k) ∧ Drawn0 w w')
  case atStart => exact ⟨(4294967295), (0), (by first | rfl | (simp; done) | (simp [*]; done)), (by first | rfl | (simp; done) | (simp [*]; done)), H', ⟨Nat.le_refl _⟩, by repeat (first | exact Drawn0.refl _ | apply Drawn0.step)⟩
  case round =>
    clear H'
    try clear c1
    obtain ⟨x3_1, x4_1, rfl, rfl, HA, HK1, ⟨m1, rfl⟩⟩ := hrel
    cases gk with
    | zero => exact absurd HA.out (by simp [weighhouseref01_Sum.l0])
    | succ k1 =>
      have H := HA.out
      clear HA
      simp only [weighhouseref01_Sum.l0] at H
      by_cases c2 : x4_1 < (l0.length : Int)
      · rw [if_pos c2] at H
        have c2b0 : decide (x4_1 < (l0.length : Int)) = true := decide_eq_true c2
        clear c2
        have H' := Aside0.mk H
        clear H
        go_wp2
        go_loopg [3, 5] k1 (fun kq v3 v5 w' => ∃ (x3_2 : Int) (x5_2 : Int), v3 = .int .u32 x3_2 ∧ v5 = .int .i64 x5_2 ∧ Aside0 (weighhouseref01_Sum.l1 kq l0 x3_2 x4_1 x5_2 = some r) ∧ Aside0 (kq ≤ k1) ∧ Drawn0 w w')
        case atStart => exact ⟨(x3_1), (0), (by first | rfl | (simp; done) | (simp [*]; done)), (by first | rfl | (simp; done) | (simp [*]; done)), H', ⟨Nat.le_refl _⟩, by repeat (first | exact Drawn0.refl _ | apply Drawn0.step)⟩
        case round =>
          clear H'
          try clear c1
          try clear c2
          try clear c2b0
          try clear p2
          obtain ⟨x3_2, x5_2, rfl, rfl, HA, HK2, ⟨m2, rfl⟩⟩ := hrel
          cases gk with
          | zero => exact absurd HA.out (by simp [weighhouseref01_Sum.l1])
          | succ k2 =>
            have H := HA.out
            clear HA
            simp only [weighhouseref01_Sum.l1] at H
            by_cases c3 : x5_2 < 8
            · rw [if_pos c3] at H
              have c3b0 : decide (x5_2 < 8) = true := decide_eq_true c3
              clear c3
              by_cases c4 : 0 ≤ x4_1
              · rw [if_pos c4] at H
                have c4b0 : decide (0 ≤ x4_1) = true := decide_eq_true c4
                clear c4
                by_cases c5 : x4_1 < (l0.length : Int)
                · rw [if_pos c5] at H
                  have c5b0 : decide (x4_1 < (l0.length : Int)) = true := decide_eq_true c5
                  clear c5
                  obtain ⟨ji6, hji6⟩ : ∃ j_ : Int, (IntKind.u64.wrap (x5_2)) = j_ := ⟨_, rfl⟩
                  replace H : (if 0 ≤ (ji6) then (if (Go.bits .xor .u32 (Go.bits .and .u32 x3_2 1) (Go.bits .and .u32 (shr .u32 ((rd l0 x4_1) % 4294967296) (ji6)) 1)) = 1 then (weighhouseref01_Sum.l1 k2 l0 (Go.bits .xor .u32 (x3_2 / 2) 3988292384) x4_1 (wrap64 (x5_2 + 1))) else (weighhouseref01_Sum.l1 k2 l0 (x3_2 / 2) x4_1 (wrap64 (x5_2 + 1)))) else (none)) = some r := by first | (rw [hji6] at H; exact H) | (simp only [hji6] at H ⊢; exact H)
                  by_cases c7 : 0 ≤ (ji6)
                  · rw [if_pos c7] at H
                    have c7b0 := eq_true c7
                    have c7b1 : decide (0 ≤ (ji6)) = true := decide_eq_true c7
                    clear c7
                    obtain ⟨ji8, hji8⟩ : ∃ j_ : Int, (shr .u32 ((rd l0 x4_1) % 4294967296) (ji6)) = j_ := ⟨_, rfl⟩
                    replace H : (if (Go.bits .xor .u32 (Go.bits .and .u32 x3_2 1) (Go.bits .and .u32 (ji8) 1)) = 1 then (weighhouseref01_Sum.l1 k2 l0 (Go.bits .xor .u32 (x3_2 / 2) 3988292384) x4_1 (wrap64 (x5_2 + 1))) else (weighhouseref01_Sum.l1 k2 l0 (x3_2 / 2) x4_1 (wrap64 (x5_2 + 1)))) = some r := by first | (rw [hji8] at H; exact H) | (simp only [hji8] at H ⊢; exact H)
                    have hji8_ : (((rd l0 x4_1) % 4294967296) / 2 ^ min (ji6).toNat 32) = ji8 := hji8
                    have hji8z : (ji6) ≤ 32 → (((rd l0 x4_1) % 4294967296) / 2 ^ (ji6).toNat) = ji8 := shr_small hji8
                    by_cases c9 : (Go.bits .xor .u32 (Go.bits .and .u32 x3_2 1) (Go.bits .and .u32 (ji8) 1)) = 1
                    · rw [if_pos c9] at H
                      have c9b0 : ((Go.bits .xor .u32 (Go.bits .and .u32 x3_2 1) (Go.bits .and .u32 (ji8) 1)) == 1) = true := beq_iff_eq.mpr c9
                      have c9b1 : ((Go.bits .xor .u32 (Go.bits .and .u32 x3_2 1) (Go.bits .and .u32 (ji8) 1)) != 1) = false := bne_eq_false_iff_eq.mpr c9
                      clear c9
                      have H' := Aside0.mk H
                      clear H
                      have p125 : 0 ≤ (x4_1 : Int) := of_decide_eq_true (by first | (with_reducible assumption) | assumption)
                      have q125 : x4_1 < (l0.length : Int) := of_decide_eq_true (by first | (with_reducible assumption) | assumption)
                      obtain ⟨ad125, e125, hx125_0⟩ := Kd.at_int HR0.out x4_1 p125 q125
                      cases e125
                      replace p125 := eq_true p125
                      replace q125 := eq_true q125
                      go_wp2
                      go_roundg k2
                      case measure => have := HK1.out; have := HK2.out; omega
                      case rel => exact ⟨(Go.bits .xor .u32 (x3_2 / 2) 3988292384), (wrap64 (x5_2 + 1)), (by first | rfl | (simp; done) | (simp [*]; done)), (by first | rfl | (simp; done) | (simp [*]; done)), (by first | exact H' | exact ⟨by rw [hji8]; exact H'.out⟩ | exact ⟨by simp only [hji8]; exact H'.out⟩), ⟨by have := HK1.out; have := HK2.out; omega⟩, by repeat (first | exact Drawn0.refl _ | apply Drawn0.step)⟩
                    · rw [if_neg c9] at H
                      have c9b0 : ((Go.bits .xor .u32 (Go.bits .and .u32 x3_2 1) (Go.bits .and .u32 (ji8) 1)) == 1) = false := beq_eq_false_iff_ne.mpr c9
                      have c9b1 : ((Go.bits .xor .u32 (Go.bits .and .u32 x3_2 1) (Go.bits .and .u32 (ji8) 1)) != 1) = true := bne_iff_ne.mpr c9
                      have H' := Aside0.mk H
                      clear H
                      have p125 : 0 ≤ (x4_1 : Int) := of_decide_eq_true (by first | (with_reducible assumption) | assumption)
                      have q125 : x4_1 < (l0.length : Int) := of_decide_eq_true (by first | (with_reducible assumption) | assumption)
                      obtain ⟨ad125, e125, hx125_0⟩ := Kd.at_int HR0.out x4_1 p125 q125
                      cases e125
                      replace p125 := eq_true p125
                      replace q125 := eq_true q125
                      go_wp2
                      go_roundg k2
                      case measure => have := HK1.out; have := HK2.out; omega
                      case rel => exact ⟨(x3_2 / 2), (wrap64 (x5_2 + 1)), (by first | rfl | (simp; done) | (simp [*]; done)), (by first | rfl | (simp; done) | (simp [*]; done)), (by first | exact H' | exact ⟨by rw [hji8]; exact H'.out⟩ | exact ⟨by simp only [hji8]; exact H'.out⟩), ⟨by have := HK1.out; have := HK2.out; omega⟩, by repeat (first | exact Drawn0.refl _ | apply Drawn0.step)⟩
                  · rw [if_neg c7] at H
                    exact absurd H (by simp)
                · rw [if_neg c5] at H
                  exact absurd H (by simp)
              · rw [if_neg c4] at H
                exact absurd H (by simp)
            · rw [if_neg c3] at H
              have c3b0 : decide (x5_2 < 8) = false := decide_eq_false c3
              clear c3
              have H' := Aside0.mk H
              clear H
              go_wp2
              go_roundg k2
              case measure => have := HK1.out; have := HK2.out; omega
              case rel => exact ⟨(x3_2), (wrap64 (x4_1 + 1)), (by first | rfl | (simp; done) | (simp [*]; done)), (by first | rfl | (simp; done) | (simp [*]; done)), (by first | exact H' | exact ⟨by rw [hji8]; exact H'.out⟩ | exact ⟨by simp only [hji8]; exact H'.out⟩), ⟨by have := HK1.out; have := HK2.out; omega⟩, by repeat (first | exact Drawn0.refl _ | apply Drawn0.step)⟩
      · rw [if_neg c2] at H
        have c2b0 : decide (x4_1 < (l0.length : Int)) = false := decide_eq_false c2
        clear c2
        obtain rfl := Option.some.inj H
        go_wp2
        go_ret
        exact ⟨by first | rfl | (simp; done) | (simp [*]; done), by repeat (first | exact Drawn0.refl _ | apply Drawn0.step)⟩

end Go.Proofs.Ytjkimfjhfncldaa.Q
end
