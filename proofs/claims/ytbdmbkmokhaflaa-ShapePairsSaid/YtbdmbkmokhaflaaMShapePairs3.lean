/- texts of one claim, merged: each in a section of its own -/
import Derived.WalkKit
import Derived.Test.YtbdmbkmokhaflaaMShapePairs2
import Derived.Deep.Slices
import Derived.SizedLaws
import Derived.ChangeArms
import Derived.Test.YtbdmbkmokhaflaaProg
import Derived.Below
import Derived.Deep.Draws
import Derived.Deep.AppendLies
import Derived.Maps.AppendAt
import Derived.OwnWalk
import Derived.Laws.BytesArg
import Derived.Laws.MakeOwn
import Derived.Laws.OwnMore
import Derived.Deep.OwnRows
import Derived.Tactics
import Derived.Lib.ConvBytes
import Derived.Laws.Slices
import Derived.KernelRfl
import Derived.RowKit3
import Derived.Deep.LoopGhost
import Derived.Deep.QuietTactic
import Derived.BigQuiet
import Derived.WideLaws
import Derived.Deep.DeepCutAuto
import Derived.Deep.CutBlock
import Derived.Deep.RegionHeld3
import Derived.Laws.Rows
import Derived.Lib.AppendStr
import Derived.ArgAppend
import Derived.Laws.IdiomCopy
import Derived.OrdersHeld
import Derived.Laws.BitsLemmas
import Derived.RowKit
import Derived.WalkSpells
import Derived.WalkLawsBesides
import Derived.Laws.Bits64b
import Derived.RangeFuncNested
import Derived.RangeFuncBound
import Derived.RangeFuncCalls
import Derived.RangeFuncLeaves
import Derived.Shelf.Abstract
import Derived.Shelf.RegionOpen
import Derived.OwnWalkIn
import Derived.TacticsInMore
import Derived.LoopNIn
import Derived.LoopIn
import Derived.Test.YtbdmbkmokhaflaaMShapePairs1
section
/- small words of these sessions over the kit's printed words: blocks that are known whole, rows of slices, literals, results -/
set_option linter.unusedVariables false
set_option linter.unusedSimpArgs false
namespace Go.Proofs.YtbdmbkmokhaflaaW.Hb
open Go.RowKit Go.Proofs.YtbdmbkmokhaflaaW.PrintWords

/-! ### blocks -/
/-- Block g holds just these cells, of element type t, none frozen. -/
def Blk (w : World) (g : Nat) (t : TypeId) (cs : Array Value) : Prop := w.heap[g]? = some (.cells cs t (0, 0))
section
variable {w w' : World} {g : Nat} {t : TypeId} {cs : Array Value}
theorem Blk.lt (h : Blk w g t cs) : g < w.heap.size := by
  rcases Nat.lt_or_ge g w.heap.size with hlt | hge
  · exact hlt
  · unfold Blk at h; rw [Array.getElem?_eq_none hge] at h; cases h
theorem Blk.cell (h : Blk w g t cs) (i : Nat) : w.cell? ⟨g, i, none⟩ = cs[i]? := cell_of_row w g i cs t (0, 0) h
theorem Blk.at_ (h : Blk w g t cs) (i : Nat) {v : Value} (hv : cs[i]? = some v) : w.cell? ⟨g, i, none⟩ = some v := (h.cell i).trans hv
theorem Blk.frozen (h : Blk w g t cs) (i : Nat) : w.frozen? ⟨g, i, none⟩ = false := by
  unfold Blk at h
  simp [World.frozen?, h]
theorem Blk.new (w : World) (t : TypeId) (cs : Array Value) : Blk (w.alloc (.cells cs t)) w.heap.size t cs := heap_alloc_new w _
theorem Blk.drew (h : Blk w g t cs) : Blk w.drew g t cs := h
theorem Blk.drewN (h : Blk w g t cs) (n : Nat) : Blk (w.drewN n) g t cs := h
theorem Blk.alloc (h : Blk w g t cs) (o : Obj) : Blk (w.alloc o) g t cs := (Below.heap_alloc w o g h.lt).trans h
theorem Blk.set_ (h : Blk w g t cs) (i : Nat) (u : Value) : Blk (w.setCell ⟨g, i, none⟩ u) g t (cs.setIfInBounds i u) := by
  unfold Blk at h ⊢
  simp [World.setCell, Array.getElem?_modify, h]
theorem Blk.far (h : Blk w g t cs) {p : Addr} (hp : g ≠ p.block) (u : Value) : Blk (w.setCell p u) g t cs := (Below.heap_setCell w p u g hp).trans h
theorem Blk.below {B : Nat} (h : Blk w g t cs) (hb : Below B w w') (hg : g < B) : Blk w' g t cs := (hb.block g hg).trans h
theorem Blk.after (h : Blk w g t cs) (hb : Below w.heap.size w w') : Blk w' g t cs := (hb.block g h.lt).trans h
theorem Blk.grown {row : Option Nat} (h : Blk w g t cs) (hb : w.grownBy w' row) (hg : some g ≠ row) : Blk w' g t cs := (hb.block g h.lt hg).trans h
theorem Blk.ne_ {g' : Nat} {t' : TypeId} {cs' : Array Value} (h : Blk w g t cs) (h' : Blk w g' t' cs') (hne : t ≠ t') : g ≠ g' := by
  rintro rfl
  unfold Blk at h h'
  rw [h] at h'
  injection h' with h'
  injection h' with _ ht
  exact hne ht
end
theorem cell_allocd {w : World} {a : Addr} {v : Value} (h : w.cell? a = some v) (o : Obj) : (w.alloc o).cell? a = some v := pw_cell_below ((Below.refl _ _).alloc (Nat.le_refl _) o) h

/-! ### rows that are read -/
theorem at_intN {w : World} {k : IntKind} {A : Option Addr} {n : Nat} {xs : List Int} (h : (Kd.int k).C w A n xs) (i : Nat) (hi : i < xs.length) : ∃ ad, A = some ad ∧ w.cell? (ad.add i) = some (.int k xs[i]) := by
  obtain ⟨ad, e, hc⟩ := Kd.at_int h i (by omega) (by have := h.1; omega)
  refine ⟨ad, e, ?_⟩
  rw [Int.toNat_natCast] at hc
  rw [hc]
  simp [rd, List.getD_eq_getElem?_getD, hi]
theorem at_slice {α : Type} {d : Kd α} {e : TypeId} {w : World} {A : Option Addr} {n : Nat} {ps : List (List α)} (h : (Kd.slice e d).C w A n ps) (i : Nat) (hi : i < ps.length) :
    ∃ ad A' c', A = some ad ∧ w.cell? (ad.add i) = some (.slice A' ps[i].length c') ∧ ps[i].length ≤ c' ∧ d.C w A' ps[i].length ps[i] := by
  obtain ⟨ad, c, e1, _, hK, hc⟩ := Kd.C_get h [] i (by omega) (by have := h.1; omega)
  have e2 : ps.getD (i : Int).toNat [] = ps[i] := by simp [List.getD_eq_getElem?_getD, hi]
  rw [e2] at hK
  obtain ⟨A', c', rfl, hl, hC⟩ := hK
  refine ⟨ad, A', c', e1, ?_, hl, hC⟩
  have h0 := hc 0 _ rfl
  rw [Int.toNat_natCast] at h0
  have h1 : i * (Kd.slice e d).sz + 0 = i := by show i * 1 + 0 = i; omega
  rwa [h1] at h0
/-- A literal of numbers, read. -/
theorem C_lit_int (W : World) (b : Nat) (hb : b = W.heap.size) (k : IntKind) (xs : List Int) (cells : Array Value) (hc : cells = (nums k xs).toArray) (e : TypeId) (hm : xs.length ≤ 9223372036854775807) :
    (Kd.int k).C (W.alloc (.cells cells e)) (some ⟨b, 0, none⟩) xs.length xs := by
  subst hb hc
  obtain ⟨A, c, hv, hR⟩ := own_reads (own_lit W 0 e k xs (Nat.zero_le _) hm)
  injection hv with h1 h2 h3
  subst h1
  exact Kd.C_of_reads (d := (0 : Int)) (h1 := fun _ => rfl) hR
/-- A block that is known whole, read as a row. -/
theorem C_of_reps {α : Type} {d : Kd α} {w : World} {g : Nat} {t : TypeId} {cs : Array Value} (hB : Blk w g t cs) (ps : List α) (hr : Reps (d.K w) d.sz ps cs.toList) (hm : ps.length ≤ 9223372036854775807) : d.C w (some ⟨g, 0, none⟩) ps.length ps := by
  refine ⟨rfl, hm, fun _ => ⟨_, rfl, fun j p hj => ⟨_, ?_, hr.2 j p hj, fun i u hu => ?_⟩⟩⟩
  · exact d.K_len (hr.2 j p hj)
  · rw [add_plain, hB.cell]
    rw [List.getElem?_take, List.getElem?_drop] at hu
    split at hu
    · rw [← Array.getElem?_toList]
      exact hu
    · cases hu
theorem Reps_one {α : Type} {R : α → List Value → Prop} {size : Nat} {p : α} {c : List Value} (h : R p c) (hc : c.length = size) : Reps R size [p] c := by
  have := Reps.snoc (Reps.none R size) h hc
  simpa using this
theorem Reps_two {α : Type} {R : α → List Value → Prop} {size : Nat} {p q : α} {c e : List Value} (h : R p c) (hc : c.length = size) (h' : R q e) (he : e.length = size) : Reps R size [p, q] (c ++ e) := by
  have := Reps.snoc (Reps_one h hc) h' he
  simpa using this
/-- A row of slices that a call has just laid, read: two of them. -/
theorem C_lit_two {α : Type} (d : Kd α) (W : World) (b : Nat) (hb : b = W.heap.size) (e t : TypeId) (A1 A2 : Option Addr) (n1 n2 c1 c2 : Nat) (x1 x2 : List α) (hn1 : x1.length = n1) (hn2 : x2.length = n2) (h1 : d.C W A1 x1.length x1) (h2 : d.C W A2 x2.length x2) (hc1 : n1 ≤ c1) (hc2 : n2 ≤ c2) :
    (Kd.slice e d).C (W.alloc (.cells #[.slice A1 n1 c1, .slice A2 n2 c2] t)) (some ⟨b, 0, none⟩) [x1, x2].length [x1, x2] := by
  subst hb hn1 hn2
  have hB : Below W.heap.size W (W.alloc (.cells #[.slice A1 x1.length c1, .slice A2 x2.length c2] t)) := (Below.refl _ _).alloc (Nat.le_refl _) _
  refine ⟨rfl, by simp, fun _ => ⟨_, rfl, fun j p hj => ?_⟩⟩
  match j, hj with
  | 0, hj =>
    obtain rfl : x1 = p := by simpa using hj
    refine ⟨[.slice A1 x1.length c1], rfl, ⟨A1, c1, rfl, hc1, Kd.C_below h1 hB⟩, fun i u hu => ?_⟩
    match i, hu with
    | 0, hu =>
      obtain rfl : Value.slice A1 x1.length c1 = u := by simpa using hu
      exact (Blk.new W t _).cell 0
    | i + 1, hu => simp at hu
  | 1, hj =>
    obtain rfl : x2 = p := by simpa using hj
    refine ⟨[.slice A2 x2.length c2], rfl, ⟨A2, c2, rfl, hc2, Kd.C_below h2 hB⟩, fun i u hu => ?_⟩
    match i, hu with
    | 0, hu =>
      obtain rfl : Value.slice A2 x2.length c2 = u := by simpa using hu
      have e1 : (⟨W.heap.size, 0, none⟩ : Addr).add (1 * (Kd.slice e d).sz + 0) = ⟨W.heap.size, 1, none⟩ := by rw [add_plain]; rfl
      rw [e1]
      exact (Blk.new W t _).cell 1
    | i + 1, hu => simp at hu
  | j + 2, hj => simp at hj

/-! ### a string of bytes, in a region that draws -/
theorem conv_pack {P : Program} {W : World} {base : Nat} {e src dst el : TypeId} {ok : Nat → Prop} {v : Value} {xs : List Int} (hs : P.underlying src = some (.slice el)) (he : P.underlying el = some (.int .u8)) (hd : P.underlying dst = some .string) (h : (Kd.int .u8).R e W base ok v xs) :
    ∃ CV : World → Prop, CV W ∧ (∀ w', CV w' → (convert src dst v).run P w' = .ok (.string (strOfNums xs)) w') ∧ (∀ (w' : World) (b : Nat) (ok' : Nat → Prop), (Kd.int .u8).R e w' b ok' v xs → CV w') :=
  ⟨fun w' => (convert src dst v).run P w' = .ok (.string (strOfNums xs)) w', own_string hs he hd (Kd.own_of_R h), fun _ h => h, fun _ _ _ h => own_string hs he hd (Kd.own_of_R h)⟩

/-! ### lists of lists, up to a place -/
def tk {α : Type} (ps : List (List α)) (k : Nat) : List α := (ps.take k).flatten
theorem tk_zero {α : Type} (ps : List (List α)) : tk ps 0 = [] := by simp [tk]
theorem tk_succ {α : Type} (ps : List (List α)) (k : Nat) (hk : k < ps.length) : tk ps (k + 1) = tk ps k ++ ps[k] := by
  unfold tk
  rw [List.take_succ_eq_append_getElem hk, List.flatten_append]
  simp
theorem tk_all {α : Type} (ps : List (List α)) (k : Nat) (hk : ps.length ≤ k) : tk ps k = ps.flatten := by
  unfold tk
  rw [List.take_of_length_le hk]
theorem tk_le {α : Type} (ps : List (List α)) (k : Nat) : (tk ps k).length ≤ ps.flatten.length := by
  unfold tk
  conv => rhs; rw [← List.take_append_drop k ps, List.flatten_append, List.length_append]
  omega

/-! ### results -/
/-- A row of the call's own is handed back. -/
def OwnRes {α : Type} (d : Kd α) (t : TypeId) (w : World) (xs : List α) (e : Ending) (w' : World) : Prop := ∃ v, e = .returned v ∧ d.R t w' w.heap.size (fun _ => True) v xs ∧ Below w.heap.size w w'

/-! ### the first that fits -/
def ixf {α : Type} (p : α → Bool) (xs : List α) : Int := if xs.any p then ((xs.findIdx p : Nat) : Int) else -1
theorem ixf_hit {α : Type} (p : α → Bool) (xs : List α) (k : Nat) (hk : k < xs.length) (h : p xs[k] = true) (hb : ∀ j (hj : j < xs.length), j < k → p xs[j] = false) : ixf p xs = k := by
  have h1 : xs.any p = true := List.any_eq_true.2 ⟨xs[k], List.getElem_mem hk, h⟩
  have h2 : xs.findIdx p = k := by
    rw [List.findIdx_eq hk]
    exact ⟨h, fun j hj => hb j (by omega) hj⟩
  simp [ixf, h1, h2]
theorem ixf_miss {α : Type} (p : α → Bool) (xs : List α) (hb : ∀ j (hj : j < xs.length), p xs[j] = false) : ixf p xs = -1 := by
  have h1 : xs.any p = false := by
    rw [List.any_eq_false]
    intro x hx
    obtain ⟨j, hj, rfl⟩ := List.getElem_of_mem hx
    simp [hb j hj]
  simp [ixf, h1]
theorem ixf_any {α : Type} (p : α → Bool) (xs : List α) : decide (0 ≤ ixf p xs) = xs.any p := by
  unfold ixf
  cases h : xs.any p <;> simp
end Go.Proofs.YtbdmbkmokhaflaaW.Hb
end

section
/- what an argument's reading gives: its kind, and bounds on its sizes -/
set_option linter.unusedVariables false
set_option linter.unusedSimpArgs false
namespace Go.Proofs.YtbdmbkmokhaflaaW.Ho
open Go.RowKit Go.Deep Go.Proofs.YtbdmbkmokhaflaaW.PrintWords Go.Proofs.YtbdmbkmokhaflaaW.Hb

/-- A reading of type t, no part of it greater than the reach, is a value of kind d that meets Q. -/
def Opens (P : Program) {α : Type} (d : Kd α) (t : TypeId) (Q : α → Prop) : Prop :=
  ∀ {H : Type} (enc : TypeId × Value → H) (w : World) (base : Nat) (spare : Nat → Bool) (held : Bool) (fuel : Nat) (cs : List Value) (x : DataW H × List MemPlace),
    DataW.trod enc P w base spare held fuel t cs = some x → (∀ n ∈ x.1.weights P t, n ≤ reachBytes) → ∃ v, d.K w v cs ∧ Q v
section
variable {P : Program} {t : TypeId}
theorem opens_int {k : IntKind} (ht : P.underlying t = some (.int k)) : Opens P (Kd.int k) t (fun n => (Lit.int k n).wf = true) := by
  intro H enc w base spare held fuel cs x h _
  obtain ⟨n, rfl, _, hw⟩ := DataW.trod_int ht h
  exact ⟨n, rfl, hw⟩
theorem opens_bool (ht : P.underlying t = some .bool) : Opens P Kd.bool t (fun _ => True) := by
  intro H enc w base spare held fuel cs x h _
  obtain ⟨b, rfl, _⟩ := DataW.trod_bool ht h
  exact ⟨b, rfl, trivial⟩
theorem opens_string (ht : P.underlying t = some .string) : Opens P Kd.string t (fun s => s.size ≤ reachBytes) := by
  intro H enc w base spare held fuel cs x h hw
  obtain ⟨s, rfl, rfl, _⟩ := DataW.trod_string ht h
  refine ⟨s, rfl, ?_⟩
  have := hw s.data.toList.length (by simp [DataW.weights])
  rwa [Array.length_toList] at this
theorem weightsAll_mem {H : Type} {e : TypeId} : ∀ {l : List (DataW H)} {d : DataW H}, d ∈ l → ∀ n ∈ d.weights P e, n ∈ DataW.weightsAll P e l
  | a :: l, d, hd, n, hn => by
    simp only [DataW.weightsAll, List.mem_append]
    rcases List.mem_cons.1 hd with rfl | hd
    · exact .inl hn
    · exact .inr (weightsAll_mem hd n hn)
  | [], _, hd, _, _ => by simp at hd
theorem opens_slice {α : Type} {d : Kd α} {e : TypeId} {Q : α → Prop} (ht : P.underlying t = some (.slice e)) (hs : P.cellsOf e = d.sz) (hp : Opens P d e Q) :
    Opens P (Kd.slice e d) t (fun xs => xs.length * P.bytesOf e ≤ reachBytes ∧ xs.length ≤ maxLen ∧ ∀ x ∈ xs, Q x) := by
  intro H enc w base spare held fuel cs x h hw
  rcases open_slice ht h with ⟨rfl, _⟩ | ⟨a, len, cap, m, n, D, Pl, rfl, hb, hl, hm, hmm, rfl, hi⟩
  · exact ⟨[], ⟨none, 0, rfl, Nat.le_refl _, Kd.C_nil d w⟩, by simp, by simp, by simp⟩
  · have hlm : len ≤ m := by rw [hmm]; split <;> omega
    have hex : ∀ i : Fin len, ∃ v : α, (∃ cs', w.cells? base (a.add (i.1 * P.cellsOf e)) (P.cellsOf e) = some cs' ∧ d.K w v cs') ∧ Q v := by
      intro i
      obtain ⟨cs', hc, ht'⟩ := hi i.1 (by have := i.2; omega)
      obtain ⟨v, hK, hQ⟩ := hp enc w base spare held n cs' _ ht' (fun k hk => hw k (by
        simp only [DataW.weights, ht, List.mem_cons, List.mem_append]
        exact .inr (.inl (weightsAll_mem (List.mem_map.2 ⟨i.1, List.mem_range.2 i.2, rfl⟩) k hk))))
      exact ⟨v, ⟨cs', hc, hK⟩, hQ⟩
    have hlen : (List.ofFn fun i : Fin len => (hex i).choose).length = len := by simp
    have hmax : len ≤ 9223372036854775807 := by unfold maxLen at hm; omega
    refine ⟨List.ofFn fun i : Fin len => (hex i).choose, ⟨some a, cap, by rw [hlen], by rw [hlen]; exact hl, ?_⟩, ?_, ?_, ?_⟩
    · refine ⟨rfl, by rw [hlen]; exact hmax, fun _ => ⟨a, rfl, fun j p hj => ?_⟩⟩
      have hjl : j < len := by
        have := (List.getElem?_eq_some_iff.1 hj).1
        rwa [hlen] at this
      obtain ⟨⟨cs', hc, hK⟩, _⟩ := (hex ⟨j, hjl⟩).choose_spec
      have hpj : (hex ⟨j, hjl⟩).choose = p := by simpa [hjl] using hj
      rw [hpj] at hK
      obtain ⟨_, hcl, hat⟩ := World.cells?_some hc
      refine ⟨cs', by rw [hcl, hs], hK, fun i u hu => ?_⟩
      have hil : i < P.cellsOf e := by
        have := (List.getElem?_eq_some_iff.1 hu).1
        rwa [hcl] at this
      have := hat i hil
      rw [Go.Deep.add_add, hu, hs] at this
      exact this
    · rw [hlen]
      have := hw ((((List.range len).map D).length + ((List.range (m - len)).map fun j => D (len + j)).length) * P.bytesOf e) (by simp only [DataW.weights, ht, List.mem_cons]; exact .inl trivial)
      simp only [List.length_map, List.length_range] at this
      exact Nat.le_trans (Nat.mul_le_mul_right _ (by omega)) this
    · rw [hlen]; omega
    · intro x hx
      obtain ⟨i, hi', rfl⟩ := List.getElem_of_mem hx
      have hil : i < len := by rwa [hlen] at hi'
      have := (hex ⟨i, hil⟩).choose_spec.2
      simpa using this
theorem weights_field {H : Type} {fs : Array Field} {parts : List (DataW H)} {j : Nat} {tj : TypeId} {d : DataW H} (ht : P.underlying t = some (.struct fs)) (h1 : (fs.toList.map (·.type))[j]? = some tj) (h2 : parts[j]? = some d) : ∀ n ∈ d.weights P tj, n ∈ (DataW.agg parts).weights P t := by
  intro n hn
  simp only [DataW.weights, ht]
  exact DataW.weights_mem_each h1 h2 n hn
end
end Go.Proofs.YtbdmbkmokhaflaaW.Ho
end

section
-- written by hprint.py (a program of these sessions) out of the translation; Lean checks it
namespace Go.Proofs.Ytbdmbkmokhaflaa.Q
open Go.RowKit Go.Proofs.YtbdmbkmokhaflaaW.Hb Go.Proofs.YtbdmbkmokhaflaaW.PrintWords Go.Proofs.YtbdmbkmokhaflaaW.PrintLast Go.Proofs.YtbdmbkmokhaflaaW.PrintMore
attribute [local go_sem] max2_int min2_int max_two min_two max_three min_three max_four min_four   -- for this text's walks alone
set_option linter.unusedVariables false
set_option linter.unusedSimpArgs false



def errW : Option Int → Value
  | none => .nilIface
  | some c => .iface 0 (.int .i64 c)
theorem errW_none : errW none = .nilIface := rfl
theorem errW_some (c : Int) : errW (some c) = .iface 0 (.int .i64 c) := rfl

theorem info3 : (Try.prog.info? 3).map (fun i => (i.zero, i.size, i.bytes)) = some (some (.int .i64 0), 1, 8) := by kernel_rfl
theorem info31 : (Try.prog.info? 31).map (fun i => (i.zero, i.size, i.bytes)) = some (some (.agg #[(.int .i64 0), (.int .i64 0)]), 2, 16) := by kernel_rfl
-- the values' own types
/-! #### struct type 31 -/
structure S31 where
  f0 : Int
  f1 : Int
def z31 : S31 := ⟨(0 : Int), (0 : Int)⟩
def k31 : Kd S31 := Kd.iso (Kd.pair (Kd.int .i64) (Kd.int .i64)) (fun x : S31 => (x.f0, x.f1))
theorem k31_open {w : World} {x : S31} {cs : List Value} (h : k31.K w x cs) : cs = [.int .i64 x.f0, .int .i64 x.f1] := by
  obtain ⟨_, _, rfl, rfl, rfl⟩ := h
  exact rfl
theorem k31_openM {w : World} {base : Nat} {ok : Nat → Prop} {x : S31} {cs : List Value} (h : k31.M w base ok x cs) : cs = [.int .i64 x.f0, .int .i64 x.f1] := by
  obtain ⟨_, _, rfl, rfl, rfl⟩ := h
  exact rfl
theorem k31_mk (w : World) (x : S31)  : k31.K w x [.int .i64 x.f0, .int .i64 x.f1] := ⟨[.int .i64 x.f0], [.int .i64 x.f1], rfl, rfl, rfl⟩
theorem k31_mkM (w : World) (base : Nat) (ok : Nat → Prop) (x : S31)  : k31.M w base ok x [.int .i64 x.f0, .int .i64 x.f1] := ⟨[.int .i64 x.f0], [.int .i64 x.f1], rfl, rfl, rfl⟩
def rd_T31 (xs : List S31) (i : Int) : S31 := xs.getD i.toNat z31
theorem at_T31 {w : World} {A : Option Addr} {n : Nat} {xs : List S31} (h : Kd.C k31 w A n xs) (i : Int) (h0 : 0 ≤ i) (h1 : i < n) : ∃ ad , A = some ad ∧ w.cell? (ad.add (i.toNat * 2)) = some (.int .i64 (rd_T31 xs i).f0) ∧ w.cell? ⟨(ad.add (i.toNat * 2)).block, (ad.add (i.toNat * 2)).off + 1, none⟩ = some (.int .i64 (rd_T31 xs i).f1) := by
  obtain ⟨ad, c, e, _, hK, hc0⟩ := Kd.C_get h z31 i h0 h1
  have hc : ∀ j u, c[j]? = some u → w.cell? (ad.add (i.toNat * 2 + j)) = some u := hc0
  obtain rfl := k31_open hK
  exact ⟨ad, e, hc 0 _ rfl, by rw [← add_field _ _ 1 (by omega)]; exact hc 1 _ rfl⟩

end Go.Proofs.Ytbdmbkmokhaflaa.Q
end

section
-- written by hprint.py (a program of these sessions) out of the translation; Lean checks it
namespace Go.Proofs.Ytbdmbkmokhaflaa.Q
open Go.RowKit Go.Proofs.YtbdmbkmokhaflaaW.Hb Go.Proofs.YtbdmbkmokhaflaaW.PrintWords Go.Proofs.YtbdmbkmokhaflaaW.PrintLast Go.Proofs.YtbdmbkmokhaflaaW.PrintMore
attribute [local go_sem] max2_int min2_int max_two min_two max_three min_three max_four min_four   -- for this text's walks alone
set_option linter.unusedVariables false
set_option linter.unusedSimpArgs false

/-! ### shape_scan_lit1_30: function 30, by hand -/
abbrev Ins := S31
theorem at_Ins {w : World} {A : Option Addr} {n : Nat} {xs : List Ins} (h : Kd.C k31 w A n xs) (i : Nat) (hi : i < xs.length) :
    ∃ ad, A = some ad ∧ w.cell? (ad.add (i * 2)) = some (.int .i64 xs[i].f0) ∧ w.cell? ⟨(ad.add (i * 2)).block, (ad.add (i * 2)).off + 1, none⟩ = some (.int .i64 xs[i].f1) := by
  obtain ⟨ad, e, h0, h1⟩ := at_T31 h i (by omega) (by have := h.1; omega)
  rw [Int.toNat_natCast] at h0 h1
  have e2 : rd_T31 xs i = xs[i] := by simp [rd_T31, List.getD_eq_getElem?_getD, hi]
  rw [e2] at h0 h1
  exact ⟨ad, e, h0, h1⟩
set_option maxRecDepth 100000 in
set_option maxHeartbeats 1000000 in
theorem shape_scan_lit1_30.calls (w : World) (bc p : Nat) (A : Option Addr) (cc : Nat) (cs : List Ins) (a : Nat) (h0 : w.cell? ⟨bc, 0, none⟩ = some (.slice A cs.length cc)) (hr : Kd.C k31 w A cs.length cs) (hp : w.cell? ⟨p, 0, none⟩ = some (.int .i64 a)) (ha : a < cs.length) :
    Calls Try.prog 30 #[.pointer (some ⟨p, 0, none⟩), .pointer (some ⟨bc, 0, none⟩)] w fun e w' => e = .returned (.bool (decide (cs[a].f0 = 51))) ∧ Below w.heap.size w w' := by
  obtain ⟨ad, e, hc, _⟩ := at_Ins hr a ha
  cases e
  have hm : cs.length ≤ 9223372036854775807 := hr.2.1
  obtain ⟨v, hv⟩ : ∃ v, cs[a].f0 = v := ⟨_, rfl⟩
  rw [hv] at hc ⊢
  have k0 : w.drew.cell? ⟨bc, 0, none⟩ = some (.slice (some ad) cs.length cc) := h0
  have k1 : w.drew.cell? ⟨p, 0, none⟩ = some (.int .i64 a) := hp
  have k2 : w.drew.cell? (ad.add (a * 2)) = some (.int .i64 v) := hc
  have q1 : (a : Int) < (cs.length : Int) := by omega
  have HB := Aside0.mk ((Below.refl w.heap.size w).drew)
  clear h0 hr hp hc hv
  by_cases hq : v = 51
  · have d : (v == 51) = true := by simp [hq]
    have HD := Aside0.mk (show decide (v = 51) = true by simp [hq])
    clear hq
    go_enter Try.func30, Try.ntmps30
    go_wp2
    refine start_ (n := 10) (S := fun w' => w'.cell? ⟨bc, 0, none⟩ = some (.slice (some ad) cs.length cc) ∧ w'.cell? ⟨p, 0, none⟩ = some (.int .i64 a) ∧ w'.cell? (ad.add (a * 2)) = some (.int .i64 v)) (ds := []) #[false, false, false, false, false, false, false, false, false, false] (by kernel_rfl) rfl rfl ⟨k0, k1, k2⟩ (fun hHeld => ?_)
    generalize w.drew = wd at k0 k1 k2 HB hHeld ⊢
    refine pure_ (i := 1) (N := some 5) (v := ?_) (a' := ?_) #[false, true, false, false, false, false, false, false, false, false] rfl rfl (by kernel_rfl) (fun _ _ _ h => h) (Or.inl ⟨by rfl, ?_⟩) ?_ ?_
    rotate_left
    · intro w'
      go_simp
      with_reducible rfl
    rotate_left
    · simp only [Act.put, List.setIfInBounds_toArray, List.set_cons_zero, List.set_cons_succ, i64_w, i32_w]
      rfl
    refine pure_ (i := 2) (N := some 6) (v := ?_) (a' := ?_) #[false, true, true, false, false, false, false, false, false, false] rfl rfl (by kernel_rfl) (fun _ _ _ h => h) (Or.inl ⟨by rfl, ?_⟩) ?_ ?_
    rotate_left
    · intro w'
      go_simp
      with_reducible rfl
    rotate_left
    · simp only [Act.put, List.setIfInBounds_toArray, List.set_cons_zero, List.set_cons_succ, i64_w, i32_w]
      rfl
    refine pure_ (i := 3) (N := some 7) (v := ?_) (a' := ?_) #[false, true, true, true, false, false, false, false, false, false] rfl rfl (by kernel_rfl) (fun _ _ _ h => h) (Or.inl ⟨by rfl, ?_⟩) ?_ ?_
    rotate_left
    · intro w'
      go_simp
      with_reducible rfl
    rotate_left
    · simp only [Act.put, List.setIfInBounds_toArray, List.set_cons_zero, List.set_cons_succ, i64_w, i32_w]
      rfl
    refine take_ (i := 0) (N := some 4) (v := ?_) (a' := ?_) #[true, true, true, true, false, false, false, false, false, false] rfl rfl (by kernel_rfl) (fun _ _ _ h => h) (Or.inl ⟨by rfl, ?_⟩) hHeld ?_ ?_
    rotate_left
    · rintro w' ⟨s0, s1, s2⟩
      go_simp
      with_reducible rfl
    rotate_left
    · simp only [Act.put, List.setIfInBounds_toArray, List.set_cons_zero, List.set_cons_succ, i64_w, i32_w]
      rfl
    refine take_ (i := 4) (N := some 8) (v := ?_) (a' := ?_) #[true, true, true, true, true, false, false, false, false, false] rfl rfl (by kernel_rfl) (fun _ _ _ h => h) (Or.inl ⟨by rfl, ?_⟩) hHeld ?_ ?_
    rotate_left
    · rintro w' ⟨s0, s1, s2⟩
      go_simp
      with_reducible rfl
    rotate_left
    · simp only [Act.put, List.setIfInBounds_toArray, List.set_cons_zero, List.set_cons_succ, i64_w, i32_w]
      rfl
    refine pure_ (i := 5) (N := some 9) (v := ?_) (a' := ?_) #[true, true, true, true, true, true, false, false, false, false] rfl rfl (by kernel_rfl) (fun _ _ _ h => h) (Or.inl ⟨by rfl, ?_⟩) ?_ ?_
    rotate_left
    · intro w'
      go_simp
      with_reducible rfl
    rotate_left
    · simp only [Act.put, List.setIfInBounds_toArray, List.set_cons_zero, List.set_cons_succ, i64_w, i32_w]
      rfl
    refine pure_ (i := 6) (N := some 10) (v := ?_) (a' := ?_) #[true, true, true, true, true, true, true, false, false, false] rfl rfl (by kernel_rfl) (fun _ _ _ h => h) (Or.inl ⟨by rfl, ?_⟩) ?_ ?_
    rotate_left
    · intro w'
      go_simp
      with_reducible rfl
    rotate_left
    · simp only [Act.put, List.setIfInBounds_toArray, List.set_cons_zero, List.set_cons_succ, i64_w, i32_w]
      rfl
    refine take_ (i := 7) (N := some 11) (v := ?_) (a' := ?_) #[true, true, true, true, true, true, true, true, false, false] rfl rfl (by kernel_rfl) (fun _ _ _ h => h) (Or.inl ⟨by rfl, ?_⟩) hHeld ?_ ?_
    rotate_left
    · rintro w' ⟨s0, s1, s2⟩
      go_simp
      with_reducible rfl
    rotate_left
    · simp only [Act.put, List.setIfInBounds_toArray, List.set_cons_zero, List.set_cons_succ, i64_w, i32_w]
      rfl
    refine pure_ (i := 8) (N := some 12) (v := ?_) (a' := ?_) #[true, true, true, true, true, true, true, true, true, false] rfl rfl (by kernel_rfl) (fun _ _ _ h => h) (Or.inl ⟨by rfl, ?_⟩) ?_ ?_
    rotate_left
    · intro w'
      go_simp
      with_reducible rfl
    rotate_left
    · simp only [Act.put, List.setIfInBounds_toArray, List.set_cons_zero, List.set_cons_succ, i64_w, i32_w]
      rfl
    refine pure_ (i := 9) (N := some 3) (v := ?_) (a' := ?_) #[true, true, true, true, true, true, true, true, true, true] rfl rfl (by kernel_rfl) (fun _ _ _ h => h) (Or.inl ⟨by rfl, ?_⟩) ?_ ?_
    rotate_left
    · intro w'
      go_simp
      with_reducible rfl
    rotate_left
    · simp only [Act.put, List.setIfInBounds_toArray, List.set_cons_zero, List.set_cons_succ, i64_w, i32_w]
      rfl
    refine done_ (by kernel_rfl) ?_
    clear hHeld k0 k1 k2
    go_wp2
    go_ret
    rw [HD.out]
    exact ⟨rfl, HB.out⟩
  · have d : (v == 51) = false := by simp [hq]
    have HD := Aside0.mk (show decide (v = 51) = false by simp [hq])
    clear hq
    go_enter Try.func30, Try.ntmps30
    go_wp2
    refine start_ (n := 10) (S := fun w' => w'.cell? ⟨bc, 0, none⟩ = some (.slice (some ad) cs.length cc) ∧ w'.cell? ⟨p, 0, none⟩ = some (.int .i64 a) ∧ w'.cell? (ad.add (a * 2)) = some (.int .i64 v)) (ds := []) #[false, false, false, false, false, false, false, false, false, false] (by kernel_rfl) rfl rfl ⟨k0, k1, k2⟩ (fun hHeld => ?_)
    generalize w.drew = wd at k0 k1 k2 HB hHeld ⊢
    refine pure_ (i := 1) (N := some 5) (v := ?_) (a' := ?_) #[false, true, false, false, false, false, false, false, false, false] rfl rfl (by kernel_rfl) (fun _ _ _ h => h) (Or.inl ⟨by rfl, ?_⟩) ?_ ?_
    rotate_left
    · intro w'
      go_simp
      with_reducible rfl
    rotate_left
    · simp only [Act.put, List.setIfInBounds_toArray, List.set_cons_zero, List.set_cons_succ, i64_w, i32_w]
      rfl
    refine pure_ (i := 2) (N := some 6) (v := ?_) (a' := ?_) #[false, true, true, false, false, false, false, false, false, false] rfl rfl (by kernel_rfl) (fun _ _ _ h => h) (Or.inl ⟨by rfl, ?_⟩) ?_ ?_
    rotate_left
    · intro w'
      go_simp
      with_reducible rfl
    rotate_left
    · simp only [Act.put, List.setIfInBounds_toArray, List.set_cons_zero, List.set_cons_succ, i64_w, i32_w]
      rfl
    refine pure_ (i := 3) (N := some 7) (v := ?_) (a' := ?_) #[false, true, true, true, false, false, false, false, false, false] rfl rfl (by kernel_rfl) (fun _ _ _ h => h) (Or.inl ⟨by rfl, ?_⟩) ?_ ?_
    rotate_left
    · intro w'
      go_simp
      with_reducible rfl
    rotate_left
    · simp only [Act.put, List.setIfInBounds_toArray, List.set_cons_zero, List.set_cons_succ, i64_w, i32_w]
      rfl
    refine take_ (i := 0) (N := some 4) (v := ?_) (a' := ?_) #[true, true, true, true, false, false, false, false, false, false] rfl rfl (by kernel_rfl) (fun _ _ _ h => h) (Or.inl ⟨by rfl, ?_⟩) hHeld ?_ ?_
    rotate_left
    · rintro w' ⟨s0, s1, s2⟩
      go_simp
      with_reducible rfl
    rotate_left
    · simp only [Act.put, List.setIfInBounds_toArray, List.set_cons_zero, List.set_cons_succ, i64_w, i32_w]
      rfl
    refine take_ (i := 4) (N := some 8) (v := ?_) (a' := ?_) #[true, true, true, true, true, false, false, false, false, false] rfl rfl (by kernel_rfl) (fun _ _ _ h => h) (Or.inl ⟨by rfl, ?_⟩) hHeld ?_ ?_
    rotate_left
    · rintro w' ⟨s0, s1, s2⟩
      go_simp
      with_reducible rfl
    rotate_left
    · simp only [Act.put, List.setIfInBounds_toArray, List.set_cons_zero, List.set_cons_succ, i64_w, i32_w]
      rfl
    refine pure_ (i := 5) (N := some 9) (v := ?_) (a' := ?_) #[true, true, true, true, true, true, false, false, false, false] rfl rfl (by kernel_rfl) (fun _ _ _ h => h) (Or.inl ⟨by rfl, ?_⟩) ?_ ?_
    rotate_left
    · intro w'
      go_simp
      with_reducible rfl
    rotate_left
    · simp only [Act.put, List.setIfInBounds_toArray, List.set_cons_zero, List.set_cons_succ, i64_w, i32_w]
      rfl
    refine pure_ (i := 6) (N := some 10) (v := ?_) (a' := ?_) #[true, true, true, true, true, true, true, false, false, false] rfl rfl (by kernel_rfl) (fun _ _ _ h => h) (Or.inl ⟨by rfl, ?_⟩) ?_ ?_
    rotate_left
    · intro w'
      go_simp
      with_reducible rfl
    rotate_left
    · simp only [Act.put, List.setIfInBounds_toArray, List.set_cons_zero, List.set_cons_succ, i64_w, i32_w]
      rfl
    refine take_ (i := 7) (N := some 11) (v := ?_) (a' := ?_) #[true, true, true, true, true, true, true, true, false, false] rfl rfl (by kernel_rfl) (fun _ _ _ h => h) (Or.inl ⟨by rfl, ?_⟩) hHeld ?_ ?_
    rotate_left
    · rintro w' ⟨s0, s1, s2⟩
      go_simp
      with_reducible rfl
    rotate_left
    · simp only [Act.put, List.setIfInBounds_toArray, List.set_cons_zero, List.set_cons_succ, i64_w, i32_w]
      rfl
    refine pure_ (i := 8) (N := some 12) (v := ?_) (a' := ?_) #[true, true, true, true, true, true, true, true, true, false] rfl rfl (by kernel_rfl) (fun _ _ _ h => h) (Or.inl ⟨by rfl, ?_⟩) ?_ ?_
    rotate_left
    · intro w'
      go_simp
      with_reducible rfl
    rotate_left
    · simp only [Act.put, List.setIfInBounds_toArray, List.set_cons_zero, List.set_cons_succ, i64_w, i32_w]
      rfl
    refine pure_ (i := 9) (N := some 3) (v := ?_) (a' := ?_) #[true, true, true, true, true, true, true, true, true, true] rfl rfl (by kernel_rfl) (fun _ _ _ h => h) (Or.inl ⟨by rfl, ?_⟩) ?_ ?_
    rotate_left
    · intro w'
      go_simp
      with_reducible rfl
    rotate_left
    · simp only [Act.put, List.setIfInBounds_toArray, List.set_cons_zero, List.set_cons_succ, i64_w, i32_w]
      rfl
    refine done_ (by kernel_rfl) ?_
    clear hHeld k0 k1 k2
    go_wp2
    go_ret
    rw [HD.out]
    exact ⟨rfl, HB.out⟩


end Go.Proofs.Ytbdmbkmokhaflaa.Q
end

section
-- written by hprint.py (a program of these sessions) out of the translation; Lean checks it
namespace Go.Proofs.Ytbdmbkmokhaflaa.Q
open Go.RowKit Go.Proofs.YtbdmbkmokhaflaaW.Hb Go.Proofs.YtbdmbkmokhaflaaW.PrintWords Go.Proofs.YtbdmbkmokhaflaaW.PrintLast Go.Proofs.YtbdmbkmokhaflaaW.PrintMore
attribute [local go_sem] max2_int min2_int max_two min_two max_three min_three max_four min_four   -- for this text's walks alone
set_option linter.unusedVariables false
set_option linter.unusedSimpArgs false

/-! ### shape_block_push: function 28, by hand -/
theorem infoPtr : (Try.prog.info? 50).map (fun i => (i.zero, i.size, i.bytes)) = some (some (.pointer none), 1, 8) := by kernel_rfl
def pv (g : Nat) : Value := .pointer (some ⟨g, 0, none⟩)
def kP : Kd Nat := Kd.scalar pv (fun _ => rfl)
/-- What a call changes, and how. -/
def Chg (w w' : World) (S : Nat → Prop) : Prop := Below 0 w w' ∧ Kept w w' S
theorem Chg.refl (w : World) (S : Nat → Prop) : Chg w w S := ⟨Below.refl _ _, Kept.refl _ _⟩
theorem Chg.of_below {w w' : World} (h : Below w.heap.size w w') (S : Nat → Prop) : Chg w w' S := ⟨h.mono (Nat.zero_le _), Kept.of_below h S⟩
theorem Chg.mono {w w' : World} {S S' : Nat → Prop} (h : Chg w w' S) (hs : ∀ k, S k → S' k) : Chg w w' S' := ⟨h.1, h.2.mono hs⟩
theorem Chg.then_ {w w' w2 : World} {S S2 : Nat → Prop} (h : Chg w w' S) (k : Chg w' w2 S2) (hs : ∀ k, S2 k → S k ∨ w.heap.size ≤ k) : Chg w w2 S := ⟨h.1.trans k.1, h.2.then_ k.2 hs⟩
theorem Chg.below {w w' : World} {S : Nat → Prop} {B : Nat} (h : Chg w w' S) (hB : B ≤ w.heap.size) (hS : ∀ k, S k → B ≤ k) : Below B w w' :=
  ⟨h.1.os, h.1.tape, h.1.output, h.1.size, fun k hk => h.2.2 k (by omega) (fun hs => by have := hS k hs; omega)⟩
theorem Chg.set_ (w : World) (p : Addr) (u : Value) : Chg w (w.setCell p u) (fun k => k = p.block) := ⟨(Below.refl 0 w).setCell (Nat.zero_le _) u, Kept.setCell (S := fun k => k = p.block) (Kept.refl w _) (.inl rfl) u⟩
theorem Chg.size {w w' : World} {S : Nat → Prop} (h : Chg w w' S) : w.heap.size ≤ w'.heap.size := h.2.1
theorem cellS {w w' : World} {S : Nat → Prop} {a : Addr} {v : Value} (hc : w.cell? a = some v) (hk : Kept w w' S) (hne : ¬ S a.block) : w'.cell? a = some v := by
  have := hk.2 a.block (World.block_lt_of_cell? w a hc) hne
  simpa [World.cell?, this] using hc
theorem at_P {w : World} {A : Option Addr} {n : Nat} {ps : List Nat} (h : kP.C w A n ps) (i : Nat) (hi : i < ps.length) : ∃ ad, A = some ad ∧ w.cell? (ad.add i) = some (pv ps[i]) := by
  obtain ⟨ad, e, hc⟩ := ReadsOf.at_ (Kd.reads_of_C (enc := pv) (d := 0) (h1 := fun _ => rfl) h) i (by omega) (by have := h.1; omega)
  refine ⟨ad, e, ?_⟩
  rw [Int.toNat_natCast] at hc
  rw [hc]
  simp [rdOf, List.getD_eq_getElem?_getD, hi]
set_option maxRecDepth 100000 in
set_option maxHeartbeats 1000000 in
theorem shape_block_push.calls (w : World) (gs p base : Nat) (vo : Value) (ps : List Nat) (ok : Nat → Prop) (hb : Blk w gs 56 #[vo]) (hr : kP.R 50 w base ok vo ps) (hg : ¬ ok gs) (hbase : base ≤ w.heap.size) (hl : ps.length ≤ 1048576) :
    Calls Try.prog 28 #[.pointer (some ⟨gs, 0, none⟩), .pointer (some ⟨p, 0, none⟩)] w fun e w' => e = .returned (.tuple #[]) ∧ ∃ v', Blk w' gs 56 #[v'] ∧ kP.R 50 w' base (fun k => ok k ∨ w.heap.size ≤ k) v' (ps ++ [p]) ∧ Chg w w' (fun k => k = gs ∨ ok k) := by
  obtain ⟨A, c, rfl, hc, _⟩ := Kd.R_reads hr
  have h0 : w.cell? ⟨gs, 0, none⟩ = some (.slice A ps.length c) := hb.cell 0
  have HR := Aside0.mk (Kd.R_mono (ok' := fun k => ok k ∨ w.heap.size ≤ k) (Kd.R_alloc hr (.cells #[.pointer (some ⟨p, 0, none⟩)] 50)) (fun k hk => .inl hk))
  have HO := Aside0.mk hr
  have HB := Aside0.mk (hb.alloc (.cells #[.pointer (some ⟨p, 0, none⟩)] 50))
  have HW := Aside0.mk ((Below.refl 0 w).alloc (Nat.zero_le _) (.cells #[.pointer (some ⟨p, 0, none⟩)] 50))
  have HK := Aside0.mk (Kept.alloc (Kept.refl w (fun k => k = gs ∨ ok k)) (.cells #[.pointer (some ⟨p, 0, none⟩)] 50))
  have HC := Aside0.mk (C_of_reps (d := kP) (Blk.new w 50 #[.pointer (some ⟨p, 0, none⟩)]) [p] (Reps_one (c := [.pointer (some ⟨p, 0, none⟩)]) rfl rfl) (by simp))
  have HBW := Aside0.mk ((Below.refl base w).alloc hbase (.cells #[.pointer (some ⟨p, 0, none⟩)] 50))
  have hgl := hb.lt
  have HG := Aside0.mk hg
  have HL := Aside0.mk (show (ps.length + ([p] : List Nat).length) * 8 ≤ 140737488355328 by simp only [List.length_singleton]; omega)
  clear hb hr hg
  go_enter Try.func28, Try.ntmps28
  go_wp2_with ((with_reducible refine gate_builtin (b := .append) (xs := #[.tmp 8, .tmp 10]) rfl ?_); at_builtin; refine Kd.R_append_rows kP (w0 := w) (Rr := kP.K (w.alloc (.cells #[.pointer (some ⟨p, 0, none⟩)] 50))) base rfl (.tmp 8) (.tmp 10) 46 50 (.pointer none) 8 rfl Try.underlying46 infoPtr rfl (Nat.zero_lt_one) (by omega) (.slice A ps.length c) ps [p] (some ⟨w.heap.size, 0, none⟩) 1 1 (fun k => ok k ∨ w.heap.size ≤ k) (fun _ => False) rfl rfl HR.out HC.out (fun x cs hK => hK) (fun _ hk => hk.elim) (fun k hk => .inr (by simp at hk; omega)) HBW.out (Nat.le_trans hbase HBW.out.size) HL.out ?_; intro v3 w3 hR3 hB3 hG3 hA3; obtain ⟨A3, c3, rfl⟩ := Kd.R_slice hR3; have HR3 := Aside0.mk hR3; have HG3 := Aside0.mk hG3; have HB3 := Aside0.mk hB3; have hb3 : Blk w3 gs 56 #[.slice A ps.length c] := HB.out.grown hG3 (fun he => HG.out (HO.out.1 gs he.symm)); have q3 : w3.cell? ⟨gs, 0, none⟩ = some (.slice A ps.length c) := hb3.cell 0; have f3 : w3.frozen? ⟨gs, 0, none⟩ = false := hb3.frozen 0; have HBb := Aside0.mk hb3; clear hR3 hG3 hB3 hA3 hb3)
  refine bodyPost_end (results_none rfl _ _ _) rfl ?_
  refine ⟨rfl, _, by simpa using HBb.out.set_ 0 (.slice A3 (ps ++ [p]).length c3), Kd.R_far HR3.out (p := ⟨gs, 0, none⟩) (fun k hk => ?_) _, ?_⟩
  · intro he
    replace he : k = gs := he
    rcases hk with hk | hk
    · rw [he] at hk
      exact HG.out hk
    · replace hk : w.heap.size ≤ k := hk
      omega
  · have hk3 : Chg w w3 (fun k => k = gs ∨ ok k) := ⟨⟨HG3.out.os.trans HW.out.os, HG3.out.tape.trans HW.out.tape, HG3.out.output.trans HW.out.output, Nat.le_trans HW.out.size HG3.out.size, fun k hk => absurd hk (Nat.not_lt_zero k)⟩, Kept.of_grown HG3.out HK.out (fun k hk => .inl (.inr (HO.out.1 k hk)))⟩
    exact hk3.then_ (Chg.set_ w3 ⟨gs, 0, none⟩ _) (fun k hk => .inl (.inl hk))


end Go.Proofs.Ytbdmbkmokhaflaa.Q
end

section
-- written by hprint.py (a program of these sessions) out of the translation; Lean checks it
namespace Go.Proofs.Ytbdmbkmokhaflaa.Q
open Go.RowKit Go.Proofs.YtbdmbkmokhaflaaW.Hb Go.Proofs.YtbdmbkmokhaflaaW.PrintWords Go.Proofs.YtbdmbkmokhaflaaW.PrintLast Go.Proofs.YtbdmbkmokhaflaaW.PrintMore
attribute [local go_sem] max2_int min2_int max_two min_two max_three min_three max_four min_four   -- for this text's walks alone
set_option linter.unusedVariables false
set_option linter.unusedSimpArgs false

/-! ### shape_block: function 33, by hand -/
theorem shape_block.calls (w : World) (A : Option Addr) (n c : Nat) : Calls Try.prog 33 #[.slice A n c] w fun e w' => e = .returned (.func (.func 36) #[] #[.pointer (some ⟨w.heap.size, 0, none⟩)]) ∧ w' = w.alloc (.cells #[.slice A n c] 46) := by
  go_enter Try.func33, Try.ntmps33
  go_wp2
  go_ret
  exact ⟨rfl, rfl⟩


end Go.Proofs.Ytbdmbkmokhaflaa.Q
end

section
-- written by hprint.py (a program of these sessions) out of the translation; Lean checks it
namespace Go.Proofs.Ytbdmbkmokhaflaa.Q
open Go.RowKit Go.Proofs.YtbdmbkmokhaflaaW.Hb Go.Proofs.YtbdmbkmokhaflaaW.PrintWords Go.Proofs.YtbdmbkmokhaflaaW.PrintLast Go.Proofs.YtbdmbkmokhaflaaW.PrintMore
attribute [local go_sem] max2_int min2_int max_two min_two max_three min_three max_four min_four   -- for this text's walks alone
set_option linter.unusedVariables false
set_option linter.unusedSimpArgs false

/-! ### shape_block__lit1_36: function 36, by hand -/
/-- The numbers of n things, from the last on, so many of them. -/
def bwN (n k : Nat) : List Nat := (List.range k).map (fun r => n - 1 - r)
theorem bwN_succ (n k : Nat) : bwN n (k + 1) = bwN n k ++ [n - 1 - k] := by simp [bwN, List.range_succ]
def encB (ps : List Nat) (x : Fin ps.length) : Array Value := #[.int .i64 (x.val : Int), .pointer (some ⟨ps[x.val], 0, none⟩)]
attribute [local go_sem] Oper.semAt_some in
set_option maxRecDepth 100000 in
set_option maxHeartbeats 2000000 in
theorem shape_block__lit1_36.stops (F : Fence) (n : Nat) (h36 : F.fn 36) (hro : F.round = none) (hn : 1 ≤ n) (Bs n₀ : Nat) (A : Option Addr) (c : Nat) (ps : List Nat) (w : World) (hBs : Bs < n₀) (hn₀ : n₀ ≤ w.heap.size) (hbox : w.cell? ⟨Bs, 0, none⟩ = some (.slice A ps.length c)) (hC : Kd.C kP w A ps.length ps) (hA : ∀ ad, A = some ad → ad.block < n₀) :
    SeqStopsK F n Try.prog 36 #[.pointer (some ⟨Bs, 0, none⟩)] (encB ps) (Below n₀) (fun ys => ys.map Fin.val = bwN ps.length ps.length) (fun pre => ∃ k, k ≤ ps.length ∧ pre.map Fin.val = bwN ps.length k) ps.length w := fun l J Jx W hW _ _ hY h0 => by
  have hbox' := (hW.cell (p := ⟨Bs, 0, none⟩) (Nat.lt_of_lt_of_le hBs hn₀)).trans hbox
  have hm : ps.length ≤ 9223372036854775807 := hC.2.1
  have HC := Aside0.mk hC
  refine callsIn_of_wp Try.func36 rfl h36 ?_ hro
  simp only [Try.ntmps36, List.size_toArray, List.length_cons, List.length_nil, Nat.reduceAdd, Nat.reduceSub, Array.replicate_succ, Array.replicate_zero, List.push_toArray, List.append_toArray, List.nil_append, List.cons_append]
  have hw0 : wrap64 ((ps.length : Int) - 1) = (ps.length : Int) - 1 := by unfold wrap64; omega
  clear hC
  gi_wp2
  clear hw0
  gi_loopw [3] (fun i wr => ∃ (k : Nat) (pre : List (Fin ps.length)), k ≤ ps.length ∧ i = .int .i64 ((ps.length : Int) - 1 - k) ∧ pre.map Fin.val = bwN ps.length k ∧ J pre wr ∧ Below n₀ W wr) (fun i _ => (intOf i + 1).toNat)
  case atStart => exact ⟨0, [], Nat.zero_le _, by simp, rfl, h0, Below.refl _ _⟩
  case round =>
    obtain ⟨k, pre, hk, rfl, hpre, hJs, hnx⟩ := hrel
    have hlp : pre.length = k := by have := congrArg List.length hpre; simpa [bwN] using this
    have hbx : wr.cell? ⟨Bs, 0, none⟩ = some (.slice A ps.length c) := (hnx.cell (p := ⟨Bs, 0, none⟩) hBs).trans hbox'
    by_cases hlt : k < ps.length
    · obtain ⟨m, hmm⟩ : ∃ m : Nat, m + k + 1 = ps.length := ⟨ps.length - 1 - k, by omega⟩
      have hi : (ps.length : Int) - 1 - k = (m : Int) := by omega
      rw [hi]
      obtain ⟨ad, e, hcell⟩ := at_P HC.out m (by omega)
      subst e
      have hbl := hA ad rfl
      have hcx : wr.cell? (ad.add m) = some (.pointer (some ⟨ps[m], 0, none⟩)) := ((hnx.cell (p := ad.add m) (by rw [add_block]; exact hbl)).trans (hW.cell (p := ad.add m) (by rw [add_block]; omega))).trans hcell
      obtain ⟨fn, tmps, assign, body, hy, hR⟩ := hY pre ⟨m, by omega⟩ wr hJs (by omega)
      dsimp only [encB] at hy
      have q1 : (m : Int) < (ps.length : Int) := by omega
      have hwm : wrap64 ((m : Int) - 1) = (m : Int) - 1 := by unfold wrap64; omega
      have hpn : pre.map Fin.val ++ [m] = bwN ps.length (k + 1) := by rw [bwN_succ, hpre]; congr 2; omega
      clear hcell hi
      gi_wp2
      refine hR.mono ?_
      rintro e W3 (⟨rfl, hJ3, hk3⟩ | ⟨rfl, hJx3⟩)
      · gi_wp2
        go_roundw
        case rel => exact ⟨k + 1, pre ++ [⟨m, by omega⟩], by omega, by congr 1; omega, by rw [List.map_append]; exact hpn, hJ3, hnx.trans hk3⟩
        case measure => first | (simp [intOf]; done) | (simp [intOf]; omega)
      · gi_wp2
        refine bodyPost_ret (results_none rfl _ _ _) rfl ?_
        exact ⟨⟨_, rfl⟩, .inr ⟨pre ++ [⟨m, by omega⟩], ⟨k + 1, by omega, by rw [List.map_append]; exact hpn⟩, hJx3⟩⟩
    · obtain rfl : k = ps.length := by omega
      have hi : (ps.length : Int) - 1 - (ps.length : Int) = -1 := by omega
      rw [hi]
      gi_wp2
      go_end0
      exact ⟨⟨_, rfl⟩, .inl ⟨pre, hpre, hJs⟩⟩


end Go.Proofs.Ytbdmbkmokhaflaa.Q
end

section
-- written by hprint.py (a program of these sessions) out of the translation; Lean checks it
namespace Go.Proofs.Ytbdmbkmokhaflaa.Q
open Go.RowKit Go.Proofs.YtbdmbkmokhaflaaW.Hb Go.Proofs.YtbdmbkmokhaflaaW.PrintWords Go.Proofs.YtbdmbkmokhaflaaW.PrintLast Go.Proofs.YtbdmbkmokhaflaaW.PrintMore
attribute [local go_sem] max2_int min2_int max_two min_two max_three min_three max_four min_four   -- for this text's walks alone
set_option linter.unusedVariables false
set_option linter.unusedSimpArgs false

/-! ### shape_block_find: function 29, by hand -/
/-- Is the block that frame j stands for a loop? -/
def loopAt (cs : List Ins) (ats : List Nat) (j : Nat) : Bool := decide ((cs[ats[j]?.getD 0]?.getD ⟨0, 0⟩).f0 = 51)
/-- The topmost that fits. -/
def topLoop (cs : List Ins) (ats : List Nat) : Option Nat := ((List.range ats.length).reverse).find? (loopAt cs ats)
theorem topLoop_some {cs : List Ins} {ats : List Nat} {j : Nat} (hj : j < ats.length) (h1 : loopAt cs ats j = true) (h2 : ∀ i, j < i → i < ats.length → loopAt cs ats i = false) : topLoop cs ats = some j := by
  unfold topLoop
  rw [List.find?_eq_some_iff_append]
  refine ⟨h1, ((List.range ats.length).drop (j + 1)).reverse, ((List.range ats.length).take j).reverse, ?_, ?_⟩
  · conv => lhs; rw [← List.take_append_drop (j + 1) (List.range ats.length), List.reverse_append, List.take_succ_eq_append_getElem (by simpa using hj), List.reverse_append]
    simp
  · intro i hi
    rw [List.mem_reverse] at hi
    obtain ⟨q, hq, rfl⟩ := List.getElem_of_mem hi
    simp only [List.length_drop, List.length_range] at hq
    simp only [List.getElem_drop, List.getElem_range]
    rw [h2 _ (by omega) (by omega)]
    rfl
theorem topLoop_none {cs : List Ins} {ats : List Nat} (h : ∀ i, i < ats.length → loopAt cs ats i = false) : topLoop cs ats = none := by
  unfold topLoop
  rw [List.find?_eq_none]
  intro i hi
  rw [List.mem_reverse, List.mem_range] at hi
  rw [h i hi]
  decide
def findRes (ps : List Nat) : Option Nat → Value
  | none => .tuple #[.pointer none, .bool false]
  | some j => .tuple #[.pointer (some ⟨ps[j]?.getD 0, 0, none⟩), .bool true]
theorem bwN_mem {n k i : Nat} (hk : k ≤ n) : i ∈ bwN n k ↔ n - k ≤ i ∧ i < n := by
  simp only [bwN, List.mem_map, List.mem_range]
  constructor
  · rintro ⟨r, hr, rfl⟩; omega
  · rintro ⟨h1, h2⟩; exact ⟨n - 1 - i, by omega, by omega⟩
attribute [local go_sem] Oper.semAt_some in
set_option maxRecDepth 100000 in
set_option maxHeartbeats 4000000 in
theorem shape_block_find.calls (w : World) (gs bc : Nat) (A Ac : Option Addr) (c cc : Nat) (ps ats : List Nat) (cs : List Ins) (hlen : ats.length = ps.length) (hb : w.cell? ⟨gs, 0, none⟩ = some (.slice A ps.length c)) (hC : Kd.C kP w A ps.length ps) (hbc : w.cell? ⟨bc, 0, none⟩ = some (.slice Ac cs.length cc)) (hr : Kd.C k31 w Ac cs.length cs) (hA : ∀ ad, A = some ad → ad.block < w.heap.size) (hcl : ∀ j (hj : j < ps.length) (hj2 : j < ats.length), w.cell? ⟨ps[j], 0, none⟩ = some (.int .i64 ats[j]) ∧ ats[j] < cs.length) :
    Calls Try.prog 29 #[.pointer (some ⟨gs, 0, none⟩), .func (.func 30) #[] #[.pointer (some ⟨bc, 0, none⟩)]] w fun e w' => e = .returned (findRes ps (topLoop cs ats)) ∧ Below w.heap.size w w' := by
  refine (callsIn_wide (n := 6)).1 ?_
  have hro : Fence.wide.round = none := rfl
  refine callsIn_of_wp_marks Try.func29 rfl trivial ?_ hro
  simp only [Try.ntmps29, List.size_toArray, List.length_cons, List.length_nil, Nat.reduceAdd, Nat.reduceSub, Array.replicate_succ, Array.replicate_zero, List.push_toArray, List.append_toArray, List.nil_append, List.cons_append]
  have hgl : gs < w.heap.size := World.block_lt_of_cell? w _ hb
  have HC := Aside0.mk hC
  have HR := Aside0.mk hr
  have HCL := Aside0.mk hcl
  have HBC := Aside0.mk hbc
  have HA := Aside0.mk hA
  have hb3 : (((w.alloc (.cells #[.func (.func 30) #[] #[.pointer (some ⟨bc, 0, none⟩)]] 60)).alloc (.cells #[.pointer none] 50)).alloc (.cells #[.bool false] 4)).cell? ⟨gs, 0, none⟩ = some (.slice A ps.length c) := cell_allocd (cell_allocd (cell_allocd hb _) _) _
  clear hC hr hcl hbc hA hb
  gi_wp2_with (refine ⟨trivial, ?_⟩; gi_at_call 33; refine (callsIn_wide.2 (shape_block.calls _ A ps.length c)).mono ?_; rintro e w' ⟨rfl, rfl⟩)
  have g0 := Blk.new w 60 #[.func (.func 30) #[] #[.pointer (some ⟨bc, 0, none⟩)]]
  have g1 := Blk.new (w.alloc (.cells #[.func (.func 30) #[] #[.pointer (some ⟨bc, 0, none⟩)]] 60)) 50 #[.pointer none]
  have g2 := Blk.new ((w.alloc (.cells #[.func (.func 30) #[] #[.pointer (some ⟨bc, 0, none⟩)]] 60)).alloc (.cells #[.pointer none] 50)) 4 #[.bool false]
  have g3 := Blk.new (((w.alloc (.cells #[.func (.func 30) #[] #[.pointer (some ⟨bc, 0, none⟩)]] 60)).alloc (.cells #[.pointer none] 50)).alloc (.cells #[.bool false] 4)) 46 #[.slice A ps.length c]
  simp only [World.size_alloc] at g1 g2 g3
  have g0 := (((g0.alloc (.cells #[.pointer none] 50)).alloc (.cells #[.bool false] 4)).alloc (.cells #[.slice A ps.length c] 46))
  have g1 := ((g1.alloc (.cells #[.bool false] 4)).alloc (.cells #[.slice A ps.length c] 46))
  have g2 := g2.alloc (.cells #[.slice A ps.length c] 46)
  have hB0 : Below w.heap.size w ((((w.alloc (.cells #[.func (.func 30) #[] #[.pointer (some ⟨bc, 0, none⟩)]] 60)).alloc (.cells #[.pointer none] 50)).alloc (.cells #[.bool false] 4)).alloc (.cells #[.slice A ps.length c] 46)) := ((((Below.refl _ w).alloc (Nat.le_refl _) _).alloc (by simp) _).alloc (by simp; omega) _).alloc (by simp; omega) _
  have hs0 : ((((w.alloc (.cells #[.func (.func 30) #[] #[.pointer (some ⟨bc, 0, none⟩)]] 60)).alloc (.cells #[.pointer none] 50)).alloc (.cells #[.bool false] 4)).alloc (.cells #[.slice A ps.length c] 46)).heap.size = w.heap.size + 1 + 1 + 1 + 1 := by simp
  clear hb3
  generalize ((((w.alloc (.cells #[.func (.func 30) #[] #[.pointer (some ⟨bc, 0, none⟩)]] 60)).alloc (.cells #[.pointer none] 50)).alloc (.cells #[.bool false] 4)).alloc (.cells #[.slice A ps.length c] 46)) = W0 at g0 g1 g2 g3 hB0 hs0 ⊢
  refine wpIn_rangeFunc_ownF hro (by omega) (gf := 36) (lb := #[.pointer (some ⟨w.heap.size + 1 + 1 + 1, 0, none⟩)]) rfl trivial (enters_of Try.func36 (by kernel_rfl) rfl)
    (shape_block__lit1_36.stops Fence.wide (6 - 1) trivial hro (by omega) (w.heap.size + 1 + 1 + 1) W0.heap.size A c ps W0 (by omega) (Nat.le_refl _) (g3.cell 0) (Kd.C_below HC.out hB0) (fun ad e => by have := HA.out ad e; omega)) belowK_t (belowK_b (Nat.le_refl _)) (Below.refl _ _) (fun _ => rfl)
    (fun pre W => ((∀ y ∈ pre, loopAt cs ats y.val = false) ∧ W.cell? ⟨w.heap.size, 0, none⟩ = some (.func (.func 30) #[] #[.pointer (some ⟨bc, 0, none⟩)]) ∧ W.cell? ⟨w.heap.size + 1, 0, none⟩ = some (.pointer none) ∧ W.frozen? ⟨w.heap.size + 1, 0, none⟩ = false ∧ W.cell? ⟨w.heap.size + 1 + 1, 0, none⟩ = some (.bool false) ∧ W.frozen? ⟨w.heap.size + 1 + 1, 0, none⟩ = false) ∧ Below w.heap.size W0 W)
    (fun cd pre W => (cd = .ret ∧ ∃ (pr : List (Fin ps.length)) (y : Fin ps.length), pre = pr ++ [y] ∧ (∀ z ∈ pr, loopAt cs ats z.val = false) ∧ loopAt cs ats y.val = true ∧ W.cell? ⟨w.heap.size + 1, 0, none⟩ = some (.pointer (some ⟨ps[y.val], 0, none⟩)) ∧ W.cell? ⟨w.heap.size + 1 + 1, 0, none⟩ = some (.bool true)) ∧ Below w.heap.size W0 W)
    (OwnFrom.and (Own.from (fun s A B row hs hg hr => ⟨hs.1, cell_kept hs.2.1 hg hr, cell_kept hs.2.2.1 hg hr, (frozen_kept hs.2.2.1 hg hr).trans hs.2.2.2.1, cell_kept hs.2.2.2.2.1 hg hr, (frozen_kept hs.2.2.2.2.1 hg hr).trans hs.2.2.2.2.2⟩) _) (ownFrom_below (by omega) (by omega)))
    (fun cd => OwnFrom.and (Own.from (fun s A B row hs hg hr => by
      obtain ⟨h1, pr, y, h2, h3, h4, h5, h6⟩ := hs
      exact ⟨h1, pr, y, h2, h3, h4, cell_kept h5 hg hr, cell_kept h6 hg hr⟩) _) (ownFrom_below (by omega) (by omega)))
    ⟨⟨by simp, g0.cell 0, g1.cell 0, g1.frozen 0, g2.cell 0, g2.frozen 0⟩, Below.refl _ _⟩
    (fun x => { tmps := #[.pointer (some ⟨gs, 0, none⟩), .func (.func 30) #[] #[.pointer (some ⟨bc, 0, none⟩)], undef, .pointer (some ⟨w.heap.size, 0, none⟩), .pointer (some ⟨w.heap.size + 1, 0, none⟩), .pointer (some ⟨w.heap.size + 1 + 1, 0, none⟩), undef, .pointer (some ⟨ps[x.val], 0, none⟩), .pointer (some ⟨gs, 0, none⟩), .pointer (some ⟨gs, 0, none⟩), .pointer (some ⟨gs, 0, none⟩), .slice A ps.length c, .func (.func 36) #[] #[.pointer (some ⟨w.heap.size + 1 + 1 + 1, 0, none⟩)], .int .i64 (x.val : Int), .pointer (some ⟨ps[x.val], 0, none⟩), undef, undef, undef, undef, undef], defers := [] }) ?assign ?body ?done ?stop
  case assign =>
    intro l x W K hK
    unfold encB
    gi_wp2
    exact hK
  case body =>
    rintro l pre x W ⟨⟨hp, hf0, hc1, hf1, hc2, hf2⟩, hB⟩ _
    have hBW : Below w.heap.size w W := hB0.trans hB
    have kbc : W.cell? ⟨bc, 0, none⟩ = some (.slice Ac cs.length cc) := (hBW.cell (p := ⟨bc, 0, none⟩) (World.block_lt_of_cell? w _ HBC.out)).trans HBC.out
    obtain ⟨hx1, hx2⟩ := HCL.out x.val x.isLt (by omega)
    have kx : W.cell? ⟨ps[x.val], 0, none⟩ = some (.int .i64 ats[x.val]) := (hBW.cell (p := ⟨ps[x.val], 0, none⟩) (World.block_lt_of_cell? w _ hx1)).trans hx1
    have HS := Aside0.mk (shape_scan_lit1_30.calls W bc ps[x.val] Ac cc cs ats[x.val] kbc (Kd.C_below HR.out hBW) kx hx2)
    have hla : loopAt cs ats x.val = decide (cs[ats[x.val]].f0 = 51) := by
      unfold loopAt
      rw [List.getElem?_eq_getElem (by omega : x.val < ats.length), Option.getD_some, List.getElem?_eq_getElem hx2, Option.getD_some]
    have hsz : W0.heap.size ≤ W.heap.size := hB.size
    have HBB := Aside0.mk hB
    clear kbc kx hx1 hBW hB
    have keep : ∀ {w' : World}, Below W.heap.size W w' → KeepsOthers W w' := fun {w'} h => ⟨h.size, fun k o hk _ => (h.block k (Array.getElem?_eq_some_iff.1 hk).1).trans hk⟩
    have fz : ∀ {w' : World} (g : Nat), Below W.heap.size W w' → g < W.heap.size → W.frozen? ⟨g, 0, none⟩ = false → w'.frozen? ⟨g, 0, none⟩ = false := fun {w'} g h hg e => (h.frozen hg).trans e
    by_cases hq : cs[ats[x.val]].f0 = 51
    · have HL := Aside0.mk (hla.trans (decide_eq_true hq))
      have hd := decide_eq_true hq
      rw [hd] at HS
      clear hla hq hd
      gi_wp2_with (refine ⟨trivial, ?_⟩; gi_at_call 30; refine (CallsIn.inRound l (callsIn_wide.2 HS.out)).mono ?_; rintro e w' ⟨rfl, hw'⟩; have hz1 := (hw'.frozen (p := ⟨w.heap.size + 1, 0, none⟩) (by show w.heap.size + 1 < _; omega)).trans hf1; have hz2 := (hw'.frozen (p := ⟨w.heap.size + 1 + 1, 0, none⟩) (by show w.heap.size + 1 + 1 < _; omega)).trans hf2; have hy1 := (hw'.cell (p := ⟨w.heap.size + 1, 0, none⟩) (by show w.heap.size + 1 < _; omega)).trans hc1; have hy2 := (hw'.cell (p := ⟨w.heap.size + 1 + 1, 0, none⟩) (by show w.heap.size + 1 + 1 < _; omega)).trans hc2)
      refine ⟨(keep hw').trans ((KeepsOthers.setCell _ _ _).trans (KeepsOthers.setCell _ _ _)), ⟨rfl, pre, x, rfl, hp, HL.out, ?_, ?_⟩, ?_⟩
      · exact (World.cell?_setCell_other _ _ _ _ (by simp)).trans (World.cell?_setCell_same' _ _ _ (by rw [hy1]; rfl))
      · exact World.cell?_setCell_same' _ _ _ (by rw [World.cell?_setCell_other _ _ _ _ (by simp), hy2]; rfl)
      · exact ((HBB.out.trans (hw'.mono (by omega))).setCell (p := ⟨w.heap.size + 1, 0, none⟩) (by simp) _).setCell (p := ⟨w.heap.size + 1 + 1, 0, none⟩) (by simp; omega) _
    · have HL := Aside0.mk (hla.trans (decide_eq_false hq))
      have hd := decide_eq_false hq
      rw [hd] at HS
      clear hla hq hd
      gi_wp2_with (refine ⟨trivial, ?_⟩; gi_at_call 30; refine (CallsIn.inRound l (callsIn_wide.2 HS.out)).mono ?_; rintro e w' ⟨rfl, hw'⟩; have hz1 := (hw'.frozen (p := ⟨w.heap.size + 1, 0, none⟩) (by show w.heap.size + 1 < _; omega)).trans hf1; have hz2 := (hw'.frozen (p := ⟨w.heap.size + 1 + 1, 0, none⟩) (by show w.heap.size + 1 + 1 < _; omega)).trans hf2; have hy1 := (hw'.cell (p := ⟨w.heap.size + 1, 0, none⟩) (by show w.heap.size + 1 < _; omega)).trans hc1; have hy2 := (hw'.cell (p := ⟨w.heap.size + 1 + 1, 0, none⟩) (by show w.heap.size + 1 + 1 < _; omega)).trans hc2)
      refine ⟨keep hw', hw'.mono hsz, ⟨fun y hy => ?_, (hw'.cell (p := ⟨w.heap.size, 0, none⟩) (by show w.heap.size < _; omega)).trans hf0, hy1, hz1, hy2, hz2⟩, HBB.out.trans (hw'.mono (by omega))⟩
      rcases List.mem_append.1 hy with h | h
      · exact hp y h
      · rw [List.mem_singleton.1 h]
        exact HL.out
  case done =>
    rintro D ys W hD hys ⟨⟨hp, hf0, hc1, hf1, hc2, hf2⟩, hB⟩ hK
    gi_wp2
    have hK' : ((W.setCell ⟨w.heap.size + 1, 0, none⟩ (.pointer none)).setCell ⟨w.heap.size + 1 + 1, 0, none⟩ (.bool false)).heap[D]? = some (.deferred (some [])) := ((KeepsOthers.setCell W ⟨w.heap.size + 1, 0, none⟩ (.pointer none)).trans (KeepsOthers.setCell _ ⟨w.heap.size + 1 + 1, 0, none⟩ (.bool false))).same D _ hK rfl
    refine ⟨by simp, .inl ⟨_, _, rfl, run_takeDeferred hK', ?_⟩⟩
    have hc5 := cell_kept (World.cell?_setCell_same' (W.setCell ⟨w.heap.size + 1, 0, none⟩ (.pointer none)) ⟨w.heap.size + 1 + 1, 0, none⟩ (.bool false) (by rw [World.cell?_setCell_other _ _ _ _ (by simp), hc2]; rfl)) (grownBy_putObj' _ D (.deferred none)) (fun r e => by cases e; exact ⟨_, hK', rfl⟩)
    have hc4 := cell_kept ((World.cell?_setCell_other (w := W.setCell ⟨w.heap.size + 1, 0, none⟩ (.pointer none)) (a := ⟨w.heap.size + 1 + 1, 0, none⟩) (b := ⟨w.heap.size + 1, 0, none⟩) (v := .bool false) (by simp)).trans (World.cell?_setCell_same' W ⟨w.heap.size + 1, 0, none⟩ (.pointer none) (by rw [hc1]; rfl))) (grownBy_putObj' _ D (.deferred none)) (fun r e => by cases e; exact ⟨_, hK', rfl⟩)
    have htn : topLoop cs ats = none := topLoop_none fun i hi => by
      have hm : i ∈ ys.map Fin.val := by rw [hys, bwN_mem (Nat.le_refl _)]; omega
      obtain ⟨y, hy, rfl⟩ := List.mem_map.1 hm
      exact hp y hy
    refine ⟨.tuple #[.pointer none, .bool false], ?_, by rw [htn]; rfl, (((hB0.trans hB).setCell (p := ⟨w.heap.size + 1, 0, none⟩) (by simp) _).setCell (p := ⟨w.heap.size + 1 + 1, 0, none⟩) (by simp; omega) _).trans (belowK_b (w := w) (Nat.le_refl _) _ D _ _ (by omega) hK' rfl rfl)⟩
    simp [results, Try.f29, go_sem, hc5, hc4]
  case stop =>
    rintro D cd pre W hD hpre ⟨⟨rfl, pr, y, hpy, hp, hq, hc1, hc2⟩, hB⟩ hK
    gi_wp2
    refine ⟨by simp, .inl ⟨_, _, rfl, run_takeDeferred hK, ?_⟩⟩
    have hc5 := cell_kept hc2 (grownBy_putObj' _ D (.deferred none)) (fun r e => by cases e; exact ⟨_, hK, rfl⟩)
    have hc4 := cell_kept hc1 (grownBy_putObj' _ D (.deferred none)) (fun r e => by cases e; exact ⟨_, hK, rfl⟩)
    have htn : topLoop cs ats = some y.val := by
      obtain ⟨k, hk, hpk⟩ := hpre
      rw [hpy, List.map_append] at hpk
      have hlk : pr.length + 1 = k := by have := congrArg List.length hpk; simpa [bwN] using this
      rw [← hlk, bwN_succ] at hpk
      obtain ⟨h1, h2⟩ := List.append_inj hpk (by simp [bwN])
      have hyv : y.val = ps.length - 1 - pr.length := by simpa using h2
      refine topLoop_some (by omega) hq fun i hi1 hi2 => ?_
      have hm : i ∈ pr.map Fin.val := by rw [h1, bwN_mem (by omega)]; omega
      obtain ⟨z, hz, rfl⟩ := List.mem_map.1 hm
      exact hp z hz
    refine ⟨.tuple #[.pointer (some ⟨ps[y.val], 0, none⟩), .bool true], ?_, by rw [htn]; simp [findRes], (hB0.trans hB).trans (belowK_b (w := w) (Nat.le_refl _) W D _ _ (by omega) hK rfl rfl)⟩
    simp [results, Try.f29, go_sem, hc5, hc4]


end Go.Proofs.Ytbdmbkmokhaflaa.Q
end

section
-- written by hprint.py (a program of these sessions) out of the translation; Lean checks it
namespace Go.Proofs.Ytbdmbkmokhaflaa.Q
open Go.RowKit Go.Proofs.YtbdmbkmokhaflaaW.Hb Go.Proofs.YtbdmbkmokhaflaaW.PrintWords Go.Proofs.YtbdmbkmokhaflaaW.PrintLast Go.Proofs.YtbdmbkmokhaflaaW.PrintMore
attribute [local go_sem] max2_int min2_int max_two min_two max_three min_three max_four min_four   -- for this text's walks alone
set_option linter.unusedVariables false
set_option linter.unusedSimpArgs false

/-! ### bits_Mul64: function 35, by hand -/
theorem and32 (n : Nat) (hn : n < 4294967296) : Go.bits .and .u64 (n : Int) 4294967295 = n := by
  have h := bits_mask .u64 64 (by decide) (fun x h0 h1 => by simp [IntKind.wrap, IntKind.bits, IntKind.signed]; omega) 32 (by decide) (n : Int) (by omega) (by omega)
  have e : (n : Int) % 2 ^ 32 = n := by omega
  rw [e] at h
  exact h
theorem wrapu (n : Nat) (hn : n < 4294967296) : IntKind.u64.wrap (n : Int) = n := by
  simp [IntKind.wrap, IntKind.bits, IntKind.signed]
  omega
set_option maxHeartbeats 8000000 in
set_option maxRecDepth 100000 in
theorem bits_Mul64.calls (n : Nat) (hn : n < 4294967296) (w : World) :
    Calls Try.prog 35 #[.int .u64 1, .int .u64 n] w fun e w' => e = .returned (.tuple #[.int .u64 0, .int .u64 n]) ∧ Drawn0 w w' := by
  have H := Aside0.mk hn
  obtain ⟨a1, ha1⟩ : ∃ a1 : Int, (n : Int) = a1 := ⟨_, rfl⟩
  obtain ⟨a0, ha0⟩ : ∃ a0 : Int, (1 : Int) = a0 := ⟨_, rfl⟩
  have HX := Aside0.mk ha0
  have HY := Aside0.mk ha1
  rw [ha1, ha0]
  clear ha0 ha1 hn
  go_enter Try.func35, Try.ntmps35
  go_wp2
  go_ret2
  refine ⟨?_, by repeat (first | exact Drawn0.refl _ | apply Drawn0.step)⟩
  have e1 : a1 / 4294967296 = 0 := by rw [← HY.out]; have := H.out; omega
  have e2 : a0 / 4294967296 = 0 := by rw [← HX.out]; rfl
  have e3 : Go.bits .and .u64 a1 4294967295 = a1 := by rw [← HY.out]; exact and32 n H.out
  have e4 : Go.bits .and .u64 1 4294967295 = 1 := by rfl
  have e5 : IntKind.u64.wrap a1 = a1 := by rw [← HY.out]; exact wrapu n H.out
  have e6 : IntKind.u64.wrap 0 = 0 := rfl
  have e7 : Go.bits .and .u64 0 4294967295 = 0 := rfl
  have e8 := HX.out
  subst e8
  simp [e1, e2, e3, e4, e5, e6, e7]


end Go.Proofs.Ytbdmbkmokhaflaa.Q
end

section
-- written by hprint.py (a program of these sessions) out of the translation; Lean checks it
namespace Go.Proofs.Ytbdmbkmokhaflaa.Q
open Go.RowKit Go.Proofs.YtbdmbkmokhaflaaW.Hb Go.Proofs.YtbdmbkmokhaflaaW.PrintWords Go.Proofs.YtbdmbkmokhaflaaW.PrintLast Go.Proofs.YtbdmbkmokhaflaaW.PrintMore
attribute [local go_sem] max2_int min2_int max_two min_two max_three min_three max_four min_four   -- for this text's walks alone
set_option linter.unusedVariables false
set_option linter.unusedSimpArgs false

/-! ### bits_Mul: function 32, by hand -/
set_option maxHeartbeats 8000000 in
set_option maxRecDepth 100000 in
theorem bits_Mul.calls (n : Nat) (hn : n < 4294967296) (w : World) :
    Calls Try.prog 32 #[.int .u64 1, .int .u64 n] w fun e w' => e = .returned (.tuple #[.int .u64 0, .int .u64 n]) ∧ Drawn0 w w' := by
  have H := Aside0.mk hn
  clear hn
  go_enter Try.func32, Try.ntmps32
  go_wp2_with (go_at_call 35; (with_reducible refine (bits_Mul64.calls n H.out _).mono ?_); rintro e w' ⟨rfl, ⟨nd, rfl⟩⟩)
  go_ret2
  exact ⟨rfl, by repeat (first | exact Drawn0.refl _ | apply Drawn0.step)⟩


end Go.Proofs.Ytbdmbkmokhaflaa.Q
end

section
-- written by hprint.py (a program of these sessions) out of the translation; Lean checks it
namespace Go.Proofs.Ytbdmbkmokhaflaa.Q
open Go.RowKit Go.Proofs.YtbdmbkmokhaflaaW.Hb Go.Proofs.YtbdmbkmokhaflaaW.PrintWords Go.Proofs.YtbdmbkmokhaflaaW.PrintLast Go.Proofs.YtbdmbkmokhaflaaW.PrintMore
attribute [local go_sem] max2_int min2_int max_two min_two max_three min_three max_four min_four   -- for this text's walks alone
set_option linter.unusedVariables false
set_option linter.unusedSimpArgs false

/-! ### slices_Repeat_int_int: function 27, by hand -/
/-- n of one number, then zeros up to N. -/
def dbl (n N : Nat) : List Int := List.replicate n (-1) ++ List.replicate (N - n) 0
theorem dbl_len {n N : Nat} (h : n ≤ N) : (dbl n N).length = N := by simp [dbl]; omega
theorem dbl_get {n N j : Nat} (hj : j < n) : (nums .i64 (dbl n N))[j]? = some (.int .i64 (-1)) := by
  simp [nums, dbl, List.getElem?_append_left, hj]
theorem dbl_cells {w : World} {g N n : Nat} (hb : Blk w g 3 (nums .i64 (dbl n N)).toArray) (j : Nat) (hj : j < n) : w.cell? ⟨g, j, none⟩ = some (.int .i64 (-1)) := by
  rw [hb.cell]
  simpa using dbl_get (N := N) hj
theorem dbl_copy (w : World) (g N n m sn sc : Nat) (ad : Addr) (hm : m = Nat.min sn (N - n)) (hn : n ≤ N) (hsrc : ∀ j, j < m → w.cell? (ad.add j) = some (.int .i64 (-1))) (hb : Blk w g 3 (nums .i64 (dbl n N)).toArray) :
    (Builtin.copy_ #[24, 24] 3 #[.slice (some ⟨g, n, none⟩) (N - n) (N - n), .slice (some ad) sn sc]).run Try.prog w = .ok (.int .i64 m) (w.setCells g n (nums .i64 (List.replicate m (-1)))) ∧ Blk (w.setCells g n (nums .i64 (List.replicate m (-1)))) g 3 (nums .i64 (dbl (n + m) N)).toArray ∧ Chg w (w.setCells g n (nums .i64 (List.replicate m (-1)))) (fun k => k = g) := by
  have h2 : n + m ≤ N := by have h3 : m ≤ N - n := hm ▸ Nat.min_le_right _ _; omega
  have hsz : (nums .i64 (dbl n N)).toArray.size = N := by simp [nums, dbl_len hn]
  have hcl : (nums .i64 (List.replicate m (-1))).length = m := by simp [nums]
  have hrun := run_copy_cells (P := Try.prog) w 24 24 3 3 g n (N - n) (N - n) ad sn sc (nums .i64 (List.replicate m (-1))) Try.underlying24 (by kernel_rfl) (by rw [hcl]; exact hm)
    (fun j v hj => by
      have hj2 : j < m := by
        rcases Nat.lt_or_ge j m with h | h
        · exact h
        · rw [List.getElem?_eq_none (by omega)] at hj; cases hj
      have e1 : v = .int .i64 (-1) := by
        rw [show nums .i64 (List.replicate m (-1)) = List.replicate m (.int .i64 (-1)) by simp [nums], List.getElem?_replicate, if_pos hj2] at hj
        exact (Option.some.inj hj).symm
      rw [e1]
      exact hsrc j hj2)
    (fun j hj => by rw [hb.cell]; rw [hcl] at hj; simp [nums, dbl]; omega)
    (fun j _ => hb.frozen _)
    (fun v hv => by
      simp only [nums, List.mem_map] at hv
      obtain ⟨x, _, rfl⟩ := hv
      rfl)
  obtain ⟨cur', c1, c2, c3⟩ := setCells_row (nums .i64 (List.replicate m (-1))) n w _ hb (by rw [hcl, hsz]; omega)
  obtain ⟨s1, s2, s3, s4⟩ := setCells_same g (nums .i64 (List.replicate m (-1))) n w
  refine ⟨by rw [hrun, hcl]; rfl, ?_, ⟨⟨s1, s2, s3, by omega, fun k hk => absurd hk (Nat.not_lt_zero k)⟩, by omega, fun k hk hne => ?_⟩⟩
  · have : cur' = (nums .i64 (dbl (n + m) N)).toArray := by
      apply Array.toList_inj.1
      rw [c3]
      simp only [hcl]
      simp only [nums, dbl, List.map_append, List.map_replicate]
      rw [List.take_append_of_le_length (by simp), List.take_of_length_le (by simp), List.drop_append, List.drop_eq_nil_of_le (by simp), List.nil_append, List.drop_replicate, List.length_replicate, List.append_assoc, ← List.replicate_append_replicate, List.append_assoc, show N - n - (n + m - n) = N - (n + m) by omega]
    rw [← this]
    exact c1
  · exact setCells_far _ _ _ hne
theorem copy_step {P : Program} {ops : Array Oper} {o : Oper} {a : Act} {w : World} {K : Act → World → Prop} {Q : Exit → Act → World → Prop} {E : Prop}
    (hg : o.guard = none) (d x : Operand) (dT sT : TypeId) (hop : o.op = Op.call { callee := Callee.builtin Builtin.copy, args := #[d, x], argTypes := #[dT, sT] })
    (v u : Value) (hd : a.eval d = v) (hx : a.eval x = u) {v' : Value} {w' : World} (hr : (Builtin.copy_ #[dT, sT] o.type #[v, u]).run P w = .ok v' w') (hK : K (a.put o.dst v') w') :
    if Region.wanted o (yielded ops a.tmps) = true then Oper.wp P o a w K Q else E := by
  have hw : Region.wanted o (yielded ops a.tmps) = true := by simp [Region.wanted, hg]
  rw [if_pos hw]
  unfold Oper.wp
  simp [execOp, hop, resolve, invoke, builtin, hd, hx, hr, Result.andThen]
  exact hK
theorem own_blk {w : World} {g base : Nat} {xs : List Int} {ok : Nat → Prop} {n : Nat} (h : Blk w g 3 (nums .i64 xs).toArray) (hn : xs.length = n) (hb : base ≤ g) (hok : ok g) (hm : n ≤ 9223372036854775807) : (Kd.int .i64).R 3 w base ok (.slice (some ⟨g, 0, none⟩) n n) xs := by
  subst hn
  refine Kd.R_of_own ⟨by simp [encs], .inr ⟨g, xs.length, (nums .i64 xs).toArray, rfl, hb, h, Nat.le_refl _, by simpa [maxLen] using hm, by simp [nums], by simp only [nums, encs, Nat.mul_one]; exact List.take_of_length_le (by simp)⟩⟩ (fun k hk => ?_)
  injection hk with hk
  exact hk ▸ hok
theorem made_dbl (N : Nat) : madeCells #[.int .i64 0] N = (nums .i64 (dbl 0 N)).toArray := by
  apply Array.toList_inj.1
  simp [madeCells, nums, dbl, Nat.mod_one, List.map_const']
set_option maxRecDepth 100000 in
set_option maxHeartbeats 4000000 in
theorem slices_Repeat_int_int.calls (w : World) (g0 n : Nat) (hb : Blk w g0 3 #[.int .i64 (-1)]) (hn : n ≤ 1048576) :
    Calls Try.prog 27 #[.slice (some ⟨g0, 0, none⟩) 1 1, .int .i64 n] w (OwnRes (Kd.int .i64) 3 w (List.replicate n (-1))) := by
  have hc0 : w.cell? ⟨g0, 0, none⟩ = some (.int .i64 (-1)) := hb.cell 0
  have HB := Aside0.mk hb
  have hgl := hb.lt
  have HN := Aside0.mk hn
  have d1 : decide ((n : Int) < 0) = false := by simp
  have d2 : decide ((n : Int) > 9223372036854775807) = false := by simp; omega
  have hw1 : IntKind.u64.wrap (n : Int) = n := wrapu n (by omega)
  have hw2 : wrap64 (n : Int) = n := by unfold wrap64; omega
  have hmk := print_make (P := Try.prog) 24 3 .i64 8 Try.underlying24 info3 (by decide) n (by omega)
  have hcp : ∀ nd, (Builtin.copy_ #[24, 24] 3 #[.slice (some ⟨w.heap.size, 0, none⟩) n n, .slice (some ⟨g0, 0, none⟩) 1 1]).run Try.prog ((w.drewN nd).alloc (.cells (madeCells #[.int .i64 0] n) 3)) = .ok (.int .i64 (Nat.min 1 n : Nat)) (((w.drewN nd).alloc (.cells (madeCells #[.int .i64 0] n) 3)).setCells w.heap.size 0 (nums .i64 (List.replicate (Nat.min 1 n) (-1)))) ∧ Blk (((w.drewN nd).alloc (.cells (madeCells #[.int .i64 0] n) 3)).setCells w.heap.size 0 (nums .i64 (List.replicate (Nat.min 1 n) (-1)))) w.heap.size 3 (nums .i64 (dbl (Nat.min 1 n) n)).toArray ∧ Below w.heap.size w (((w.drewN nd).alloc (.cells (madeCells #[.int .i64 0] n) 3)).setCells w.heap.size 0 (nums .i64 (List.replicate (Nat.min 1 n) (-1)))) := by
    intro nd
    have hB1 : Blk ((w.drewN nd).alloc (.cells (madeCells #[.int .i64 0] n) 3)) w.heap.size 3 (nums .i64 (dbl 0 n)).toArray := by
      rw [← made_dbl]
      exact Blk.new (w.drewN nd) 3 (madeCells #[.int .i64 0] n)
    have hsrc : ((w.drewN nd).alloc (.cells (madeCells #[.int .i64 0] n) 3)).cell? ⟨g0, 0, none⟩ = some (.int .i64 (-1)) := ((hb.drewN nd).alloc _).cell 0
    have h := dbl_copy ((w.drewN nd).alloc (.cells (madeCells #[.int .i64 0] n) 3)) w.heap.size n 0 (Nat.min 1 n) 1 1 ⟨g0, 0, none⟩ rfl (Nat.zero_le _) (fun j hj => by
      have : j = 0 := by have := Nat.lt_of_lt_of_le hj (Nat.min_le_left 1 n); omega
      subst this
      exact hsrc) hB1
    rw [Nat.zero_add] at h
    have hA : Below w.heap.size w ((w.drewN nd).alloc (.cells (madeCells #[.int .i64 0] n) 3)) := (show Below w.heap.size w (w.drewN nd) from ⟨rfl, rfl, rfl, Nat.le_refl _, fun k hk => rfl⟩).alloc (Nat.le_refl _) _
    refine ⟨h.1, h.2.1, hA.trans (h.2.2.below hA.size (fun k hk => by omega))⟩
  have HCP := Aside0.mk (fun nd => (hcp nd).2)
  replace hcp := fun nd => (hcp nd).1
  clear hb
  go_enter Try.func27, Try.ntmps27
  go_wp2_with (go_at_call 32; (with_reducible refine (bits_Mul.calls n (by have := HN.out; omega) _).mono ?_); rintro e w' ⟨rfl, ⟨nd, rfl⟩⟩)
  have HC1 := Aside0.mk (HCP.out nd)
  generalize (((w.drewN nd).alloc (.cells (madeCells #[.int .i64 0] n) 3)).setCells w.heap.size 0 (nums .i64 (List.replicate (Nat.min 1 n) (-1)))) = w1 at HC1 ⊢
  clear hcp HCP hmk
  go_loopw [8] (fun k wr => ∃ j : Nat, j ≤ n ∧ (0 < n → 0 < j) ∧ k = .int .i64 j ∧ Aside0 (Blk wr w.heap.size 3 (nums .i64 (dbl j n)).toArray) ∧ Aside0 (Below w.heap.size w wr)) (fun k _ => n - (intOf k).toNat)
  case atStart => exact ⟨Nat.min 1 n, Nat.min_le_right _ _, fun h => by show 0 < min 1 n; omega, rfl, ⟨HC1.out.1⟩, ⟨HC1.out.2⟩⟩
  case round =>
    obtain ⟨j, hj, hj0, rfl, HR, HBW⟩ := hrel
    by_cases hlt : j < n
    · have q1 : (j : Int) < (n : Int) := by omega
      have q2 : 0 < j := by omega
      have q3 : (j : Int) ≤ (n : Int) := by omega
      have HD := Aside0.mk (dbl_copy wr.drew w.heap.size n j (Nat.min j (n - j)) j n ⟨w.heap.size, 0, none⟩ rfl hj (fun i hi => by
        rw [add_plain]
        exact dbl_cells HR.out.drew i (Nat.lt_of_lt_of_le hi (Nat.min_le_left _ _))) HR.out.drew)
      have HL := Aside0.mk (show j + Nat.min j (n - j) ≤ n ∧ j < j + Nat.min j (n - j) from by
        have h1 := Nat.min_le_right j (n - j)
        have h2 : Nat.min j (n - j) = min j (n - j) := rfl
        omega)
      have HS := Aside0.mk HBW.out.drew.size
      have HBd := Aside0.mk HBW.out.drew
      obtain ⟨m, hm⟩ : ∃ m, Nat.min j (n - j) = m := ⟨_, rfl⟩
      rw [hm] at HD HL
      have hwm : wrap64 ((j : Int) + (m : Int)) = ((j + m : Nat) : Int) := by have := HL.out.1; have := HN.out; unfold wrap64; omega
      have q4 : (0 : Int) ≤ (j : Int) := by omega
      clear hm HR
      go_wp2
      refine start_ (n := 10) (S := fun w' => True) (ds := [7]) #[false, false, false, false, false, false, false, false, false, false] (by kernel_rfl) rfl rfl trivial (fun hHeld => ?_)
      generalize wr.drew = wd at HD HS HBd hHeld ⊢
      refine pure_ (i := 0) (N := some 38) (v := ?_) (a' := ?_) #[true, false, false, false, false, false, false, false, false, false] rfl rfl (by kernel_rfl) (fun _ _ _ h => h) (Or.inl ⟨by rfl, ?_⟩) ?_ ?_
      rotate_left
      · intro w'
        go_simp
        with_reducible rfl
      rotate_left
      · simp only [Act.put, List.setIfInBounds_toArray, List.set_cons_zero, List.set_cons_succ, i64_w, i32_w]
        rfl
      refine pure_ (i := 1) (N := some 39) (v := ?_) (a' := ?_) #[true, true, false, false, false, false, false, false, false, false] rfl rfl (by kernel_rfl) (fun _ _ _ h => h) (Or.inl ⟨by rfl, ?_⟩) ?_ ?_
      rotate_left
      · intro w'
        go_simp
        with_reducible rfl
      rotate_left
      · simp only [Act.put, List.setIfInBounds_toArray, List.set_cons_zero, List.set_cons_succ, i64_w, i32_w]
        rfl
      refine pure_ (i := 2) (N := some 40) (v := ?_) (a' := ?_) #[true, true, true, false, false, false, false, false, false, false] rfl rfl (by kernel_rfl) (fun _ _ _ h => h) (Or.inl ⟨by rfl, ?_⟩) ?_ ?_
      rotate_left
      · intro w'
        go_simp
        with_reducible rfl
      rotate_left
      · simp only [Act.put, List.setIfInBounds_toArray, List.set_cons_zero, List.set_cons_succ, i64_w, i32_w]
        rfl
      refine pure_ (i := 3) (N := some 41) (v := ?_) (a' := ?_) #[true, true, true, true, false, false, false, false, false, false] rfl rfl (by kernel_rfl) (fun _ _ _ h => h) (Or.inl ⟨by rfl, ?_⟩) ?_ ?_
      rotate_left
      · intro w'
        go_simp
        with_reducible rfl
      rotate_left
      · simp only [Act.put, List.setIfInBounds_toArray, List.set_cons_zero, List.set_cons_succ, i64_w, i32_w]
        rfl
      refine pure_ (i := 4) (N := some 42) (v := ?_) (a' := ?_) #[true, true, true, true, true, false, false, false, false, false] rfl rfl (by kernel_rfl) (fun _ _ _ h => h) (Or.inl ⟨by rfl, ?_⟩) ?_ ?_
      rotate_left
      · intro w'
        go_simp
        with_reducible rfl
      rotate_left
      · simp only [Act.put, List.setIfInBounds_toArray, List.set_cons_zero, List.set_cons_succ, i64_w, i32_w]
        rfl
      refine pure_ (i := 5) (N := some 43) (v := ?_) (a' := ?_) #[true, true, true, true, true, true, false, false, false, false] rfl rfl (by kernel_rfl) (fun _ _ _ h => h) (Or.inl ⟨by rfl, ?_⟩) ?_ ?_
      rotate_left
      · intro w'
        go_simp
        with_reducible rfl
      rotate_left
      · simp only [Act.put, List.setIfInBounds_toArray, List.set_cons_zero, List.set_cons_succ, i64_w, i32_w]
        rfl
      refine pure_ (i := 6) (N := some 44) (v := ?_) (a' := ?_) #[true, true, true, true, true, true, true, false, false, false] rfl rfl (by kernel_rfl) (fun _ _ _ h => h) (Or.inl ⟨by rfl, ?_⟩) ?_ ?_
      rotate_left
      · intro w'
        go_simp
        with_reducible rfl
      rotate_left
      · simp only [Act.put, List.setIfInBounds_toArray, List.set_cons_zero, List.set_cons_succ, i64_w, i32_w]
        rfl
      refine last_ (i := 7) (N := some 45) #[true, true, true, true, true, true, true, true, false, false] rfl rfl (by kernel_rfl) (by decide) (fun K hK => ?_)
      refine copy_step rfl _ _ 24 24 rfl (.slice (some ⟨w.heap.size, j, none⟩) (n - j) (n - j)) (.slice (some ⟨w.heap.size, 0, none⟩) j n) (by show Value.slice (if n = j then _ else _) _ _ = _; rw [if_neg (by omega)]) rfl HD.out.1 ?_
      refine hK.out _ _ ?_
      clear hK K
      refine norm_ (a' := ?_) ?_ ?_
      rotate_left
      · show Act.put _ (some 45) _ = _
        simp only [Act.put, List.setIfInBounds_toArray, List.set_cons_zero, List.set_cons_succ, i64_w, i32_w]
        rfl
      refine pure_ (i := 8) (N := some 46) (v := ?_) (a' := ?_) #[true, true, true, true, true, true, true, true, true, false] rfl rfl (by kernel_rfl) (fun _ _ _ h => h) (Or.inl ⟨by rfl, ?_⟩) ?_ ?_
      rotate_left
      · intro w'
        go_simp
        with_reducible rfl
      rotate_left
      · simp only [Act.put, List.setIfInBounds_toArray, List.set_cons_zero, List.set_cons_succ, i64_w, i32_w]
        rfl
      refine pure_ (i := 9) (N := some 8) (v := ?_) (a' := ?_) #[true, true, true, true, true, true, true, true, true, true] rfl rfl (by kernel_rfl) (fun _ _ _ h => h) (Or.inl ⟨by rfl, ?_⟩) ?_ ?_
      rotate_left
      · intro w'
        go_simp
        with_reducible rfl
      rotate_left
      · simp only [Act.put, List.setIfInBounds_toArray, List.set_cons_zero, List.set_cons_succ, i64_w, i32_w]
        rfl
      refine done_ (by kernel_rfl) ?_
      clear hHeld
      rw [hwm]
      have HF := Aside0.mk (HBd.out.trans (HD.out.2.2.below HS.out (fun k hk => by omega)))
      go_roundw
      case rel =>
        refine ⟨_, _, _, _, _, _, _, _, _, _, _, _, _, _, ?_, rfl⟩
        exact ⟨j + m, HL.out.1, fun _ => by omega, by rw [Int.natCast_add], ⟨HD.out.2.1⟩, HF⟩
      case measure => have := HL.out; simp [intOf]; omega
    · have q1 : ¬ (j : Int) < (n : Int) := by omega
      have HT := Aside0.mk (show dbl j n = List.replicate n (-1) from by
        have : j = n := by omega
        subst this
        simp [dbl])
      go_wp2
      go_ret
      rw [HT.out] at HR
      exact ⟨_, rfl, own_blk HR.out (by simp) (Nat.le_refl _) trivial (by have := HN.out; omega), HBW.out⟩


end Go.Proofs.Ytbdmbkmokhaflaa.Q
end

section
-- written by hprint.py (a program of these sessions) out of the translation; Lean checks it
namespace Go.Proofs.Ytbdmbkmokhaflaa.Q
open Go.RowKit Go.Proofs.YtbdmbkmokhaflaaW.Hb Go.Proofs.YtbdmbkmokhaflaaW.PrintWords Go.Proofs.YtbdmbkmokhaflaaW.PrintLast Go.Proofs.YtbdmbkmokhaflaaW.PrintMore
attribute [local go_sem] max2_int min2_int max_two min_two max_three min_three max_four min_four   -- for this text's walks alone
set_option linter.unusedVariables false
set_option linter.unusedSimpArgs false

/-! ### shape_scan: function 21, by hand -/
def shape_scan.T15 : Bool × List (List Nat × List Nat) := (true, [([], []), ([0], [0]), ([1], [1]), ([2], [2]), ([3, 2], [2, 3]), ([4, 2], [2, 4]), ([5, 2], [2, 5]), ([2], [2]), ([6, 7, 2], [2, 6, 7]), ([8, 2], [2, 8]), ([9, 2], [2, 9]), ([10, 2], [2, 10]), ([11, 2], [2, 11]), ([12, 2], [2, 12]), ([2, 13], [2, 13]), ([14, 2], [14]), ([15], [15]), ([15], [15]), ([17, 15], [15, 17]), ([18, 15], [15, 18]), ([19, 15], [15, 19]), ([15], [15]), ([20, 21, 15], [15, 20, 21]), ([22, 15], [15, 22]), ([23, 15], [15, 23]), ([24, 15], [15, 24]), ([25, 15], [15, 25]), ([16, 26, 15], [15, 16, 26]), ([27, 15], [15, 27]), ([28, 15], [15, 28]), ([29, 15], [15, 29]), ([15, 30], [15, 30])])
def shape_scan.B15 : List Nat := [0, 1, 3, 7, 15, 31, 63, 7, 255, 511, 1023, 2047, 4095, 8191, 16383, 32767, 65535, 65535, 196607, 458751, 983039, 65535, 4128767, 8323071, 16711679, 33488895, 67043327, 134217727, 268435455, 536870911, 1073741823, 2147483647]
theorem shape_scan.tab15 : rtab .any (opsOf Try.f21 15) = shape_scan.T15 := by kernel_rfl
theorem shape_scan.bits15 : waitsOk shape_scan.T15.2 shape_scan.B15 = true := by kernel_rfl
def shape_scan.T17 : Bool × List (List Nat × List Nat) := (true, [([], []), ([0], [0]), ([1], [1]), ([2], [2]), ([], []), ([3, 4], [3, 4]), ([5], [5]), ([], []), ([], []), ([8], [8]), ([9], [9]), ([10], [10]), ([], []), ([11, 12], [11, 12]), ([13], [13]), ([14], [14]), ([15], [15]), ([16], [16]), ([], []), ([], []), ([6, 0, 1, 2, 3, 4, 5, 6, 11, 14, 17, 18], [6]), ([20, 0, 1, 2, 3, 4, 5, 6, 11, 14, 17, 18], [20]), ([21, 18, 0, 1, 2, 3, 4, 5, 6, 11, 14, 17, 18], [18, 21]), ([7, 17, 0, 1, 2, 3, 4, 5, 6, 7, 8, 9, 10, 11, 12, 13, 14, 15, 16, 17, 18, 19, 20, 21, 22], [7, 17]), ([23, 19, 22, 0, 1, 2, 3, 4, 5, 6, 7, 8, 9, 10, 11, 12, 13, 14, 15, 16, 17, 18, 19, 20, 21, 22], [19, 23])])
def shape_scan.B17 : List Nat := [0, 1, 3, 7, 0, 31, 63, 0, 0, 256, 768, 1792, 0, 7936, 16128, 32512, 65280, 130816, 0, 0, 524159, 1572735, 3669887, 8388607, 16777215]
theorem shape_scan.tab17 : rtab .any (opsOf Try.f21 17) = shape_scan.T17 := by kernel_rfl
theorem shape_scan.bits17 : waitsOk shape_scan.T17.2 shape_scan.B17 = true := by kernel_rfl
structure Fr where
  a : Nat
  o : Int
  l : List Int
abbrev RI (W : World) (base : Nat) (ok : Nat → Prop) (v : Value) (xs : List Int) : Prop := (Kd.int .i64).R 3 W base ok v xs
def Stk (base : Nat) (W : World) (K : Nat → Nat) (gs : Nat) (ps : List Nat) : Prop :=
  ∃ A c, Blk W gs 56 #[.slice A ps.length c] ∧ Kd.R kP 50 W base (fun k => K k = 2) (.slice A ps.length c) ps ∧ K gs = 3 ∧ base ≤ gs
def FrOk (base : Nat) (W : World) (K : Nat → Nat) (p : Nat) (b : Fr) : Prop :=
  ∃ lv, Blk W p 52 #[.int .i64 b.a, .int .i64 b.o, lv] ∧ K p = 2 * p + 4 ∧ base ≤ p ∧ RI W base (fun k => K k = 2 * p + 5) lv b.l
def Frs (base : Nat) (W : World) (K : Nat → Nat) (ps : List Nat) (fs : List Fr) : Prop :=
  fs.length = ps.length ∧ ps.Nodup ∧ ∀ j (hj : j < ps.length) (hj' : j < fs.length), FrOk base W K ps[j] fs[j]
def Mr (base : Nat) (W : World) (K : Nat → Nat) (vm : Value) (m : List Int) : Prop := RI W base (fun k => K k = 1) vm m
theorem R_rel {α : Type} {d : Kd α} {e base : Nat} {ok ok' : Nat → Prop} {W : World} {v : Value} {xs : List α} (h : d.R e W base ok v xs) (hk : ∀ k, k < W.heap.size → ok k → ok' k) : d.R e W base ok' v xs :=
  Kd.R_mono (Kd.R_bound h) (fun k hk' => hk k hk'.2.2.1 hk'.1)
section
variable {base : Nat} {W W' : World} {K K' : Nat → Nat} {gs p : Nat} {ps : List Nat} {fs : List Fr} {b : Fr} {vm : Value} {m : List Int} {S : Nat → Prop}
theorem Stk.rel (h : Stk base W K gs ps) (hk : ∀ k, k < W.heap.size → K' k = K k) : Stk base W K' gs ps := by
  obtain ⟨A, c, h1, h2, h3, h4⟩ := h
  exact ⟨A, c, h1, R_rel h2 (fun k hl e => (hk k hl).trans e), (hk gs h1.lt).trans h3, h4⟩
theorem FrOk.rel (h : FrOk base W K p b) (hk : ∀ k, k < W.heap.size → K' k = K k) : FrOk base W K' p b := by
  obtain ⟨lv, h1, h2, h3, h4⟩ := h
  exact ⟨lv, h1, (hk p h1.lt).trans h2, h3, R_rel h4 (fun k hl e => (hk k hl).trans e)⟩
theorem Frs.rel (h : Frs base W K ps fs) (hk : ∀ k, k < W.heap.size → K' k = K k) : Frs base W K' ps fs := ⟨h.1, h.2.1, fun j hj hj' => (h.2.2 j hj hj').rel hk⟩
theorem Mr.rel (h : Mr base W K vm m) (hk : ∀ k, k < W.heap.size → K' k = K k) : Mr base W K' vm m := R_rel h (fun k hl e => (hk k hl).trans e)
theorem Stk.other (h : Stk base W K gs ps) (hk : Kept W W' S) (hS : ∀ k, S k → K k ≠ 2 ∧ K k ≠ 3) : Stk base W' K gs ps := by
  obtain ⟨A, c, h1, h2, h3, h4⟩ := h
  exact ⟨A, c, blk_kept h1 hk (fun hs => (hS gs hs).2 h3), Kd.R_kept h2 hk (fun k e hs => (hS k hs).1 e), h3, h4⟩
theorem FrOk.other (h : FrOk base W K p b) (hk : Kept W W' S) (hS : ∀ k, S k → K k ≠ 2 * p + 4 ∧ K k ≠ 2 * p + 5) : FrOk base W' K p b := by
  obtain ⟨lv, h1, h2, h3, h4⟩ := h
  exact ⟨lv, blk_kept h1 hk (fun hs => (hS p hs).1 h2), h2, h3, Kd.R_kept h4 hk (fun k e hs => (hS k hs).2 e)⟩
theorem Frs.other (h : Frs base W K ps fs) (hk : Kept W W' S) (hS : ∀ k, S k → K k < 4) : Frs base W' K ps fs :=
  ⟨h.1, h.2.1, fun j hj hj' => (h.2.2 j hj hj').other hk (fun k hs => by have := hS k hs; omega)⟩
theorem Mr.other (h : Mr base W K vm m) (hk : Kept W W' S) (hS : ∀ k, S k → K k ≠ 1) : Mr base W' K vm m := Kd.R_kept h hk (fun k e hs => hS k hs e)
/-- One frame changed. -/
theorem Frs.one (h : Frs base W K ps fs) (j : Nat) (hj : j < ps.length) (b' : Fr) (hk : Kept W W' S) (hS : ∀ k, S k → K k = 2 * ps[j] + 4 ∨ K k = 2 * ps[j] + 5) (hf : FrOk base W' K ps[j] b') : Frs base W' K ps (fs.set j b') := by
  refine ⟨by rw [List.length_set]; exact h.1, h.2.1, fun q hq hq' => ?_⟩
  by_cases he : q = j
  · subst he
    rw [List.getElem_set_self]
    exact hf
  · rw [List.getElem_set_ne (fun e => he e.symm)]
    refine (h.2.2 q hq (by rw [List.length_set] at hq'; exact hq')).other hk (fun k hs => ?_)
    have hne : ps[q] ≠ ps[j] := fun e => he ((List.getElem_inj h.2.1).1 e)
    rcases hS k hs with e | e <;> omega
theorem Frs.push (h : Frs base W K ps fs) (hp : ∀ q ∈ ps, q ≠ p) (hf : FrOk base W K p b) : Frs base W K (ps ++ [p]) (fs ++ [b]) := by
  refine ⟨by simp [h.1], List.nodup_append.2 ⟨h.2.1, by simp, by simpa using hp⟩, fun j hj hj' => ?_⟩
  by_cases he : j < ps.length
  · rw [List.getElem_append_left he, List.getElem_append_left (by rw [h.1]; exact he)]
    exact h.2.2 j he (by rw [h.1]; exact he)
  · have h1 := h.1
    simp only [List.length_append, List.length_singleton] at hj
    have e1 : j = ps.length := by omega
    subst e1
    have e2 : (ps ++ [p])[ps.length] = p := by simp
    have e3 : (fs ++ [b])[ps.length] = b := by simp [h1.symm]
    rw [e2, e3]
    exact hf
theorem Frs.pop {n : Nat} (h : Frs base W K ps fs) (hn : n ≤ ps.length) : Frs base W K (ps.take n) (fs.take n) := by
  refine ⟨by simp [h.1], h.2.1.sublist (List.take_sublist _ _), fun j hj hj' => ?_⟩
  rw [List.getElem_take, List.getElem_take]
  exact h.2.2 j (by simp at hj; omega) (by simp at hj'; omega)
theorem Frs.lt (h : Frs base W K ps fs) {q : Nat} (hq : q ∈ ps) : q < W.heap.size := by
  obtain ⟨j, hj, rfl⟩ := List.getElem_of_mem hq
  obtain ⟨lv, h1, _⟩ := h.2.2 j hj (by rw [h.1]; exact hj)
  exact h1.lt
/-- A store into the row that is built. -/
theorem Mr.put {g c n : Nat} (h : Mr base W K (.slice (some ⟨g, 0, none⟩) n c) m) (i : Nat) (x : Int) : Mr base (W.setCell ⟨g, i, none⟩ (.int .i64 x)) K (.slice (some ⟨g, 0, none⟩) n c) (m.set i x) := Kd.R_putn h (i : Int) x
theorem Mr.lab {g c n : Nat} (h : Mr base W K (.slice (some ⟨g, 0, none⟩) n c) m) : K g = 1 := h.1 g rfl
theorem Mr.at_ {g c n : Nat} (h : Mr base W K (.slice (some ⟨g, 0, none⟩) n c) m) (i : Nat) (hi : i < m.length) : W.cell? ⟨g, i, none⟩ = some (.int .i64 m[i]) ∧ W.frozen? ⟨g, i, none⟩ = false ∧ n = m.length ∧ n ≤ 9223372036854775807 := by
  obtain ⟨h1, h2, h3⟩ := Kd.R_reads' h
  subst h1
  obtain ⟨ad, e1, e2⟩ := at_intN h3 i hi
  cases e1
  rw [add_plain] at e2
  have h4 := own_at (Kd.own_of_R h) (i : Int) (by omega) (by omega)
  exact ⟨e2, h4.2, rfl, h3.2.1⟩
end
/-- The instruction's operation. -/
def opAt (cs : List Ins) (i : Nat) : Int := (cs[i]?.getD ⟨0, 0⟩).f0
def setAll (m : List Int) (l : List Int) (x : Int) : List Int := l.foldl (fun m k => m.set k.toNat x) m
def scanStep (cs : List Ins) (i : Nat) (m : List Int) (fs : List Fr) : Option (List Int × List Fr) :=
  if opAt cs i = 48 ∨ opAt cs i = 51 then (if fs.length < 8 then some (m, fs ++ [⟨i, -1, []⟩]) else none)
  else if opAt cs i = 49 then
    (match fs.getLast? with
      | none => none
      | some b => if 0 ≤ b.o ∨ opAt cs b.a ≠ 48 then none else some (m.set b.a i, fs.set (fs.length - 1) ⟨b.a, i, b.l⟩))
  else if opAt cs i = 50 then
    (match fs.getLast? with
      | none => none
      | some b => some (setAll ((m.set i b.a).set (if 0 ≤ b.o then b.o.toNat else b.a) i) b.l i, fs.take (fs.length - 1)))
  else if opAt cs i = 52 then
    (match topLoop cs (fs.map Fr.a) with
      | none => none
      | some j => some (m, fs.set j ⟨(fs[j]?.getD ⟨0, 0, []⟩).a, (fs[j]?.getD ⟨0, 0, []⟩).o, (fs[j]?.getD ⟨0, 0, []⟩).l ++ [(i : Int)]⟩))
  else some (m, fs)
def scanTo (cs : List Ins) : Nat → Option (List Int × List Fr)
  | 0 => some (List.replicate cs.length (-1), [])
  | i + 1 => (scanTo cs i).bind fun s => scanStep cs i s.1 s.2
def scanAll (cs : List Ins) : Option (List Int) := (scanTo cs cs.length).bind fun s => if s.2.length = 0 then some s.1 else none
def SOk (cs : List Ins) (i : Nat) (m : List Int) (fs : List Fr) : Prop :=
  m.length = cs.length ∧ fs.length ≤ 8 ∧ ∀ b ∈ fs, b.a < i ∧ b.o < i ∧ b.l.length ≤ i ∧ ∀ k ∈ b.l, 0 ≤ k ∧ k < i
theorem opAt_lt {cs : List Ins} {i : Nat} (hi : i < cs.length) : opAt cs i = cs[i].f0 := by
  unfold opAt
  rw [List.getElem?_eq_getElem hi, Option.getD_some]
theorem setAll_len (m l : List Int) (x : Int) : (setAll m l x).length = m.length := by
  unfold setAll
  induction l generalizing m with
  | nil => rfl
  | cons k l ih => rw [List.foldl_cons, ih, List.length_set]
theorem topLoop_lt {cs : List Ins} {ats : List Nat} {j : Nat} (h : topLoop cs ats = some j) : j < ats.length := by
  unfold topLoop at h
  have := List.mem_of_find?_eq_some h
  simpa using this
theorem SOk.mem {cs : List Ins} {i : Nat} {m : List Int} {fs : List Fr} (h : SOk cs i m fs) {b : Fr} (hb : b ∈ fs) : b.a < i + 1 ∧ b.o < ((i + 1 : Nat) : Int) ∧ b.l.length ≤ i + 1 ∧ ∀ k ∈ b.l, 0 ≤ k ∧ k < ((i + 1 : Nat) : Int) := by
  obtain ⟨h1, h2, h3, h4⟩ := h.2.2 b hb
  exact ⟨by omega, by omega, by omega, fun k hk => by have := h4 k hk; omega⟩
theorem getLast_mem' {α : Type} {l : List α} {b : α} (h : l.getLast? = some b) : b ∈ l := List.mem_of_getLast? h
theorem scanStep_ok {cs : List Ins} {i : Nat} {m m' : List Int} {fs fs' : List Fr} (h : SOk cs i m fs) (hs : scanStep cs i m fs = some (m', fs')) : SOk cs (i + 1) m' fs' := by
  have hM := fun {b : Fr} (hb : b ∈ fs) => h.mem hb
  unfold scanStep at hs
  split at hs
  · split at hs
    · rename_i h8
      cases hs
      refine ⟨h.1, by simp; omega, fun b hb => ?_⟩
      rcases List.mem_append.1 hb with hb | hb
      · exact hM hb
      · rw [List.mem_singleton.1 hb]
        exact ⟨by simp, by simp; omega, by simp, by simp⟩
    · cases hs
  · split at hs
    · split at hs
      · cases hs
      · rename_i b hb
        split at hs
        · cases hs
        · cases hs
          refine ⟨by rw [List.length_set]; exact h.1, by rw [List.length_set]; exact h.2.1, fun q hq => ?_⟩
          rcases List.mem_or_eq_of_mem_set hq with hq | hq
          · exact hM hq
          · obtain ⟨h1, h2, h3, h4⟩ := hM (getLast_mem' hb)
            rw [hq]
            exact ⟨h1, by simp; omega, h3, h4⟩
    · split at hs
      · split at hs
        · cases hs
        · cases hs
          exact ⟨by rw [setAll_len, List.length_set, List.length_set]; exact h.1, by rw [List.length_take]; have := h.2.1; omega, fun q hq => hM (List.mem_of_mem_take hq)⟩
      · split at hs
        · split at hs
          · cases hs
          · rename_i j hj
            cases hs
            have hl := topLoop_lt hj
            rw [List.length_map] at hl
            refine ⟨h.1, by rw [List.length_set]; exact h.2.1, fun q hq => ?_⟩
            rcases List.mem_or_eq_of_mem_set hq with hq | hq
            · exact hM hq
            · rw [List.getElem?_eq_getElem hl, Option.getD_some] at hq
              obtain ⟨h1, h2, h3, h4⟩ := h.2.2 _ (List.getElem_mem hl)
              rw [hq]
              refine ⟨by simp; omega, by simp; omega, by simp; omega, fun k hk => ?_⟩
              rcases List.mem_append.1 hk with hk | hk
              · have := h4 k hk
                omega
              · rw [List.mem_singleton.1 hk]
                omega
        · cases hs
          exact ⟨h.1, h.2.1, fun q hq => hM hq⟩
theorem scanTo_ok {cs : List Ins} {i : Nat} {m : List Int} {fs : List Fr} (h : scanTo cs i = some (m, fs)) : SOk cs i m fs := by
  induction i generalizing m fs with
  | zero =>
    cases h
    exact ⟨by simp, by simp, by simp⟩
  | succ i ih =>
    obtain ⟨⟨m1, fs1⟩, h1, h2⟩ := Option.bind_eq_some_iff.1 h
    exact scanStep_ok (ih h1) h2
theorem scanTo_succ {cs : List Ins} {i : Nat} {m : List Int} {fs : List Fr} (h : scanTo cs i = some (m, fs)) : scanTo cs (i + 1) = scanStep cs i m fs := by
  show (scanTo cs i).bind _ = _
  rw [h]
  rfl
theorem scanTo_none {cs : List Ins} {i j : Nat} (h : scanTo cs i = none) (hj : i ≤ j) : scanTo cs j = none := by
  induction j with
  | zero => obtain rfl : i = 0 := by omega
            exact h
  | succ j ih =>
    rcases Nat.lt_or_ge j i with hlt | hge
    · obtain rfl : i = j + 1 := by omega
      exact h
    · show (scanTo cs j).bind _ = none
      rw [ih hge]
      rfl
theorem scanAll_none {cs : List Ins} {i : Nat} {m : List Int} {fs : List Fr} (hi : i < cs.length) (h : scanTo cs i = some (m, fs)) (hs : scanStep cs i m fs = none) : scanAll cs = none := by
  unfold scanAll
  rw [scanTo_none (i := i + 1) ((scanTo_succ h).trans hs) (by omega)]
  rfl
/-- What a call of scan owes, T0 being the closure's blocks ahead of it, Inv what the closure keeps. -/
def ScanRes (cs : List Ins) (w : World) (T0 : Nat → Prop) (Inv : Nat → World → (Nat → Prop) → Prop) (e : Ending) (W : World) : Prop :=
  Chg w W T0 ∧ match scanAll cs with
    | none => e = .returned (.tuple #[.slice none 0 0, .int .i64 31])
    | some m => ∃ v T, e = .returned (.tuple #[v, .int .i64 0]) ∧ RI W w.heap.size (fun k => ¬ T k) v m ∧ Inv cs.length W T ∧ ∀ k, T k → k < W.heap.size
theorem ScanRes.fails {cs : List Ins} {w W : World} {T0 : Nat → Prop} {Inv : Nat → World → (Nat → Prop) → Prop} (hc : Chg w W T0) (h : scanAll cs = none) : ScanRes cs w T0 Inv (.returned (.tuple #[.slice none 0 0, .int .i64 31])) W := by
  refine ⟨hc, ?_⟩
  rw [h]
/-- What scan asks of the closure that it is given. -/
def Sees (cs : List Ins) (w : World) (T0 : Nat → Prop) (fn : Nat) (caps : Array Value) (Inv : Nat → World → (Nat → Prop) → Prop) : Prop :=
  (∀ i W W' T S, Inv i W T → Chg W W' S → (∀ k, S k → ¬ T k ∧ w.heap.size ≤ k) → Inv i W' T) ∧
  ∀ i W T A c ps ats, i < cs.length → Inv i W T → Chg w W T0 → Kd.C kP W A ps.length ps → (∀ ad, A = some ad → ¬ T ad.block) → (scanTo cs i).map (fun s => s.2.map Fr.a) = some ats → ats.length = ps.length → ps.length ≤ 8 → (∀ j (hj : j < ps.length) (hj' : j < ats.length), W.cell? ⟨ps[j], 0, none⟩ = some (.int .i64 ats[j]) ∧ ¬ T ps[j]) →
    Calls Try.prog fn (#[.int .i64 i, .slice A ps.length c] ++ caps) W fun e W' => e = .returned (.tuple #[]) ∧ Chg W W' T ∧ ∃ T', Inv (i + 1) W' T' ∧ ∀ k, T' k → (T k ∨ W.heap.size ≤ k) ∧ k < W'.heap.size
/-- What stands beside the objects of the scan: the box of the instructions, the closure, all that is older. -/
structure Rest (cs : List Ins) (w : World) (T0 : Nat → Prop) (Inv : Nat → World → (Nat → Prop) → Prop) (A : Option Addr) (cc : Nat) (i : Nat) (W : World) (K : Nat → Nat) (T : Nat → Prop) : Prop where
  bx : Blk W w.heap.size 22 #[.slice A cs.length cc]
  kb : K w.heap.size = 3
  inv : Inv i W T
  tk : ∀ k, T k → K k = 0 ∧ k < W.heap.size ∧ (T0 k ∨ w.heap.size ≤ k)
  ch : Chg w W T0
  lab : ∀ k, K k ≠ 0 → w.heap.size ≤ k
section
variable {cs : List Ins} {w W W' : World} {T0 T S : Nat → Prop} {fn : Nat} {caps : Array Value} {Inv : Nat → World → (Nat → Prop) → Prop} {A : Option Addr} {cc i : Nat} {K K' : Nat → Nat}
theorem Rest.rel (h : Rest cs w T0 Inv A cc i W K T) (hk' : ∀ k, k < W.heap.size → K' k = K k) : Rest cs w T0 Inv A cc i W K' T :=
  ⟨h.bx, (hk' _ h.bx.lt).trans h.kb, h.inv, fun k ht => ⟨(hk' k (h.tk k ht).2.1).trans (h.tk k ht).1, (h.tk k ht).2⟩, h.ch, fun k hk => by
    rcases Nat.lt_or_ge k W.heap.size with hl | hl
    · exact h.lab k (by rw [← hk' k hl]; exact hk)
    · exact Nat.le_trans h.ch.size hl⟩
/-- A change of the scan's own. -/
theorem Rest.step (hs : Sees cs w T0 fn caps Inv) (h : Rest cs w T0 Inv A cc i W K T) (hc : Chg W W' S) (hS : ∀ k, S k → (K k ≠ 0 ∨ W.heap.size ≤ k) ∧ w.heap.size < k) : Rest cs w T0 Inv A cc i W' K T :=
  ⟨blk_kept h.bx hc.2 (fun hk => by have := (hS _ hk).2; omega), h.kb, hs.1 i W W' T S h.inv hc (fun k hk => ⟨fun ht => by
      have h1 := h.tk k ht
      rcases (hS k hk).1 with h2 | h2
      · exact h2 h1.1
      · omega, by have := (hS k hk).2; omega⟩), fun k ht => ⟨(h.tk k ht).1, Nat.lt_of_lt_of_le (h.tk k ht).2.1 hc.size, (h.tk k ht).2.2⟩, h.ch.then_ hc (fun k hk => .inr (by have := (hS k hk).2; omega)), h.lab⟩
end
theorem Rest.cs_ {cs : List Ins} {w W : World} {T0 T : Nat → Prop} {Inv : Nat → World → (Nat → Prop) → Prop} {A : Option Addr} {cc i : Nat} {K : Nat → Nat} (h : Rest cs w T0 Inv A cc i W K T) (hC : Kd.C k31 w A cs.length cs) (hA : 0 < cs.length → ∀ ad, A = some ad → ¬ T0 ad.block) : Kd.C k31 W A cs.length cs :=
  Kd.C_foot_neS (fun h => h) hC (fun ad e hn => hA hn ad e) W h.ch.2
theorem sees_call {cs : List Ins} {w W : World} {T0 T : Nat → Prop} {fn : Nat} {caps : Array Value} {Inv : Nat → World → (Nat → Prop) → Prop} {A As : Option Addr} {cc c i gs : Nat} {K : Nat → Nat} {m : List Int} {fs : List Fr} {ps : List Nat} {vm : Value} (hs : Sees cs w T0 fn caps Inv) (hst : scanTo cs i = some (m, fs)) (hi : i < cs.length) (hS : Stk w.heap.size W K gs ps) (hF : Frs w.heap.size W K ps fs) (hM : Mr w.heap.size W K vm m) (hR : Rest cs w T0 Inv A cc i W K T) (hq : W.cell? ⟨gs, 0, none⟩ = some (.slice As ps.length c)) :
    Calls Try.prog fn (#[.int .i64 i, .slice As ps.length c] ++ caps) W fun e W' => e = .returned (.tuple #[]) ∧ Chg W W' T ∧ ∃ K' T', Stk w.heap.size W' K' gs ps ∧ Frs w.heap.size W' K' ps fs ∧ Mr w.heap.size W' K' vm m ∧ Rest cs w T0 Inv A cc (i + 1) W' K' T' := by
  obtain ⟨A', c', b1, b2, b3, b4⟩ := id hS
  have e1 := (b1.cell 0).symm.trans hq
  simp at e1
  obtain ⟨e1, e2⟩ := e1
  subst e1 e2
  obtain ⟨_, _, hC⟩ := Kd.R_reads' b2
  have hlen := hF.1
  refine (hs.2 i W T A' c' ps (fs.map Fr.a) hi hR.inv hR.ch hC (fun ad e ht => ?_) (by rw [hst]; rfl) (by rw [List.length_map]; exact hlen) (by rw [← hlen]; exact (scanTo_ok hst).2.1) (fun j hj hj' => ?_)).mono ?_
  · have h1 := (hR.tk _ ht).1
    have h2 : K ad.block = 2 := b2.1 _ (by rw [e]; rfl)
    omega
  · obtain ⟨lv, f1, f2, f3, f4⟩ := hF.2.2 j hj (by rw [hlen]; exact hj)
    refine ⟨by rw [List.getElem_map]; exact f1.cell 0, fun ht => ?_⟩
    have h1 := (hR.tk _ ht).1
    omega
  · rintro e W' ⟨rfl, hc, T', hi', hT'⟩
    have hK : ∀ k, k < W.heap.size → (fun k => if k < W.heap.size then K k else 0) k = K k := fun k hk => if_pos hk
    have hS0 : ∀ k, T k → K k = 0 := fun k hk => (hR.tk k hk).1
    have hsz := hc.size
    have kb := hR.kb
    have bx : Blk W' w.heap.size 22 #[.slice A cs.length cc] := blk_kept hR.bx hc.2 (fun ht => by have := hS0 _ ht; omega)
    refine ⟨rfl, hc, fun k => if k < W.heap.size then K k else 0, T', (hS.rel hK).other hc.2 (fun k hk => ?_), (hF.rel hK).other hc.2 (fun k hk => ?_), (hM.rel hK).other hc.2 (fun k hk => ?_), ⟨bx, (if_pos hR.bx.lt).trans kb, hi', fun k hk => ⟨?_, (hT' k hk).2, ?_⟩, hR.ch.then_ hc (fun k hk => (hR.tk k hk).2.2), (hR.rel hK).lab⟩⟩
    · have h1 := hR.tk k hk
      rw [if_pos h1.2.1, h1.1]
      omega
    · have h1 := hR.tk k hk
      rw [if_pos h1.2.1, h1.1]
      omega
    · have h1 := hR.tk k hk
      rw [if_pos h1.2.1, h1.1]
      omega
    · rcases (hT' k hk).1 with h | h
      · exact (if_pos (hR.tk k h).2.1).trans (hR.tk k h).1
      · exact if_neg (by omega)
    · rcases (hT' k hk).1 with h | h
      · exact (hR.tk k h).2.2
      · exact .inr (Nat.le_trans hR.ch.size h)
/-- Behind an alloc all stands. -/
theorem all_alloc {cs : List Ins} {w W : World} {T0 T : Nat → Prop} {fn : Nat} {caps : Array Value} {Inv : Nat → World → (Nat → Prop) → Prop} {A : Option Addr} {cc i gs : Nat} {K : Nat → Nat} {m : List Int} {fs : List Fr} {ps : List Nat} {vm : Value} (hs : Sees cs w T0 fn caps Inv) (hS : Stk w.heap.size W K gs ps) (hF : Frs w.heap.size W K ps fs) (hM : Mr w.heap.size W K vm m) (hR : Rest cs w T0 Inv A cc i W K T) (o : Obj) :
    Stk w.heap.size (W.alloc o) K gs ps ∧ Frs w.heap.size (W.alloc o) K ps fs ∧ Mr w.heap.size (W.alloc o) K vm m ∧ Rest cs w T0 Inv A cc i (W.alloc o) K T := by
  have hc : Chg W (W.alloc o) (fun _ => False) := Chg.of_below ((Below.refl _ _).alloc (Nat.le_refl _) o) _
  exact ⟨hS.other hc.2 (fun _ h => h.elim), hF.other hc.2 (fun _ h => h.elim), hM.other hc.2 (fun _ h => h.elim), hR.step hs hc (fun _ h => h.elim)⟩
section
variable {cs : List Ins} {w W w4 : World} {T0 T : Nat → Prop} {fn : Nat} {caps : Array Value} {Inv : Nat → World → (Nat → Prop) → Prop} {A : Option Addr} {cc i gs : Nat} {K : Nat → Nat} {m : List Int} {fs : List Fr} {ps : List Nat} {vm v4 : Value}
/-- A new frame is laid. -/
theorem open_laid (hs : Sees cs w T0 fn caps Inv) (hS : Stk w.heap.size W K gs ps) (hF : Frs w.heap.size W K ps fs) (hM : Mr w.heap.size W K vm m) (hR : Rest cs w T0 Inv A cc i W K T) (n : Nat) :
    ∃ K', Stk w.heap.size (W.alloc (.cells #[.int .i64 n, .int .i64 (-1), .slice none 0 0] 52)) K' gs ps ∧ Frs w.heap.size (W.alloc (.cells #[.int .i64 n, .int .i64 (-1), .slice none 0 0] 52)) K' ps fs ∧ Mr w.heap.size (W.alloc (.cells #[.int .i64 n, .int .i64 (-1), .slice none 0 0] 52)) K' vm m ∧ Rest cs w T0 Inv A cc i (W.alloc (.cells #[.int .i64 n, .int .i64 (-1), .slice none 0 0] 52)) K' T ∧ FrOk w.heap.size (W.alloc (.cells #[.int .i64 n, .int .i64 (-1), .slice none 0 0] 52)) K' W.heap.size ⟨n, -1, []⟩ ∧ (∀ q ∈ ps, q ≠ W.heap.size) ∧ ∀ k, W.heap.size < k → K' k = 2 := by
  have hsz := hR.ch.size
  have hK : ∀ k, k < W.heap.size → (fun k => if k < W.heap.size then K k else if k = W.heap.size then 2 * k + 4 else 2) k = K k := fun k hk => if_pos hk
  obtain ⟨a1, a2, a3, a4⟩ := all_alloc hs (hS.rel hK) (hF.rel hK) (hM.rel hK) (hR.rel hK) (.cells #[.int .i64 n, .int .i64 (-1), .slice none 0 0] 52)
  refine ⟨fun k => if k < W.heap.size then K k else if k = W.heap.size then 2 * k + 4 else 2, a1, a2, a3, a4, ⟨_, Blk.new W _ _, ?_, hsz, Kd.R_nil _ _ _ _ _⟩, fun q hq he => ?_, fun k hk => ?_⟩
  · show (if _ then _ else if _ then _ else 2) = _
    rw [if_neg (by omega), if_pos rfl]
  · have := hF.lt hq
    omega
  · show (if _ then _ else if _ then _ else 2) = _
    rw [if_neg (by omega), if_neg (by omega)]
/-- .. and pushed. -/
theorem open_pushed (hs : Sees cs w T0 fn caps Inv) (hS : Stk w.heap.size W K gs ps) (hF : Frs w.heap.size W K ps fs) (hM : Mr w.heap.size W K vm m) (hR : Rest cs w T0 Inv A cc i W K T) {p : Nat} {b : Fr} (hf : FrOk w.heap.size W K p b) (hp : ∀ q ∈ ps, q ≠ p) (h2 : ∀ k, W.heap.size ≤ k → K k = 2)
    (hb : Blk w4 gs 56 #[v4]) (hr : Kd.R kP 50 w4 w.heap.size (fun k => K k = 2 ∨ W.heap.size ≤ k) v4 (ps ++ [p])) (hc : Chg W w4 (fun k => k = gs ∨ K k = 2)) (hgs : w.heap.size < gs) :
    Stk w.heap.size w4 K gs (ps ++ [p]) ∧ Frs w.heap.size w4 K (ps ++ [p]) (fs ++ [b]) ∧ Mr w.heap.size w4 K vm m ∧ Rest cs w T0 Inv A cc i w4 K T := by
  obtain ⟨A', c', b1, b2, b3, b4⟩ := hS
  have hr2 : Kd.R kP 50 w4 w.heap.size (fun k => K k = 2) v4 (ps ++ [p]) := Kd.R_mono hr (fun k hk => hk.elim id (h2 k))
  obtain ⟨A4, c4, rfl⟩ := Kd.R_slice hr2
  have hown := Kd.R_bound b2
  have hl : ∀ k, (k = gs ∨ K k = 2) → K k = 3 ∨ K k = 2 := fun k hk => hk.elim (fun e => .inl (e ▸ b3)) .inr
  refine ⟨⟨A4, c4, hb, hr2, b3, b4⟩, (hF.other hc.2 (fun k hk => ?_)).push hp (hf.other hc.2 (fun k hk => ?_)), hM.other hc.2 (fun k hk => ?_), ?_⟩
  · rcases hl k hk with h | h <;> omega
  · rcases hl k hk with h | h <;> omega
  · rcases hl k hk with h | h <;> omega
  · refine hR.step hs hc (fun k hk => ?_)
    have h1 := hl k hk
    refine ⟨.inl (by omega), ?_⟩
    have h3 := hR.lab k (by omega)
    have h4 := hR.kb
    rcases hk with rfl | hk
    · exact hgs
    · rcases Nat.lt_or_eq_of_le h3 with h | h
      · exact h
      · rw [← h] at hk
        omega
end
section
variable {cs : List Ins} {w W : World} {T0 T : Nat → Prop} {fn : Nat} {caps : Array Value} {Inv : Nat → World → (Nat → Prop) → Prop} {A : Option Addr} {cc i gs gm n cm k p : Nat} {K : Nat → Nat} {m : List Int} {fs : List Fr} {ps : List Nat} {vm : Value} {b : Fr}
theorem Rest.lt_ (hR : Rest cs w T0 Inv A cc i W K T) {g : Nat} (h : K g ≠ 0) (h3 : K g ≠ 3) : w.heap.size < g := by
  have h1 := hR.lab g h
  rcases Nat.lt_or_eq_of_le h1 with h2 | h2
  · exact h2
  · rw [← h2, hR.kb] at h3
    exact absurd rfl h3
theorem set_m {qs : List Nat} (hs : Sees cs w T0 fn caps Inv) (hS : Stk w.heap.size W K gs qs) (hF : Frs w.heap.size W K ps fs) (hM : Mr w.heap.size W K (.slice (some ⟨gm, 0, none⟩) n cm) m) (hR : Rest cs w T0 Inv A cc i W K T) (j : Nat) (x : Int) :
    Stk w.heap.size (W.setCell ⟨gm, j, none⟩ (.int .i64 x)) K gs qs ∧ Frs w.heap.size (W.setCell ⟨gm, j, none⟩ (.int .i64 x)) K ps fs ∧ Mr w.heap.size (W.setCell ⟨gm, j, none⟩ (.int .i64 x)) K (.slice (some ⟨gm, 0, none⟩) n cm) (m.set j x) ∧ Rest cs w T0 Inv A cc i (W.setCell ⟨gm, j, none⟩ (.int .i64 x)) K T := by
  have hc := Chg.set_ W ⟨gm, j, none⟩ (.int .i64 x)
  have hl := hM.lab
  have hlt : w.heap.size < gm := hR.lt_ (by omega) (by omega)
  have hk : ∀ k, k = gm → K k = 1 := fun k h => h ▸ hl
  exact ⟨hS.other hc.2 (fun k h => by have := hk k h; omega), hF.other hc.2 (fun k h => by have := hk k h; omega), hM.put j x, hR.step hs hc (fun k h => by
    have h1 := hk k h
    have h2 : k = gm := h
    exact ⟨.inl (by omega), by omega⟩)⟩
theorem all_drew {qs : List Nat} (hs : Sees cs w T0 fn caps Inv) (hS : Stk w.heap.size W K gs qs) (hF : Frs w.heap.size W K ps fs) (hM : Mr w.heap.size W K vm m) (hR : Rest cs w T0 Inv A cc i W K T) :
    Stk w.heap.size W.drew K gs qs ∧ Frs w.heap.size W.drew K ps fs ∧ Mr w.heap.size W.drew K vm m ∧ Rest cs w T0 Inv A cc i W.drew K T := by
  have hc : Chg W W.drew (fun _ => False) := Chg.of_below (Below.refl _ _).drew _
  exact ⟨hS.other hc.2 (fun _ h => h.elim), hF.other hc.2 (fun _ h => h.elim), hM.other hc.2 (fun _ h => h.elim), hR.step hs hc (fun _ h => h.elim)⟩
/-- The topmost frame. -/
structure Top (W : World) (K : Nat → Nat) (gs : Nat) (ps : List Nat) (fs : List Fr) (k p : Nat) (b : Fr) (adS : Addr) (cS : Nat) (lv : Value) : Prop where
  c0 : W.cell? ⟨gs, 0, none⟩ = some (.slice (some adS) ps.length cS)
  c1 : W.cell? (adS.add k) = some (.pointer (some ⟨p, 0, none⟩))
  a_ : W.cell? ⟨p, 0, none⟩ = some (.int .i64 b.a)
  o_ : W.cell? ⟨p, 1, none⟩ = some (.int .i64 b.o)
  l_ : W.cell? ⟨p, 2, none⟩ = some lv
  f_ : ∀ j, W.frozen? ⟨p, j, none⟩ = false
  fg : ∀ j, W.frozen? ⟨gs, j, none⟩ = false
  kp : K p = 2 * p + 4
  hp : ∃ h : k < ps.length, ps[k] = p
  hl : fs.getLast? = some b
  hk : fs[k]? = some b
theorem top_ok {base : Nat} (hS : Stk base W K gs ps) (hF : Frs base W K ps fs) (hk : ps.length = k + 1) : ∃ p b adS cS lv, Top W K gs ps fs k p b adS cS lv := by
  obtain ⟨A', c', b1, b2, b3, b4⟩ := hS
  obtain ⟨_, _, hC⟩ := Kd.R_reads' b2
  have hlen := hF.1
  obtain ⟨ad, e, hcell⟩ := at_P hC k (by omega)
  subst e
  obtain ⟨lv, f1, f2, f3, f4⟩ := hF.2.2 k (by omega) (by omega)
  refine ⟨ps[k], fs[k], ad, c', lv, ⟨b1.cell 0, hcell, f1.cell 0, f1.cell 1, f1.cell 2, fun j => f1.frozen j, fun j => b1.frozen j, f2, ⟨by omega, rfl⟩, ?_, List.getElem?_eq_getElem _⟩⟩
  rw [List.getLast?_eq_getElem?, show fs.length - 1 = k by omega, List.getElem?_eq_getElem]
theorem set_other (hs : Sees cs w T0 fn caps Inv) (hS : Stk w.heap.size W K gs ps) (hF : Frs w.heap.size W K ps fs) (hM : Mr w.heap.size W K vm m) (hR : Rest cs w T0 Inv A cc i W K T) (hk : k < ps.length) (hb : fs[k]? = some b) (hp : ps[k] = p) (x : Int) :
    Stk w.heap.size (W.setCell ⟨p, 1, none⟩ (.int .i64 x)) K gs ps ∧ Frs w.heap.size (W.setCell ⟨p, 1, none⟩ (.int .i64 x)) K ps (fs.set k ⟨b.a, x, b.l⟩) ∧ Mr w.heap.size (W.setCell ⟨p, 1, none⟩ (.int .i64 x)) K vm m ∧ Rest cs w T0 Inv A cc i (W.setCell ⟨p, 1, none⟩ (.int .i64 x)) K T := by
  subst hp
  have hc := Chg.set_ W ⟨ps[k], 1, none⟩ (.int .i64 x)
  have hkf : k < fs.length := by rw [hF.1]; exact hk
  have hb' : fs[k] = b := by rw [List.getElem?_eq_getElem hkf] at hb; exact Option.some.inj hb
  obtain ⟨lv, f1, f2, f3, f4⟩ := hF.2.2 k hk hkf
  have hK : ∀ q, q = ps[k] → K q = 2 * ps[k] + 4 := fun q h => h ▸ f2
  have hlt : w.heap.size < ps[k] := hR.lt_ (by omega) (by omega)
  refine ⟨hS.other hc.2 (fun q h => by have := hK q h; omega), hF.one k hk _ hc.2 (fun q h => .inl (hK q h)) ⟨lv, ?_, f2, f3, ?_⟩, hM.other hc.2 (fun q h => by have := hK q h; omega), hR.step hs hc (fun q h => by
    have h1 := hK q h
    have h2 : q = ps[k] := h
    exact ⟨.inl (by omega), by omega⟩)⟩
  · have h := f1.set_ 1 (.int .i64 x)
    rw [hb'] at h
    simpa using h
  · rw [hb'] at f4
    exact Kd.R_kept f4 hc.2 (fun q h1 h2 => by have h3 := hK q h2; have h1 : K q = 2 * ps[k] + 5 := h1; omega)
end
section
variable {cs : List Ins} {w W w3 : World} {T0 T : Nat → Prop} {fn : Nat} {caps : Array Value} {Inv : Nat → World → (Nat → Prop) → Prop} {A : Option Addr} {cc i gs gm n cm k p : Nat} {K : Nat → Nat} {m : List Int} {fs : List Fr} {ps : List Nat} {vm v3 : Value} {b : Fr}
theorem frame_at {base : Nat} (hF : Frs base W K ps fs) (hk : k < ps.length) (hb : fs[k]? = some b) (hp : ps[k] = p) : FrOk base W K p b := by
  subst hp
  have hkf : k < fs.length := by rw [hF.1]; exact hk
  have hb' : fs[k] = b := by rw [List.getElem?_eq_getElem hkf] at hb; exact Option.some.inj hb
  have h := hF.2.2 k hk hkf
  rw [hb'] at h
  exact h
/-- The stack's row is cut. -/
theorem cut_ok (hs : Sees cs w T0 fn caps Inv) (hS : Stk w.heap.size W K gs ps) (hF : Frs w.heap.size W K ps fs) (hM : Mr w.heap.size W K vm m) (hR : Rest cs w T0 Inv A cc i W K T) (hk : k ≤ ps.length) {adS : Option Addr} {cS : Nat} (hq : W.cell? ⟨gs, 0, none⟩ = some (.slice adS ps.length cS)) (hgs : w.heap.size < gs) :
    Stk w.heap.size (W.setCell ⟨gs, 0, none⟩ (.slice adS k cS)) K gs (ps.take k) ∧ Frs w.heap.size (W.setCell ⟨gs, 0, none⟩ (.slice adS k cS)) K ps fs ∧ Mr w.heap.size (W.setCell ⟨gs, 0, none⟩ (.slice adS k cS)) K vm m ∧ Rest cs w T0 Inv A cc i (W.setCell ⟨gs, 0, none⟩ (.slice adS k cS)) K T := by
  obtain ⟨A', c', b1, b2, b3, b4⟩ := hS
  have e1 := (b1.cell 0).symm.trans hq
  simp at e1
  obtain ⟨e1, e2⟩ := e1
  subst e1 e2
  have hc := Chg.set_ W ⟨gs, 0, none⟩ (.slice A' k c')
  have hl : ∀ q, q = gs → K q = 3 := fun q h => h ▸ b3
  have hlen : (ps.take k).length = k := by rw [List.length_take]; omega
  refine ⟨⟨A', c', by rw [hlen]; simpa using b1.set_ 0 (.slice A' k c'), ?_, b3, b4⟩, hF.other hc.2 (fun q h => by have := hl q h; omega), hM.other hc.2 (fun q h => by have := hl q h; omega), hR.step hs hc (fun q h => by
    have h1 := hl q h
    have h2 : q = gs := h
    exact ⟨.inl (by omega), by omega⟩)⟩
  rw [hlen]
  exact Kd.R_far (Kd.R_take b2 hk) (p := ⟨gs, 0, none⟩) (fun q h he => by
    have h : K q = 2 := h
    have he : q = gs := he
    rw [he] at h
    omega) _
/-- What is new from here on belongs to the leaves of a frame. -/
theorem leave_laid (hs : Sees cs w T0 fn caps Inv) (hS : Stk w.heap.size W K gs ps) (hF : Frs w.heap.size W K ps fs) (hM : Mr w.heap.size W K vm m) (hR : Rest cs w T0 Inv A cc i W K T) (p : Nat) (o : Obj) :
    ∃ K', Stk w.heap.size (W.alloc o) K' gs ps ∧ Frs w.heap.size (W.alloc o) K' ps fs ∧ Mr w.heap.size (W.alloc o) K' vm m ∧ Rest cs w T0 Inv A cc i (W.alloc o) K' T ∧ ∀ k, (W.alloc o).heap.size ≤ k → K' k = 2 * p + 5 := by
  have hK : ∀ k, k < W.heap.size → (fun k => if k < W.heap.size then K k else 2 * p + 5) k = K k := fun k hk => if_pos hk
  obtain ⟨a1, a2, a3, a4⟩ := all_alloc hs (hS.rel hK) (hF.rel hK) (hM.rel hK) (hR.rel hK) o
  exact ⟨_, a1, a2, a3, a4, fun k hk => if_neg (by rw [World.size_alloc] at hk; omega)⟩
theorem leave_stored (hs : Sees cs w T0 fn caps Inv) (hS : Stk w.heap.size W K gs ps) (hF : Frs w.heap.size W K ps fs) (hM : Mr w.heap.size W K vm m) (hR : Rest cs w T0 Inv A cc i W K T) (hk : k < ps.length) (hb : fs[k]? = some b) (hp : ps[k] = p) {l' : List Int} (hc : Chg W w3 (fun q => K q = 2 * p + 5)) (hR3 : RI w3 w.heap.size (fun q => K q = 2 * p + 5) v3 l') :
    Stk w.heap.size (w3.setCell ⟨p, 2, none⟩ v3) K gs ps ∧ Frs w.heap.size (w3.setCell ⟨p, 2, none⟩ v3) K ps (fs.set k ⟨b.a, b.o, l'⟩) ∧ Mr w.heap.size (w3.setCell ⟨p, 2, none⟩ v3) K vm m ∧ Rest cs w T0 Inv A cc i (w3.setCell ⟨p, 2, none⟩ v3) K T := by
  subst hp
  obtain ⟨lv, f1, f2, f3, f4⟩ := frame_at hF hk hb rfl
  have hc2 : Chg W (w3.setCell ⟨ps[k], 2, none⟩ v3) (fun q => K q = 2 * ps[k] + 5 ∨ q = ps[k]) := (hc.mono (fun _ h => .inl h)).then_ (Chg.set_ w3 ⟨ps[k], 2, none⟩ v3) (fun q h => .inl (.inr h))
  have hl : ∀ q, (K q = 2 * ps[k] + 5 ∨ q = ps[k]) → K q = 2 * ps[k] + 4 ∨ K q = 2 * ps[k] + 5 := fun q h => h.elim .inr (fun e => .inl (e ▸ f2))
  refine ⟨hS.other hc2.2 (fun q h => by rcases hl q h with h | h <;> omega), hF.one k hk _ hc2.2 hl ⟨v3, ?_, f2, f3, ?_⟩, hM.other hc2.2 (fun q h => by rcases hl q h with h | h <;> omega), hR.step hs hc2 (fun q h => by
    have h1 := hl q h
    exact ⟨.inl (by omega), hR.lt_ (by omega) (by omega)⟩)⟩
  · have h1 : Blk w3 ps[k] 52 #[.int .i64 b.a, .int .i64 b.o, lv] := blk_kept f1 hc.2 (fun h => by have h : K ps[k] = 2 * ps[k] + 5 := h; omega)
    simpa using h1.set_ 2 v3
  · exact Kd.R_far hR3 (p := ⟨ps[k], 2, none⟩) (fun q h he => by
      have h : K q = 2 * ps[k] + 5 := h
      have he : q = ps[k] := he
      rw [he] at h
      omega) _
theorem scan_done (hs : scanTo cs cs.length = some (m, fs)) (hM : Mr w.heap.size W K vm m) (hR : Rest cs w T0 Inv A cc cs.length W K T) (hl : fs.length = 0) : ScanRes cs w T0 Inv (.returned (.tuple #[vm, .int .i64 0])) W := by
  refine ⟨hR.ch, ?_⟩
  have : scanAll cs = some m := by
    unfold scanAll
    rw [hs]
    show (if fs.length = 0 then some m else none) = some m
    rw [if_pos hl]
  rw [this]
  exact ⟨vm, T, rfl, Kd.R_mono hM (fun k h1 h2 => by have h1 : K k = 1 := h1; have := (hR.tk k h2).1; omega), hR.inv, fun k h => (hR.tk k h).2.1⟩
theorem scan_open (hs : scanTo cs cs.length = some (m, fs)) (hl : fs.length ≠ 0) : scanAll cs = none := by
  unfold scanAll
  rw [hs]
  show (if fs.length = 0 then some m else none) = none
  rw [if_neg hl]
end
theorem find_call {cs : List Ins} {w W : World} {T0 T : Nat → Prop} {Inv : Nat → World → (Nat → Prop) → Prop} {A As : Option Addr} {cc cS i i' gs : Nat} {K : Nat → Nat} {m : List Int} {fs : List Fr} {ps : List Nat} (hS : Stk w.heap.size W K gs ps) (hF : Frs w.heap.size W K ps fs) (hR : Rest cs w T0 Inv A cc i' W K T) (hC : Kd.C k31 w A cs.length cs) (hA : 0 < cs.length → ∀ ad, A = some ad → ¬ T0 ad.block) (hok : SOk cs i m fs) (hi : i < cs.length) (hq : W.cell? ⟨gs, 0, none⟩ = some (.slice As ps.length cS)) :
    Calls Try.prog 29 #[.pointer (some ⟨gs, 0, none⟩), .func (.func 30) #[] #[.pointer (some ⟨w.heap.size, 0, none⟩)]] W fun e w' => e = .returned (findRes ps (topLoop cs (fs.map Fr.a))) ∧ Below W.heap.size W w' := by
  obtain ⟨A', c', b1, b2, b3, b4⟩ := id hS
  have e1 := (b1.cell 0).symm.trans hq
  simp at e1
  obtain ⟨e1, e2⟩ := e1
  subst e1 e2
  obtain ⟨_, _, hCP⟩ := Kd.R_reads' b2
  refine shape_block_find.calls W gs w.heap.size A' A c' cc ps (fs.map Fr.a) cs (by rw [List.length_map]; exact hF.1) (b1.cell 0) hCP (hR.bx.cell 0) (hR.cs_ hC hA) (fun ad e => (Kd.R_bound b2).1 _ (by rw [e]; rfl) |>.2.2.1) (fun j hj hj' => ?_)
  rw [List.length_map] at hj'
  obtain ⟨lv, f1, f2, f3, f4⟩ := hF.2.2 j hj hj'
  refine ⟨by rw [List.getElem_map]; exact f1.cell 0, ?_⟩
  rw [List.getElem_map]
  have := hok.2.2 fs[j] (List.getElem_mem hj')
  omega
theorem init_ok {cs : List Ins} {w w3 : World} {T0 : Nat → Prop} {fn : Nat} {caps : Array Value} {Inv : Nat → World → (Nat → Prop) → Prop} {A : Option Addr} {cc : Nat} {vm : Value} (hs : Sees cs w T0 fn caps Inv) (hT : ∀ k, T0 k → k < w.heap.size) (h0 : Inv 0 w T0)
    (hR : (Kd.int .i64).R 3 w3 ((w.alloc (.cells #[.slice A cs.length cc] 22)).alloc (.cells #[.int .i64 (-1)] 3)).heap.size (fun _ => True) vm (List.replicate cs.length (-1)))
    (hB : Below ((w.alloc (.cells #[.slice A cs.length cc] 22)).alloc (.cells #[.int .i64 (-1)] 3)).heap.size ((w.alloc (.cells #[.slice A cs.length cc] 22)).alloc (.cells #[.int .i64 (-1)] 3)) w3) :
    ∃ K, Stk w.heap.size (w3.alloc (.cells #[.slice none 0 0] 56)) K w3.heap.size [] ∧ Frs w.heap.size (w3.alloc (.cells #[.slice none 0 0] 56)) K [] [] ∧ Mr w.heap.size (w3.alloc (.cells #[.slice none 0 0] 56)) K vm (List.replicate cs.length (-1)) ∧ Rest cs w T0 Inv A cc 0 (w3.alloc (.cells #[.slice none 0 0] 56)) K T0 ∧ w.heap.size < w3.heap.size := by
  have hsz : w.heap.size + 2 ≤ w3.heap.size := by have := hB.size; rw [World.size_alloc, World.size_alloc] at this; omega
  have hBw : Below w.heap.size w (w3.alloc (.cells #[.slice none 0 0] 56)) := ((((Below.refl _ w).alloc (Nat.le_refl _) _).alloc (by rw [World.size_alloc]; omega) _).trans (hB.mono (by rw [World.size_alloc, World.size_alloc]; omega))).alloc (by omega) _
  have hlab : ∀ k, (fun k => if k = w.heap.size ∨ k = w3.heap.size then 3 else if w.heap.size + 2 ≤ k then 1 else 0) k ≠ 0 → w.heap.size ≤ k := fun k hk => by
    rcases Nat.lt_or_ge k w.heap.size with h | h
    · exact absurd (show (if k = w.heap.size ∨ k = w3.heap.size then 3 else if w.heap.size + 2 ≤ k then 1 else 0) = 0 by rw [if_neg (by omega), if_neg (by omega)]) hk
    · exact h
  refine ⟨fun k => if k = w.heap.size ∨ k = w3.heap.size then 3 else if w.heap.size + 2 ≤ k then 1 else 0, ⟨none, 0, Blk.new w3 _ _, Kd.R_nil _ _ _ _ _, by simp, by omega⟩, ⟨rfl, List.nodup_nil, fun j hj => absurd hj (Nat.not_lt_zero j)⟩, ?_, ⟨?_, by simp, ?_, fun k hk => ?_, Chg.of_below hBw T0, hlab⟩, by omega⟩
  · refine Kd.R_lower (Kd.R_alloc (Kd.R_mono (Kd.R_bound hR) fun k hk => ?_) _) (Nat.le_of_lt (by rw [World.size_alloc, World.size_alloc]; omega))
    have h1 := hk.2.1
    have h2 := hk.2.2.1
    rw [World.size_alloc, World.size_alloc] at h1
    show (if k = w.heap.size ∨ k = w3.heap.size then 3 else if w.heap.size + 2 ≤ k then 1 else 0) = 1
    rw [if_neg (by omega), if_pos (by omega)]
  · exact ((((Blk.new w 22 #[.slice A cs.length cc]).alloc _).after (hB.mono (Nat.le_refl _))).alloc _)
  · exact hs.1 0 w _ T0 (fun _ => False) h0 (Chg.of_below hBw _) (fun k hk => hk.elim)
  · have h1 := hT k hk
    exact ⟨by
      show (if k = w.heap.size ∨ k = w3.heap.size then 3 else if w.heap.size + 2 ≤ k then 1 else 0) = 0
      rw [if_neg (by omega), if_neg (by omega)], Nat.lt_of_lt_of_le h1 hBw.size, .inl hk⟩
set_option maxRecDepth 100000 in
set_option maxHeartbeats 8000000 in
theorem shape_scan.calls (w : World) (A : Option Addr) (cc fn : Nat) (cs : List Ins) (T0 : Nat → Prop) (caps : Array Value) (Inv : Nat → World → (Nat → Prop) → Prop) (hC : Kd.C k31 w A cs.length cs) (hT : ∀ k, T0 k → k < w.heap.size) (hA : 0 < cs.length → ∀ ad, A = some ad → ¬ T0 ad.block) (h0 : Inv 0 w T0) (hsee : Sees cs w T0 fn caps Inv) (hcf : ∀ (args : Array Value) (W : World), (callFunc fn args).run Try.prog W = .ok (.enter fn args) W) (hn : cs.length ≤ 1048576) :
    Calls Try.prog 21 #[.slice A cs.length cc, .func (.func fn) #[] caps] w (ScanRes cs w T0 Inv) := by
  have HC := Aside0.mk hC
  have HT := Aside0.mk hT
  have HA := Aside0.mk hA
  have HI := Aside0.mk h0
  have HSEE := Aside0.mk hsee
  have HN := Aside0.mk hn
  have HB0 := Aside0.mk (Blk.new w 22 #[.slice A cs.length cc])
  have q0 : (w.alloc (.cells #[.slice A cs.length cc] 22)).cell? ⟨w.heap.size, 0, none⟩ = some (.slice A cs.length cc) := (Blk.new w 22 #[.slice A cs.length cc]).cell 0
  have q0' := cell_allocd q0 (.cells #[.int .i64 (-1)] 3)
  have hb1 := Blk.new (w.alloc (.cells #[.slice A cs.length cc] 22)) 3 #[.int .i64 (-1)]
  rw [World.size_alloc] at hb1
  have HB1 := Aside0.mk hb1
  clear hb1
  clear hC hT hA h0 hsee
  go_enter Try.func21, Try.ntmps21
  go_wp2_with (go_at_call 27; (with_reducible refine (slices_Repeat_int_int.calls _ _ cs.length HB1.out HN.out).mono ?_); rintro e w3 ⟨vm, rfl, hR3, hB3⟩; have q3 := cell_allocd ((hB3.cell (p := ⟨w.heap.size, 0, none⟩) (by rw [World.size_alloc, World.size_alloc]; show w.heap.size < _; omega)).trans q0') (.cells #[.slice none 0 0] 56); have HR3 := Aside0.mk hR3; have HB3 := Aside0.mk hB3; clear hR3 hB3)
  have HINI := Aside0.mk (init_ok HSEE.out HT.out HI.out HR3.out HB3.out)
  clear HR3 HB3 HB1 HB0 q0 q0' q3
  obtain ⟨W0, hW0⟩ : ∃ W0, (w3.alloc (.cells #[.slice none 0 0] 56)) = W0 := ⟨_, rfl⟩
  obtain ⟨gs, hgs⟩ : ∃ gs, w3.heap.size = gs := ⟨_, rfl⟩
  rw [hW0, hgs] at HINI
  rw [hW0, hgs]
  clear hW0 hgs w3
  obtain ⟨K0, k1, k2, k3, k4, hgs⟩ := HINI.out
  have HK1 := Aside0.mk k1
  have HK2 := Aside0.mk k2
  have HK3 := Aside0.mk k3
  have HK4 := Aside0.mk k4
  clear k1 k2 k3 k4 HINI
  go_loopw [24] (fun k wr => ∃ (i : Nat) (m : List Int) (fs : List Fr) (K : Nat → Nat) (ps : List Nat) (T : Nat → Prop), i ≤ cs.length ∧ k = .int .i64 i ∧ Aside0 (scanTo cs i = some (m, fs)) ∧ Aside0 (Stk w.heap.size wr K gs ps) ∧ Aside0 (Frs w.heap.size wr K ps fs) ∧ Aside0 (Mr w.heap.size wr K vm m) ∧ Aside0 (Rest cs w T0 Inv A cc i wr K T)) (fun k _ => cs.length - (intOf k).toNat)
  case atStart => exact ⟨0, _, _, K0, [], T0, Nat.zero_le _, rfl, ⟨rfl⟩, HK1, HK2, HK3, HK4⟩
  case round =>
    clear HK1 HK2 HK3 HK4 HI
    obtain ⟨i, m, fs, K, ps, T, hi, rfl, HST, HS, HF, HM, HR⟩ := hrel
    by_cases hlt : i < cs.length
    · obtain ⟨gm, cm, hvm, hgmx⟩ := Kd.R_form HM.out (by rw [(scanTo_ok HST.out).1]; omega)
      clear hgmx
      rw [(scanTo_ok HST.out).1] at hvm
      subst hvm
      have HCw := Aside0.mk (HR.out.cs_ HC.out HA.out)
      obtain ⟨ad, eA, kc0, kc1⟩ := at_Ins HCw.out i hlt
      have hm : cs.length ≤ 9223372036854775807 := by have := HN.out; omega
      have q1 : (i : Int) < (cs.length : Int) := by omega
      have qb : wr.cell? ⟨w.heap.size, 0, none⟩ = some (.slice A cs.length cc) := HR.out.bx.cell 0
      have hop : opAt cs i = cs[i].f0 := opAt_lt hlt
      obtain ⟨v0, hv0⟩ : ∃ v, cs[i].f0 = v := ⟨_, rfl⟩
      obtain ⟨v1, hv1⟩ : ∃ v, cs[i].f1 = v := ⟨_, rfl⟩
      rw [hv0] at kc0 hop
      rw [hv1] at kc1
      have HOP := Aside0.mk hop
      cases eA
      clear hv0 hv1 hop
      go_upto_region 6 with (fail)
      have HG1 := Aside0.mk (Blk.new wr 31 #[.int .i64 v0, .int .i64 v1])
      have HAL := Aside0.mk (all_alloc HSEE.out HS.out HF.out HM.out HR.out (.cells #[.int .i64 v0, .int .i64 v1] 31))
      have HTG := Aside0.mk (show ∀ k, T k → k ≠ wr.heap.size from fun k hk he => by have := (HR.out.tk k hk).2.1; omega)
      obtain ⟨gx, hgx⟩ : ∃ gx, wr.heap.size = gx := ⟨_, rfl⟩
      rw [hgx] at HG1 HTG ⊢
      generalize wr.alloc (.cells #[.int .i64 v0, .int .i64 v1] 31) = W1 at HG1 HAL ⊢
      clear HS HF HM HR HCw kc0 kc1 qb hgx wr
      obtain ⟨h1, h2, h3, h4⟩ := HAL.out
      obtain ⟨As, cS, b1, _⟩ := id h1
      have qs : W1.cell? ⟨gs, 0, none⟩ = some (.slice As ps.length cS) := b1.cell 0
      have HCALL := Aside0.mk (sees_call HSEE.out HST.out hlt h1 h2 h3 h4 qs)
      clear HAL h1 h2 h3 h4 b1
      go_upto_region 7 with ((with_reducible refine HCALL.out.mono ?_); rintro e w' ⟨rfl, hcw, hcK⟩; have HCW := Aside0.mk hcw; have HCK := Aside0.mk hcK; clear hcw hcK)
      have HG2 := Aside0.mk (blk_kept HG1.out HCW.out.2 (fun ht => HTG.out gx ht rfl))
      have qg : w'.cell? ⟨gx, 0, none⟩ = some (.int .i64 v0) := (show Blk w' gx 31 #[.int .i64 v0, .int .i64 v1] from HG2.out).cell 0
      obtain ⟨K', T', h1, h2, h3, h4⟩ := HCK.out
      obtain ⟨As, cS, b1, _⟩ := id h1
      have qs : w'.cell? ⟨gs, 0, none⟩ = some (.slice As ps.length cS) := b1.cell 0
      have hwn : wrap64 ((ps.length : Int) - 1) = (ps.length : Int) - 1 := by have := (scanTo_ok HST.out).2.1; have := h2.1; unfold wrap64; omega
      have HS := Aside0.mk h1
      have HF := Aside0.mk h2
      have HM := Aside0.mk h3
      have HR := Aside0.mk h4
      have HL := Aside0.mk h2.1
      have HOK := Aside0.mk (scanTo_ok HST.out)
      clear h1 h2 h3 h4 b1 HCK HCW HG1 HG2 HTG HCALL
      go_upto_region 9 with (fail)
      by_cases hA1 : v0 = 48 ∨ v0 = 51
      · have HSTEP := Aside0.mk (show scanStep cs i m fs = if fs.length < 8 then some (m, fs ++ [⟨i, -1, []⟩]) else none from by unfold scanStep; rw [HOP.out, if_pos hA1])
        obtain ⟨K1, a1, a2, a3, a4, a5, a6, a7⟩ := open_laid HSEE.out HS.out HF.out HM.out HR.out i
        obtain ⟨A1, c1, b1, b2, b3, b4⟩ := id a1
        have HA1 := Aside0.mk (fun w4 v4 => open_pushed (w4 := w4) (v4 := v4) HSEE.out a1 a2 a3 a4 a5 a6 (fun k hk => a7 k (by rw [World.size_alloc] at hk; omega)))
        have hbase : w.heap.size ≤ (w'.alloc (.cells #[.int .i64 i, .int .i64 (-1), .slice none 0 0] 52)).heap.size := a4.ch.size
        have HPC := Aside0.mk (shape_block_push.calls (w'.alloc (.cells #[.int .i64 i, .int .i64 (-1), .slice none 0 0] 52)) gs w'.heap.size w.heap.size (.slice A1 ps.length c1) ps (fun k => K1 k = 2) b1 b2 (fun h => by have h : K1 gs = 2 := h; omega) hbase (by have := HOK.out.2.1; have := HL.out; omega))
        clear a1 a2 a3 a4 a5 a6 a7 b1 b2 b3 b4 hbase HS HF HM HR HOP
        rcases hA1 with rfl | rfl
        all_goals
          go_upto_region 12 with (go_at_call 28; (with_reducible refine HPC.out.mono ?_); rintro e w4 ⟨rfl, v4, hb4, hr4, hc4⟩; have HA4 := Aside0.mk (HA1.out w4 v4 hb4 hr4 hc4 hgs); clear hb4 hr4 hc4)
          obtain ⟨p, hp⟩ : ∃ p, w'.heap.size = p := ⟨_, rfl⟩
          rw [hp] at HA4
          have HLN := Aside0.mk (show (ps ++ [p]).length = ps.length + 1 by simp)
          obtain ⟨h1, h2, h3, h4⟩ := HA4.out
          obtain ⟨A4, c4, b1, _⟩ := id h1
          have q4 : w4.cell? ⟨gs, 0, none⟩ = some (.slice A4 (ps ++ [p]).length c4) := b1.cell 0
          rw [HLN.out] at q4
          have HS4 := Aside0.mk h1
          have HF4 := Aside0.mk h2
          have HM4 := Aside0.mk h3
          have HR4 := Aside0.mk h4
          clear h1 h2 h3 h4 b1 HA4 HA1 HPC qg qs
          by_cases h8 : ps.length < 8
          · have HT4 := Aside0.mk (show scanTo cs (i + 1) = some (m, fs ++ [⟨i, -1, []⟩]) by rw [scanTo_succ HST.out, HSTEP.out, if_pos (by rw [HL.out]; exact h8)])
            have q5 : ¬ ((ps.length + 1 : Nat) : Int) > 8 := by omega
            go_wp2
            go_roundw
            case rel => exact ⟨i + 1, _, _, K1, _, T', by omega, by go_num, HT4, HS4, HF4, HM4, HR4⟩
            case measure => simp [intOf]; omega
          · have HT4 := Aside0.mk (scanAll_none hlt HST.out (by rw [HSTEP.out, if_neg (by rw [HL.out]; exact h8)]))
            have q5 : ((ps.length + 1 : Nat) : Int) > 8 := by omega
            go_wp2
            go_ret2
            exact ScanRes.fails HR4.out.ch HT4.out
      · have d48 : (v0 == 48) = false := by simp; omega
        have d51 : (v0 == 51) = false := by simp; omega
        by_cases h49 : v0 = 49
        · by_cases hl0 : ps.length = 0
          · have HSTEP := Aside0.mk (show scanStep cs i m fs = none from by
              have e0 : fs = [] := List.eq_nil_of_length_eq_zero (by rw [HL.out]; exact hl0)
              unfold scanStep
              rw [HOP.out, if_neg hA1, if_pos h49, e0]
              rfl)
            have HT4 := Aside0.mk (scanAll_none hlt HST.out HSTEP.out)
            subst h49
            have hd0 : decide ((ps.length : Int) - 1 < 0) = true := by simp; omega
            have HD := Aside0.mk (all_drew HSEE.out HS.out HF.out HM.out HR.out)
            clear HS HF HM HR HSTEP HOP hl0 qs qg hA1
            go_upto_region 15 with (fail)
            refine start_ (n := 32) (S := fun w' => True) (ds := []) #[false, false, false, false, false, false, false, false, false, false, false, false, false, false, false, false, false, false, false, false, false, false, false, false, false, false, false, false, false, false, false, false] (by kernel_rfl) rfl rfl trivial (fun hHeld => ?_); refine with_tabW shape_scan.tab15 shape_scan.bits15 (fun HT_ HW_ => ?_)
            generalize w'.drew = wd at HD hHeld ⊢
            refine pure_ (i := 0) (N := some 60) (v := ?_) (a' := ?_) #[true, false, false, false, false, false, false, false, false, false, false, false, false, false, false, false, false, false, false, false, false, false, false, false, false, false, false, false, false, false, false, false] rfl rfl (any_of HT_.out (by kernel_rfl)) (fun _ _ _ h => h) (Or.inl ⟨by rfl, ?_⟩) ?_ ?_
            rotate_left
            · intro w'
              go_simp
              with_reducible rfl
            rotate_left
            · simp only [Act.put, List.setIfInBounds_toArray, List.set_cons_zero, List.set_cons_succ, i64_w, i32_w]
              rfl
            refine pure_ (i := 1) (N := some 61) (v := ?_) (a' := ?_) #[true, true, false, false, false, false, false, false, false, false, false, false, false, false, false, false, false, false, false, false, false, false, false, false, false, false, false, false, false, false, false, false] rfl rfl (any_of HT_.out (by kernel_rfl)) (fun _ _ _ h => h) (Or.inl ⟨by rfl, ?_⟩) ?_ ?_
            rotate_left
            · intro w'
              go_simp
              with_reducible rfl
            rotate_left
            · simp only [Act.put, List.setIfInBounds_toArray, List.set_cons_zero, List.set_cons_succ, i64_w, i32_w]
              rfl
            refine pure_ (i := 2) (N := some 62) (v := ?_) (a' := ?_) #[true, true, true, false, false, false, false, false, false, false, false, false, false, false, false, false, false, false, false, false, false, false, false, false, false, false, false, false, false, false, false, false] rfl rfl (any_of HT_.out (by kernel_rfl)) (fun _ _ _ h => h) (Or.inl ⟨by rfl, ?_⟩) ?_ ?_
            rotate_left
            · intro w'
              go_simp
              with_reducible rfl
            rotate_left
            · simp only [Act.put, List.setIfInBounds_toArray, List.set_cons_zero, List.set_cons_succ, i64_w, i32_w]
              rfl
            refine pure_ (i := 3) (N := some 63) (v := undef) (a' := ?_) #[true, true, true, true, false, false, false, false, false, false, false, false, false, false, false, false, false, false, false, false, false, false, false, false, false, false, false, false, false, false, false, false] rfl rfl (any_of HT_.out (by kernel_rfl)) (fun _ _ _ h => h) (Or.inr ⟨by rfl, rfl⟩) ?_ ?_
            rotate_left
            · simp only [Act.put, List.setIfInBounds_toArray, List.set_cons_zero, List.set_cons_succ, i64_w, i32_w]
              rfl
            refine pure_ (i := 4) (N := some 64) (v := undef) (a' := ?_) #[true, true, true, true, true, false, false, false, false, false, false, false, false, false, false, false, false, false, false, false, false, false, false, false, false, false, false, false, false, false, false, false] rfl rfl (any_of HT_.out (by kernel_rfl)) (fun _ _ _ h => h) (Or.inr ⟨by rfl, rfl⟩) ?_ ?_
            rotate_left
            · simp only [Act.put, List.setIfInBounds_toArray, List.set_cons_zero, List.set_cons_succ, i64_w, i32_w]
              rfl
            refine pure_ (i := 5) (N := some 65) (v := undef) (a' := ?_) #[true, true, true, true, true, true, false, false, false, false, false, false, false, false, false, false, false, false, false, false, false, false, false, false, false, false, false, false, false, false, false, false] rfl rfl (any_of HT_.out (by kernel_rfl)) (fun _ _ _ h => h) (Or.inr ⟨by rfl, rfl⟩) ?_ ?_
            rotate_left
            · simp only [Act.put, List.setIfInBounds_toArray, List.set_cons_zero, List.set_cons_succ, i64_w, i32_w]
              rfl
            refine pure_ (i := 6) (N := some 66) (v := undef) (a' := ?_) #[true, true, true, true, true, true, true, false, false, false, false, false, false, false, false, false, false, false, false, false, false, false, false, false, false, false, false, false, false, false, false, false] rfl rfl (any_of HT_.out (by kernel_rfl)) (fun _ _ _ h => h) (Or.inr ⟨by rfl, rfl⟩) ?_ ?_
            rotate_left
            · simp only [Act.put, List.setIfInBounds_toArray, List.set_cons_zero, List.set_cons_succ, i64_w, i32_w]
              rfl
            refine pure_ (i := 7) (N := some 67) (v := undef) (a' := ?_) #[true, true, true, true, true, true, true, true, false, false, false, false, false, false, false, false, false, false, false, false, false, false, false, false, false, false, false, false, false, false, false, false] rfl rfl (any_of HT_.out (by kernel_rfl)) (fun _ _ _ h => h) (Or.inr ⟨by rfl, rfl⟩) ?_ ?_
            rotate_left
            · simp only [Act.put, List.setIfInBounds_toArray, List.set_cons_zero, List.set_cons_succ, i64_w, i32_w]
              rfl
            refine pure_ (i := 8) (N := some 68) (v := undef) (a' := ?_) #[true, true, true, true, true, true, true, true, true, false, false, false, false, false, false, false, false, false, false, false, false, false, false, false, false, false, false, false, false, false, false, false] rfl rfl (any_of HT_.out (by kernel_rfl)) (fun _ _ _ h => h) (Or.inr ⟨by rfl, rfl⟩) ?_ ?_
            rotate_left
            · simp only [Act.put, List.setIfInBounds_toArray, List.set_cons_zero, List.set_cons_succ, i64_w, i32_w]
              rfl
            refine pure_ (i := 9) (N := some 69) (v := undef) (a' := ?_) #[true, true, true, true, true, true, true, true, true, true, false, false, false, false, false, false, false, false, false, false, false, false, false, false, false, false, false, false, false, false, false, false] rfl rfl (any_of HT_.out (by kernel_rfl)) (fun _ _ _ h => h) (Or.inr ⟨by rfl, rfl⟩) ?_ ?_
            rotate_left
            · simp only [Act.put, List.setIfInBounds_toArray, List.set_cons_zero, List.set_cons_succ, i64_w, i32_w]
              rfl
            refine pure_ (i := 10) (N := some 70) (v := undef) (a' := ?_) #[true, true, true, true, true, true, true, true, true, true, true, false, false, false, false, false, false, false, false, false, false, false, false, false, false, false, false, false, false, false, false, false] rfl rfl (any_of HT_.out (by kernel_rfl)) (fun _ _ _ h => h) (Or.inr ⟨by rfl, rfl⟩) ?_ ?_
            rotate_left
            · simp only [Act.put, List.setIfInBounds_toArray, List.set_cons_zero, List.set_cons_succ, i64_w, i32_w]
              rfl
            refine pure_ (i := 11) (N := some 71) (v := undef) (a' := ?_) #[true, true, true, true, true, true, true, true, true, true, true, true, false, false, false, false, false, false, false, false, false, false, false, false, false, false, false, false, false, false, false, false] rfl rfl (any_of HT_.out (by kernel_rfl)) (fun _ _ _ h => h) (Or.inr ⟨by rfl, rfl⟩) ?_ ?_
            rotate_left
            · simp only [Act.put, List.setIfInBounds_toArray, List.set_cons_zero, List.set_cons_succ, i64_w, i32_w]
              rfl
            refine pure_ (i := 12) (N := some 72) (v := undef) (a' := ?_) #[true, true, true, true, true, true, true, true, true, true, true, true, true, false, false, false, false, false, false, false, false, false, false, false, false, false, false, false, false, false, false, false] rfl rfl (any_of HT_.out (by kernel_rfl)) (fun _ _ _ h => h) (Or.inr ⟨by rfl, rfl⟩) ?_ ?_
            rotate_left
            · simp only [Act.put, List.setIfInBounds_toArray, List.set_cons_zero, List.set_cons_succ, i64_w, i32_w]
              rfl
            refine pure_ (i := 13) (N := some 73) (v := undef) (a' := ?_) #[true, true, true, true, true, true, true, true, true, true, true, true, true, true, false, false, false, false, false, false, false, false, false, false, false, false, false, false, false, false, false, false] rfl rfl (any_of HT_.out (by kernel_rfl)) (fun _ _ _ h => h) (Or.inr ⟨by rfl, rfl⟩) ?_ ?_
            rotate_left
            · simp only [Act.put, List.setIfInBounds_toArray, List.set_cons_zero, List.set_cons_succ, i64_w, i32_w]
              rfl
            refine pure_ (i := 14) (N := some 74) (v := ?_) (a' := ?_) #[true, true, true, true, true, true, true, true, true, true, true, true, true, true, true, false, false, false, false, false, false, false, false, false, false, false, false, false, false, false, false, false] rfl rfl (any_of HT_.out (by kernel_rfl)) (fun _ _ _ h => h) (Or.inl ⟨by rfl, ?_⟩) ?_ ?_
            rotate_left
            · intro w'
              go_simp
              with_reducible rfl
            rotate_left
            · simp only [Act.put, List.setIfInBounds_toArray, List.set_cons_zero, List.set_cons_succ, i64_w, i32_w]
              rfl
            refine pure_ (i := 15) (N := some 75) (v := ?_) (a' := ?_) #[true, true, true, true, true, true, true, true, true, true, true, true, true, true, true, true, false, false, false, false, false, false, false, false, false, false, false, false, false, false, false, false] rfl rfl (any_of HT_.out (by kernel_rfl)) (fun _ _ _ h => h) (Or.inl ⟨by rfl, ?_⟩) ?_ ?_
            rotate_left
            · intro w'
              go_simp
              with_reducible rfl
            rotate_left
            · simp only [Act.put, List.setIfInBounds_toArray, List.set_cons_zero, List.set_cons_succ, i64_w, i32_w]
              rfl
            refine pure_ (i := 16) (N := some 76) (v := undef) (a' := ?_) #[true, true, true, true, true, true, true, true, true, true, true, true, true, true, true, true, true, false, false, false, false, false, false, false, false, false, false, false, false, false, false, false] rfl rfl (any_of HT_.out (by kernel_rfl)) (fun _ _ _ h => h) (Or.inr ⟨by rfl, rfl⟩) ?_ ?_
            rotate_left
            · simp only [Act.put, List.setIfInBounds_toArray, List.set_cons_zero, List.set_cons_succ, i64_w, i32_w]
              rfl
            refine pure_ (i := 17) (N := some 77) (v := undef) (a' := ?_) #[true, true, true, true, true, true, true, true, true, true, true, true, true, true, true, true, true, true, false, false, false, false, false, false, false, false, false, false, false, false, false, false] rfl rfl (any_of HT_.out (by kernel_rfl)) (fun _ _ _ h => h) (Or.inr ⟨by rfl, rfl⟩) ?_ ?_
            rotate_left
            · simp only [Act.put, List.setIfInBounds_toArray, List.set_cons_zero, List.set_cons_succ, i64_w, i32_w]
              rfl
            refine pure_ (i := 18) (N := some 78) (v := undef) (a' := ?_) #[true, true, true, true, true, true, true, true, true, true, true, true, true, true, true, true, true, true, true, false, false, false, false, false, false, false, false, false, false, false, false, false] rfl rfl (any_of HT_.out (by kernel_rfl)) (fun _ _ _ h => h) (Or.inr ⟨by rfl, rfl⟩) ?_ ?_
            rotate_left
            · simp only [Act.put, List.setIfInBounds_toArray, List.set_cons_zero, List.set_cons_succ, i64_w, i32_w]
              rfl
            refine pure_ (i := 19) (N := some 79) (v := undef) (a' := ?_) #[true, true, true, true, true, true, true, true, true, true, true, true, true, true, true, true, true, true, true, true, false, false, false, false, false, false, false, false, false, false, false, false] rfl rfl (any_of HT_.out (by kernel_rfl)) (fun _ _ _ h => h) (Or.inr ⟨by rfl, rfl⟩) ?_ ?_
            rotate_left
            · simp only [Act.put, List.setIfInBounds_toArray, List.set_cons_zero, List.set_cons_succ, i64_w, i32_w]
              rfl
            refine pure_ (i := 20) (N := some 80) (v := undef) (a' := ?_) #[true, true, true, true, true, true, true, true, true, true, true, true, true, true, true, true, true, true, true, true, true, false, false, false, false, false, false, false, false, false, false, false] rfl rfl (any_of HT_.out (by kernel_rfl)) (fun _ _ _ h => h) (Or.inr ⟨by rfl, rfl⟩) ?_ ?_
            rotate_left
            · simp only [Act.put, List.setIfInBounds_toArray, List.set_cons_zero, List.set_cons_succ, i64_w, i32_w]
              rfl
            refine pure_ (i := 21) (N := some 81) (v := undef) (a' := ?_) #[true, true, true, true, true, true, true, true, true, true, true, true, true, true, true, true, true, true, true, true, true, true, false, false, false, false, false, false, false, false, false, false] rfl rfl (any_of HT_.out (by kernel_rfl)) (fun _ _ _ h => h) (Or.inr ⟨by rfl, rfl⟩) ?_ ?_
            rotate_left
            · simp only [Act.put, List.setIfInBounds_toArray, List.set_cons_zero, List.set_cons_succ, i64_w, i32_w]
              rfl
            refine pure_ (i := 22) (N := some 82) (v := undef) (a' := ?_) #[true, true, true, true, true, true, true, true, true, true, true, true, true, true, true, true, true, true, true, true, true, true, true, false, false, false, false, false, false, false, false, false] rfl rfl (any_of HT_.out (by kernel_rfl)) (fun _ _ _ h => h) (Or.inr ⟨by rfl, rfl⟩) ?_ ?_
            rotate_left
            · simp only [Act.put, List.setIfInBounds_toArray, List.set_cons_zero, List.set_cons_succ, i64_w, i32_w]
              rfl
            refine pure_ (i := 23) (N := some 83) (v := undef) (a' := ?_) #[true, true, true, true, true, true, true, true, true, true, true, true, true, true, true, true, true, true, true, true, true, true, true, true, false, false, false, false, false, false, false, false] rfl rfl (any_of HT_.out (by kernel_rfl)) (fun _ _ _ h => h) (Or.inr ⟨by rfl, rfl⟩) ?_ ?_
            rotate_left
            · simp only [Act.put, List.setIfInBounds_toArray, List.set_cons_zero, List.set_cons_succ, i64_w, i32_w]
              rfl
            refine pure_ (i := 24) (N := some 84) (v := undef) (a' := ?_) #[true, true, true, true, true, true, true, true, true, true, true, true, true, true, true, true, true, true, true, true, true, true, true, true, true, false, false, false, false, false, false, false] rfl rfl (any_of HT_.out (by kernel_rfl)) (fun _ _ _ h => h) (Or.inr ⟨by rfl, rfl⟩) ?_ ?_
            rotate_left
            · simp only [Act.put, List.setIfInBounds_toArray, List.set_cons_zero, List.set_cons_succ, i64_w, i32_w]
              rfl
            refine pure_ (i := 25) (N := some 85) (v := undef) (a' := ?_) #[true, true, true, true, true, true, true, true, true, true, true, true, true, true, true, true, true, true, true, true, true, true, true, true, true, true, false, false, false, false, false, false] rfl rfl (any_of HT_.out (by kernel_rfl)) (fun _ _ _ h => h) (Or.inr ⟨by rfl, rfl⟩) ?_ ?_
            rotate_left
            · simp only [Act.put, List.setIfInBounds_toArray, List.set_cons_zero, List.set_cons_succ, i64_w, i32_w]
              rfl
            refine pure_ (i := 26) (N := some 86) (v := undef) (a' := ?_) #[true, true, true, true, true, true, true, true, true, true, true, true, true, true, true, true, true, true, true, true, true, true, true, true, true, true, true, false, false, false, false, false] rfl rfl (any_of HT_.out (by kernel_rfl)) (fun _ _ _ h => h) (Or.inr ⟨by rfl, rfl⟩) ?_ ?_
            rotate_left
            · simp only [Act.put, List.setIfInBounds_toArray, List.set_cons_zero, List.set_cons_succ, i64_w, i32_w]
              rfl
            refine pure_ (i := 27) (N := some 87) (v := undef) (a' := ?_) #[true, true, true, true, true, true, true, true, true, true, true, true, true, true, true, true, true, true, true, true, true, true, true, true, true, true, true, true, false, false, false, false] rfl rfl (any_of HT_.out (by kernel_rfl)) (fun _ _ _ h => h) (Or.inr ⟨by rfl, rfl⟩) ?_ ?_
            rotate_left
            · simp only [Act.put, List.setIfInBounds_toArray, List.set_cons_zero, List.set_cons_succ, i64_w, i32_w]
              rfl
            refine pure_ (i := 28) (N := some 88) (v := undef) (a' := ?_) #[true, true, true, true, true, true, true, true, true, true, true, true, true, true, true, true, true, true, true, true, true, true, true, true, true, true, true, true, true, false, false, false] rfl rfl (any_of HT_.out (by kernel_rfl)) (fun _ _ _ h => h) (Or.inr ⟨by rfl, rfl⟩) ?_ ?_
            rotate_left
            · simp only [Act.put, List.setIfInBounds_toArray, List.set_cons_zero, List.set_cons_succ, i64_w, i32_w]
              rfl
            refine pure_ (i := 29) (N := some 89) (v := undef) (a' := ?_) #[true, true, true, true, true, true, true, true, true, true, true, true, true, true, true, true, true, true, true, true, true, true, true, true, true, true, true, true, true, true, false, false] rfl rfl (any_of HT_.out (by kernel_rfl)) (fun _ _ _ h => h) (Or.inr ⟨by rfl, rfl⟩) ?_ ?_
            rotate_left
            · simp only [Act.put, List.setIfInBounds_toArray, List.set_cons_zero, List.set_cons_succ, i64_w, i32_w]
              rfl
            refine pure_ (i := 30) (N := some 90) (v := undef) (a' := ?_) #[true, true, true, true, true, true, true, true, true, true, true, true, true, true, true, true, true, true, true, true, true, true, true, true, true, true, true, true, true, true, true, false] rfl rfl (any_of HT_.out (by kernel_rfl)) (fun _ _ _ h => h) (Or.inr ⟨by rfl, rfl⟩) ?_ ?_
            rotate_left
            · simp only [Act.put, List.setIfInBounds_toArray, List.set_cons_zero, List.set_cons_succ, i64_w, i32_w]
              rfl
            refine pure_ (i := 31) (N := some 91) (v := ?_) (a' := ?_) #[true, true, true, true, true, true, true, true, true, true, true, true, true, true, true, true, true, true, true, true, true, true, true, true, true, true, true, true, true, true, true, true] rfl rfl (any_of HT_.out (by kernel_rfl)) (fun _ _ _ h => h) (Or.inl ⟨by rfl, ?_⟩) ?_ ?_
            rotate_left
            · intro w'
              go_simp
              with_reducible rfl
            rotate_left
            · simp only [Act.put, List.setIfInBounds_toArray, List.set_cons_zero, List.set_cons_succ, i64_w, i32_w]
              rfl
            refine done_ (done_of HT_.out (by kernel_rfl)) ?_
            clear hHeld
            go_wp2
            go_ret2
            exact ScanRes.fails HD.out.2.2.2.ch HT4.out
          · obtain ⟨k, hk⟩ : ∃ k, ps.length = k + 1 := ⟨ps.length - 1, by omega⟩
            have hk1 : (ps.length : Int) - 1 = (k : Int) := by omega
            obtain ⟨D1, D2, D3, D4⟩ := all_drew HSEE.out HS.out HF.out HM.out HR.out
            obtain ⟨p, b, adS, cS', lv, t0, t1, t2, t3, t4, t5, t6, t7, t8, t9, t10⟩ := top_ok D1 D2 hk
            have hb := HOK.out.2.2 b (getLast_mem' t9)
            have hcw := D4.cs_ HC.out HA.out
            obtain ⟨ad', eA, k5, k6⟩ := at_Ins hcw b.a (by omega)
            clear k6
            cases eA
            have hopb : opAt cs b.a = cs[b.a].f0 := opAt_lt (by omega)
            obtain ⟨vb, hvb⟩ : ∃ v, cs[b.a].f0 = v := ⟨_, rfl⟩
            rw [hvb] at k5 hopb
            have kbx : w'.drew.cell? ⟨w.heap.size, 0, none⟩ = some (.slice (some ad) cs.length cc) := D4.bx.cell 0
            have qk : (k : Int) < (ps.length : Int) := by omega
            have qa : (b.a : Int) < (cs.length : Int) := by omega
            have hd0 : decide ((k : Int) < 0) = false := by simp
            have HSTEP := Aside0.mk (show scanStep cs i m fs = if 0 ≤ b.o ∨ vb ≠ 48 then none else some (m.set b.a i, fs.set k ⟨b.a, i, b.l⟩) from by
              unfold scanStep
              rw [HOP.out, if_neg hA1, if_pos h49, t9, show fs.length - 1 = k by rw [HL.out]; omega]
              show (if 0 ≤ b.o ∨ opAt cs b.a ≠ 48 then _ else _) = _
              rw [hopb])
            obtain ⟨hpk, hpe⟩ := t8
            have HT10 := Aside0.mk t10
            have HHB := Aside0.mk hb
            have HD1 := Aside0.mk D1
            have HD2 := Aside0.mk D2
            have HD3 := Aside0.mk D3
            have HD4 := Aside0.mk D4
            have HPK := Aside0.mk hpe
            obtain ⟨ba, hba⟩ : ∃ x, b.a = x := ⟨_, rfl⟩
            obtain ⟨bo, hbo⟩ : ∃ x, b.o = x := ⟨_, rfl⟩
            rw [hba] at t2 k5 qa
            rw [hbo] at t3
            have T5 := Aside0.mk t5
            have HKK := Aside0.mk hk
            subst h49
            go_upto_region 15 with (fail)
            rw [hk1, show wrap64 (k : Int) = (k : Int) by rw [← hk1]; exact hwn]
            clear HS HF HM HR qs qg hA1 hcw hopb hvb t4 t5 t6 t7 t9 t10 hb hk1 D1 D2 D3 D4 hpe hwn hk
            by_cases ho : 0 ≤ bo
            · have hd1 : decide (bo ≥ 0) = true := by simp; exact ho
              have HT4 := Aside0.mk (scanAll_none hlt HST.out (by rw [HSTEP.out, if_pos (.inl (by rw [hbo]; exact ho))]))
              refine start_ (n := 32) (S := fun w' => w'.cell? ⟨gs, 0, none⟩ = some (.slice (some adS) ps.length cS') ∧ w'.cell? (adS.add k) = some (.pointer (some ⟨p, 0, none⟩)) ∧ w'.cell? ⟨p, 1, none⟩ = some (.int .i64 bo)) (ds := []) #[false, false, false, false, false, false, false, false, false, false, false, false, false, false, false, false, false, false, false, false, false, false, false, false, false, false, false, false, false, false, false, false] (by kernel_rfl) rfl rfl ⟨t0, t1, t3⟩ (fun hHeld => ?_); refine with_tabW shape_scan.tab15 shape_scan.bits15 (fun HT_ HW_ => ?_)
              generalize w'.drew = wd at t0 t1 t3 HD4 hHeld ⊢
              refine pure_ (i := 0) (N := some 60) (v := ?_) (a' := ?_) #[true, false, false, false, false, false, false, false, false, false, false, false, false, false, false, false, false, false, false, false, false, false, false, false, false, false, false, false, false, false, false, false] rfl rfl (any_of HT_.out (by kernel_rfl)) (fun _ _ _ h => h) (Or.inl ⟨by rfl, ?_⟩) ?_ ?_
              rotate_left
              · intro w'
                go_simp
                with_reducible rfl
              rotate_left
              · simp only [Act.put, List.setIfInBounds_toArray, List.set_cons_zero, List.set_cons_succ, i64_w, i32_w]
                rfl
              refine pure_ (i := 1) (N := some 61) (v := ?_) (a' := ?_) #[true, true, false, false, false, false, false, false, false, false, false, false, false, false, false, false, false, false, false, false, false, false, false, false, false, false, false, false, false, false, false, false] rfl rfl (any_of HT_.out (by kernel_rfl)) (fun _ _ _ h => h) (Or.inl ⟨by rfl, ?_⟩) ?_ ?_
              rotate_left
              · intro w'
                go_simp
                with_reducible rfl
              rotate_left
              · simp only [Act.put, List.setIfInBounds_toArray, List.set_cons_zero, List.set_cons_succ, i64_w, i32_w]
                rfl
              refine pure_ (i := 2) (N := some 62) (v := ?_) (a' := ?_) #[true, true, true, false, false, false, false, false, false, false, false, false, false, false, false, false, false, false, false, false, false, false, false, false, false, false, false, false, false, false, false, false] rfl rfl (any_of HT_.out (by kernel_rfl)) (fun _ _ _ h => h) (Or.inl ⟨by rfl, ?_⟩) ?_ ?_
              rotate_left
              · intro w'
                go_simp
                with_reducible rfl
              rotate_left
              · simp only [Act.put, List.setIfInBounds_toArray, List.set_cons_zero, List.set_cons_succ, i64_w, i32_w]
                rfl
              refine pure_ (i := 3) (N := some 63) (v := ?_) (a' := ?_) #[true, true, true, true, false, false, false, false, false, false, false, false, false, false, false, false, false, false, false, false, false, false, false, false, false, false, false, false, false, false, false, false] rfl rfl (any_of HT_.out (by kernel_rfl)) (fun _ _ _ h => h) (Or.inl ⟨by rfl, ?_⟩) ?_ ?_
              rotate_left
              · intro w'
                go_simp
                with_reducible rfl
              rotate_left
              · simp only [Act.put, List.setIfInBounds_toArray, List.set_cons_zero, List.set_cons_succ, i64_w, i32_w]
                rfl
              refine pure_ (i := 4) (N := some 64) (v := ?_) (a' := ?_) #[true, true, true, true, true, false, false, false, false, false, false, false, false, false, false, false, false, false, false, false, false, false, false, false, false, false, false, false, false, false, false, false] rfl rfl (any_of HT_.out (by kernel_rfl)) (fun _ _ _ h => h) (Or.inl ⟨by rfl, ?_⟩) ?_ ?_
              rotate_left
              · intro w'
                go_simp
                with_reducible rfl
              rotate_left
              · simp only [Act.put, List.setIfInBounds_toArray, List.set_cons_zero, List.set_cons_succ, i64_w, i32_w]
                rfl
              refine pure_ (i := 5) (N := some 65) (v := ?_) (a' := ?_) #[true, true, true, true, true, true, false, false, false, false, false, false, false, false, false, false, false, false, false, false, false, false, false, false, false, false, false, false, false, false, false, false] rfl rfl (any_of HT_.out (by kernel_rfl)) (fun _ _ _ h => h) (Or.inl ⟨by rfl, ?_⟩) ?_ ?_
              rotate_left
              · intro w'
                go_simp
                with_reducible rfl
              rotate_left
              · simp only [Act.put, List.setIfInBounds_toArray, List.set_cons_zero, List.set_cons_succ, i64_w, i32_w]
                rfl
              refine pure_ (i := 7) (N := some 67) (v := ?_) (a' := ?_) #[true, true, true, true, true, true, false, true, false, false, false, false, false, false, false, false, false, false, false, false, false, false, false, false, false, false, false, false, false, false, false, false] rfl rfl (any_of HT_.out (by kernel_rfl)) (fun _ _ _ h => h) (Or.inl ⟨by rfl, ?_⟩) ?_ ?_
              rotate_left
              · intro w'
                go_simp
                with_reducible rfl
              rotate_left
              · simp only [Act.put, List.setIfInBounds_toArray, List.set_cons_zero, List.set_cons_succ, i64_w, i32_w]
                rfl
              refine take_ (i := 6) (N := some 66) (v := ?_) (a' := ?_) #[true, true, true, true, true, true, true, true, false, false, false, false, false, false, false, false, false, false, false, false, false, false, false, false, false, false, false, false, false, false, false, false] rfl rfl (take_ofW HT_.out HW_.out (by kernel_rfl)) (fun _ _ _ h => h) (Or.inl ⟨by rfl, ?_⟩) hHeld ?_ ?_
              rotate_left
              · rintro w' ⟨s0, s1, s2⟩
                go_simp
                with_reducible rfl
              rotate_left
              · simp only [Act.put, List.setIfInBounds_toArray, List.set_cons_zero, List.set_cons_succ, i64_w, i32_w]
                rfl
              refine pure_ (i := 8) (N := some 68) (v := ?_) (a' := ?_) #[true, true, true, true, true, true, true, true, true, false, false, false, false, false, false, false, false, false, false, false, false, false, false, false, false, false, false, false, false, false, false, false] rfl rfl (any_of HT_.out (by kernel_rfl)) (fun _ _ _ h => h) (Or.inl ⟨by rfl, ?_⟩) ?_ ?_
              rotate_left
              · intro w'
                go_simp
                with_reducible rfl
              rotate_left
              · simp only [Act.put, List.setIfInBounds_toArray, List.set_cons_zero, List.set_cons_succ, i64_w, i32_w]
                rfl
              refine take_ (i := 9) (N := some 69) (v := ?_) (a' := ?_) #[true, true, true, true, true, true, true, true, true, true, false, false, false, false, false, false, false, false, false, false, false, false, false, false, false, false, false, false, false, false, false, false] rfl rfl (take_ofW HT_.out HW_.out (by kernel_rfl)) (fun _ _ _ h => h) (Or.inl ⟨by rfl, ?_⟩) hHeld ?_ ?_
              rotate_left
              · rintro w' ⟨s0, s1, s2⟩
                go_simp
                with_reducible rfl
              rotate_left
              · simp only [Act.put, List.setIfInBounds_toArray, List.set_cons_zero, List.set_cons_succ, i64_w, i32_w]
                rfl
              refine pure_ (i := 10) (N := some 70) (v := ?_) (a' := ?_) #[true, true, true, true, true, true, true, true, true, true, true, false, false, false, false, false, false, false, false, false, false, false, false, false, false, false, false, false, false, false, false, false] rfl rfl (any_of HT_.out (by kernel_rfl)) (fun _ _ _ h => h) (Or.inl ⟨by rfl, ?_⟩) ?_ ?_
              rotate_left
              · intro w'
                go_simp
                with_reducible rfl
              rotate_left
              · simp only [Act.put, List.setIfInBounds_toArray, List.set_cons_zero, List.set_cons_succ, i64_w, i32_w]
                rfl
              refine pure_ (i := 11) (N := some 71) (v := ?_) (a' := ?_) #[true, true, true, true, true, true, true, true, true, true, true, true, false, false, false, false, false, false, false, false, false, false, false, false, false, false, false, false, false, false, false, false] rfl rfl (any_of HT_.out (by kernel_rfl)) (fun _ _ _ h => h) (Or.inl ⟨by rfl, ?_⟩) ?_ ?_
              rotate_left
              · intro w'
                go_simp
                with_reducible rfl
              rotate_left
              · simp only [Act.put, List.setIfInBounds_toArray, List.set_cons_zero, List.set_cons_succ, i64_w, i32_w]
                rfl
              refine take_ (i := 12) (N := some 72) (v := ?_) (a' := ?_) #[true, true, true, true, true, true, true, true, true, true, true, true, true, false, false, false, false, false, false, false, false, false, false, false, false, false, false, false, false, false, false, false] rfl rfl (take_ofW HT_.out HW_.out (by kernel_rfl)) (fun _ _ _ h => h) (Or.inl ⟨by rfl, ?_⟩) hHeld ?_ ?_
              rotate_left
              · rintro w' ⟨s0, s1, s2⟩
                go_simp
                with_reducible rfl
              rotate_left
              · simp only [Act.put, List.setIfInBounds_toArray, List.set_cons_zero, List.set_cons_succ, i64_w, i32_w]
                rfl
              refine pure_ (i := 13) (N := some 73) (v := ?_) (a' := ?_) #[true, true, true, true, true, true, true, true, true, true, true, true, true, true, false, false, false, false, false, false, false, false, false, false, false, false, false, false, false, false, false, false] rfl rfl (any_of HT_.out (by kernel_rfl)) (fun _ _ _ h => h) (Or.inl ⟨by rfl, ?_⟩) ?_ ?_
              rotate_left
              · intro w'
                go_simp
                with_reducible rfl
              rotate_left
              · simp only [Act.put, List.setIfInBounds_toArray, List.set_cons_zero, List.set_cons_succ, i64_w, i32_w]
                rfl
              refine pure_ (i := 14) (N := some 74) (v := ?_) (a' := ?_) #[true, true, true, true, true, true, true, true, true, true, true, true, true, true, true, false, false, false, false, false, false, false, false, false, false, false, false, false, false, false, false, false] rfl rfl (any_of HT_.out (by kernel_rfl)) (fun _ _ _ h => h) (Or.inl ⟨by rfl, ?_⟩) ?_ ?_
              rotate_left
              · intro w'
                go_simp
                with_reducible rfl
              rotate_left
              · simp only [Act.put, List.setIfInBounds_toArray, List.set_cons_zero, List.set_cons_succ, i64_w, i32_w]
                rfl
              refine pure_ (i := 15) (N := some 75) (v := ?_) (a' := ?_) #[true, true, true, true, true, true, true, true, true, true, true, true, true, true, true, true, false, false, false, false, false, false, false, false, false, false, false, false, false, false, false, false] rfl rfl (any_of HT_.out (by kernel_rfl)) (fun _ _ _ h => h) (Or.inl ⟨by rfl, ?_⟩) ?_ ?_
              rotate_left
              · intro w'
                go_simp
                with_reducible rfl
              rotate_left
              · simp only [Act.put, List.setIfInBounds_toArray, List.set_cons_zero, List.set_cons_succ, i64_w, i32_w]
                rfl
              refine pure_ (i := 16) (N := some 76) (v := undef) (a' := ?_) #[true, true, true, true, true, true, true, true, true, true, true, true, true, true, true, true, true, false, false, false, false, false, false, false, false, false, false, false, false, false, false, false] rfl rfl (any_of HT_.out (by kernel_rfl)) (fun _ _ _ h => h) (Or.inr ⟨by rfl, rfl⟩) ?_ ?_
              rotate_left
              · simp only [Act.put, List.setIfInBounds_toArray, List.set_cons_zero, List.set_cons_succ, i64_w, i32_w]
                rfl
              refine pure_ (i := 17) (N := some 77) (v := undef) (a' := ?_) #[true, true, true, true, true, true, true, true, true, true, true, true, true, true, true, true, true, true, false, false, false, false, false, false, false, false, false, false, false, false, false, false] rfl rfl (any_of HT_.out (by kernel_rfl)) (fun _ _ _ h => h) (Or.inr ⟨by rfl, rfl⟩) ?_ ?_
              rotate_left
              · simp only [Act.put, List.setIfInBounds_toArray, List.set_cons_zero, List.set_cons_succ, i64_w, i32_w]
                rfl
              refine pure_ (i := 18) (N := some 78) (v := undef) (a' := ?_) #[true, true, true, true, true, true, true, true, true, true, true, true, true, true, true, true, true, true, true, false, false, false, false, false, false, false, false, false, false, false, false, false] rfl rfl (any_of HT_.out (by kernel_rfl)) (fun _ _ _ h => h) (Or.inr ⟨by rfl, rfl⟩) ?_ ?_
              rotate_left
              · simp only [Act.put, List.setIfInBounds_toArray, List.set_cons_zero, List.set_cons_succ, i64_w, i32_w]
                rfl
              refine pure_ (i := 19) (N := some 79) (v := undef) (a' := ?_) #[true, true, true, true, true, true, true, true, true, true, true, true, true, true, true, true, true, true, true, true, false, false, false, false, false, false, false, false, false, false, false, false] rfl rfl (any_of HT_.out (by kernel_rfl)) (fun _ _ _ h => h) (Or.inr ⟨by rfl, rfl⟩) ?_ ?_
              rotate_left
              · simp only [Act.put, List.setIfInBounds_toArray, List.set_cons_zero, List.set_cons_succ, i64_w, i32_w]
                rfl
              refine pure_ (i := 20) (N := some 80) (v := undef) (a' := ?_) #[true, true, true, true, true, true, true, true, true, true, true, true, true, true, true, true, true, true, true, true, true, false, false, false, false, false, false, false, false, false, false, false] rfl rfl (any_of HT_.out (by kernel_rfl)) (fun _ _ _ h => h) (Or.inr ⟨by rfl, rfl⟩) ?_ ?_
              rotate_left
              · simp only [Act.put, List.setIfInBounds_toArray, List.set_cons_zero, List.set_cons_succ, i64_w, i32_w]
                rfl
              refine pure_ (i := 21) (N := some 81) (v := undef) (a' := ?_) #[true, true, true, true, true, true, true, true, true, true, true, true, true, true, true, true, true, true, true, true, true, true, false, false, false, false, false, false, false, false, false, false] rfl rfl (any_of HT_.out (by kernel_rfl)) (fun _ _ _ h => h) (Or.inr ⟨by rfl, rfl⟩) ?_ ?_
              rotate_left
              · simp only [Act.put, List.setIfInBounds_toArray, List.set_cons_zero, List.set_cons_succ, i64_w, i32_w]
                rfl
              refine pure_ (i := 22) (N := some 82) (v := undef) (a' := ?_) #[true, true, true, true, true, true, true, true, true, true, true, true, true, true, true, true, true, true, true, true, true, true, true, false, false, false, false, false, false, false, false, false] rfl rfl (any_of HT_.out (by kernel_rfl)) (fun _ _ _ h => h) (Or.inr ⟨by rfl, rfl⟩) ?_ ?_
              rotate_left
              · simp only [Act.put, List.setIfInBounds_toArray, List.set_cons_zero, List.set_cons_succ, i64_w, i32_w]
                rfl
              refine pure_ (i := 23) (N := some 83) (v := undef) (a' := ?_) #[true, true, true, true, true, true, true, true, true, true, true, true, true, true, true, true, true, true, true, true, true, true, true, true, false, false, false, false, false, false, false, false] rfl rfl (any_of HT_.out (by kernel_rfl)) (fun _ _ _ h => h) (Or.inr ⟨by rfl, rfl⟩) ?_ ?_
              rotate_left
              · simp only [Act.put, List.setIfInBounds_toArray, List.set_cons_zero, List.set_cons_succ, i64_w, i32_w]
                rfl
              refine pure_ (i := 24) (N := some 84) (v := undef) (a' := ?_) #[true, true, true, true, true, true, true, true, true, true, true, true, true, true, true, true, true, true, true, true, true, true, true, true, true, false, false, false, false, false, false, false] rfl rfl (any_of HT_.out (by kernel_rfl)) (fun _ _ _ h => h) (Or.inr ⟨by rfl, rfl⟩) ?_ ?_
              rotate_left
              · simp only [Act.put, List.setIfInBounds_toArray, List.set_cons_zero, List.set_cons_succ, i64_w, i32_w]
                rfl
              refine pure_ (i := 25) (N := some 85) (v := undef) (a' := ?_) #[true, true, true, true, true, true, true, true, true, true, true, true, true, true, true, true, true, true, true, true, true, true, true, true, true, true, false, false, false, false, false, false] rfl rfl (any_of HT_.out (by kernel_rfl)) (fun _ _ _ h => h) (Or.inr ⟨by rfl, rfl⟩) ?_ ?_
              rotate_left
              · simp only [Act.put, List.setIfInBounds_toArray, List.set_cons_zero, List.set_cons_succ, i64_w, i32_w]
                rfl
              refine pure_ (i := 26) (N := some 86) (v := undef) (a' := ?_) #[true, true, true, true, true, true, true, true, true, true, true, true, true, true, true, true, true, true, true, true, true, true, true, true, true, true, true, false, false, false, false, false] rfl rfl (any_of HT_.out (by kernel_rfl)) (fun _ _ _ h => h) (Or.inr ⟨by rfl, rfl⟩) ?_ ?_
              rotate_left
              · simp only [Act.put, List.setIfInBounds_toArray, List.set_cons_zero, List.set_cons_succ, i64_w, i32_w]
                rfl
              refine pure_ (i := 27) (N := some 87) (v := undef) (a' := ?_) #[true, true, true, true, true, true, true, true, true, true, true, true, true, true, true, true, true, true, true, true, true, true, true, true, true, true, true, true, false, false, false, false] rfl rfl (any_of HT_.out (by kernel_rfl)) (fun _ _ _ h => h) (Or.inr ⟨by rfl, rfl⟩) ?_ ?_
              rotate_left
              · simp only [Act.put, List.setIfInBounds_toArray, List.set_cons_zero, List.set_cons_succ, i64_w, i32_w]
                rfl
              refine pure_ (i := 28) (N := some 88) (v := undef) (a' := ?_) #[true, true, true, true, true, true, true, true, true, true, true, true, true, true, true, true, true, true, true, true, true, true, true, true, true, true, true, true, true, false, false, false] rfl rfl (any_of HT_.out (by kernel_rfl)) (fun _ _ _ h => h) (Or.inr ⟨by rfl, rfl⟩) ?_ ?_
              rotate_left
              · simp only [Act.put, List.setIfInBounds_toArray, List.set_cons_zero, List.set_cons_succ, i64_w, i32_w]
                rfl
              refine pure_ (i := 29) (N := some 89) (v := undef) (a' := ?_) #[true, true, true, true, true, true, true, true, true, true, true, true, true, true, true, true, true, true, true, true, true, true, true, true, true, true, true, true, true, true, false, false] rfl rfl (any_of HT_.out (by kernel_rfl)) (fun _ _ _ h => h) (Or.inr ⟨by rfl, rfl⟩) ?_ ?_
              rotate_left
              · simp only [Act.put, List.setIfInBounds_toArray, List.set_cons_zero, List.set_cons_succ, i64_w, i32_w]
                rfl
              refine pure_ (i := 30) (N := some 90) (v := undef) (a' := ?_) #[true, true, true, true, true, true, true, true, true, true, true, true, true, true, true, true, true, true, true, true, true, true, true, true, true, true, true, true, true, true, true, false] rfl rfl (any_of HT_.out (by kernel_rfl)) (fun _ _ _ h => h) (Or.inr ⟨by rfl, rfl⟩) ?_ ?_
              rotate_left
              · simp only [Act.put, List.setIfInBounds_toArray, List.set_cons_zero, List.set_cons_succ, i64_w, i32_w]
                rfl
              refine pure_ (i := 31) (N := some 91) (v := ?_) (a' := ?_) #[true, true, true, true, true, true, true, true, true, true, true, true, true, true, true, true, true, true, true, true, true, true, true, true, true, true, true, true, true, true, true, true] rfl rfl (any_of HT_.out (by kernel_rfl)) (fun _ _ _ h => h) (Or.inl ⟨by rfl, ?_⟩) ?_ ?_
              rotate_left
              · intro w'
                go_simp
                with_reducible rfl
              rotate_left
              · simp only [Act.put, List.setIfInBounds_toArray, List.set_cons_zero, List.set_cons_succ, i64_w, i32_w]
                rfl
              refine done_ (done_of HT_.out (by kernel_rfl)) ?_
              clear hHeld
              go_wp2
              go_ret2
              exact ScanRes.fails HD4.out.ch HT4.out
            · have hd1 : decide (bo ≥ 0) = false := by simp; omega
              by_cases hv : vb = 48
              · subst hv
                have HT4 := Aside0.mk (show scanTo cs (i + 1) = some (m.set ba i, fs.set k ⟨ba, i, b.l⟩) by rw [scanTo_succ HST.out, HSTEP.out, if_neg (by rw [hbo]; omega), hba])
                refine start_ (n := 32) (S := fun w' => w'.cell? ⟨gs, 0, none⟩ = some (.slice (some adS) ps.length cS') ∧ w'.cell? (adS.add k) = some (.pointer (some ⟨p, 0, none⟩)) ∧ w'.cell? ⟨p, 0, none⟩ = some (.int .i64 ba) ∧ w'.cell? ⟨p, 1, none⟩ = some (.int .i64 bo) ∧ w'.cell? (ad.add (ba * 2)) = some (.int .i64 48) ∧ w'.cell? ⟨w.heap.size, 0, none⟩ = some (.slice (some ad) cs.length cc)) (ds := []) #[false, false, false, false, false, false, false, false, false, false, false, false, false, false, false, false, false, false, false, false, false, false, false, false, false, false, false, false, false, false, false, false] (by kernel_rfl) rfl rfl ⟨t0, t1, t2, t3, k5, kbx⟩ (fun hHeld => ?_); refine with_tabW shape_scan.tab15 shape_scan.bits15 (fun HT_ HW_ => ?_)
                generalize w'.drew = wd at t0 t1 t2 t3 k5 kbx HD1 HD2 HD3 HD4 T5 hHeld ⊢
                refine pure_ (i := 0) (N := some 60) (v := ?_) (a' := ?_) #[true, false, false, false, false, false, false, false, false, false, false, false, false, false, false, false, false, false, false, false, false, false, false, false, false, false, false, false, false, false, false, false] rfl rfl (any_of HT_.out (by kernel_rfl)) (fun _ _ _ h => h) (Or.inl ⟨by rfl, ?_⟩) ?_ ?_
                rotate_left
                · intro w'
                  go_simp
                  with_reducible rfl
                rotate_left
                · simp only [Act.put, List.setIfInBounds_toArray, List.set_cons_zero, List.set_cons_succ, i64_w, i32_w]
                  rfl
                refine pure_ (i := 1) (N := some 61) (v := ?_) (a' := ?_) #[true, true, false, false, false, false, false, false, false, false, false, false, false, false, false, false, false, false, false, false, false, false, false, false, false, false, false, false, false, false, false, false] rfl rfl (any_of HT_.out (by kernel_rfl)) (fun _ _ _ h => h) (Or.inl ⟨by rfl, ?_⟩) ?_ ?_
                rotate_left
                · intro w'
                  go_simp
                  with_reducible rfl
                rotate_left
                · simp only [Act.put, List.setIfInBounds_toArray, List.set_cons_zero, List.set_cons_succ, i64_w, i32_w]
                  rfl
                refine pure_ (i := 2) (N := some 62) (v := ?_) (a' := ?_) #[true, true, true, false, false, false, false, false, false, false, false, false, false, false, false, false, false, false, false, false, false, false, false, false, false, false, false, false, false, false, false, false] rfl rfl (any_of HT_.out (by kernel_rfl)) (fun _ _ _ h => h) (Or.inl ⟨by rfl, ?_⟩) ?_ ?_
                rotate_left
                · intro w'
                  go_simp
                  with_reducible rfl
                rotate_left
                · simp only [Act.put, List.setIfInBounds_toArray, List.set_cons_zero, List.set_cons_succ, i64_w, i32_w]
                  rfl
                refine pure_ (i := 3) (N := some 63) (v := ?_) (a' := ?_) #[true, true, true, true, false, false, false, false, false, false, false, false, false, false, false, false, false, false, false, false, false, false, false, false, false, false, false, false, false, false, false, false] rfl rfl (any_of HT_.out (by kernel_rfl)) (fun _ _ _ h => h) (Or.inl ⟨by rfl, ?_⟩) ?_ ?_
                rotate_left
                · intro w'
                  go_simp
                  with_reducible rfl
                rotate_left
                · simp only [Act.put, List.setIfInBounds_toArray, List.set_cons_zero, List.set_cons_succ, i64_w, i32_w]
                  rfl
                refine pure_ (i := 4) (N := some 64) (v := ?_) (a' := ?_) #[true, true, true, true, true, false, false, false, false, false, false, false, false, false, false, false, false, false, false, false, false, false, false, false, false, false, false, false, false, false, false, false] rfl rfl (any_of HT_.out (by kernel_rfl)) (fun _ _ _ h => h) (Or.inl ⟨by rfl, ?_⟩) ?_ ?_
                rotate_left
                · intro w'
                  go_simp
                  with_reducible rfl
                rotate_left
                · simp only [Act.put, List.setIfInBounds_toArray, List.set_cons_zero, List.set_cons_succ, i64_w, i32_w]
                  rfl
                refine pure_ (i := 5) (N := some 65) (v := ?_) (a' := ?_) #[true, true, true, true, true, true, false, false, false, false, false, false, false, false, false, false, false, false, false, false, false, false, false, false, false, false, false, false, false, false, false, false] rfl rfl (any_of HT_.out (by kernel_rfl)) (fun _ _ _ h => h) (Or.inl ⟨by rfl, ?_⟩) ?_ ?_
                rotate_left
                · intro w'
                  go_simp
                  with_reducible rfl
                rotate_left
                · simp only [Act.put, List.setIfInBounds_toArray, List.set_cons_zero, List.set_cons_succ, i64_w, i32_w]
                  rfl
                refine pure_ (i := 7) (N := some 67) (v := ?_) (a' := ?_) #[true, true, true, true, true, true, false, true, false, false, false, false, false, false, false, false, false, false, false, false, false, false, false, false, false, false, false, false, false, false, false, false] rfl rfl (any_of HT_.out (by kernel_rfl)) (fun _ _ _ h => h) (Or.inl ⟨by rfl, ?_⟩) ?_ ?_
                rotate_left
                · intro w'
                  go_simp
                  with_reducible rfl
                rotate_left
                · simp only [Act.put, List.setIfInBounds_toArray, List.set_cons_zero, List.set_cons_succ, i64_w, i32_w]
                  rfl
                refine take_ (i := 6) (N := some 66) (v := ?_) (a' := ?_) #[true, true, true, true, true, true, true, true, false, false, false, false, false, false, false, false, false, false, false, false, false, false, false, false, false, false, false, false, false, false, false, false] rfl rfl (take_ofW HT_.out HW_.out (by kernel_rfl)) (fun _ _ _ h => h) (Or.inl ⟨by rfl, ?_⟩) hHeld ?_ ?_
                rotate_left
                · rintro w' ⟨s0, s1, s2, s3, s4, s5⟩
                  go_simp
                  with_reducible rfl
                rotate_left
                · simp only [Act.put, List.setIfInBounds_toArray, List.set_cons_zero, List.set_cons_succ, i64_w, i32_w]
                  rfl
                refine pure_ (i := 8) (N := some 68) (v := ?_) (a' := ?_) #[true, true, true, true, true, true, true, true, true, false, false, false, false, false, false, false, false, false, false, false, false, false, false, false, false, false, false, false, false, false, false, false] rfl rfl (any_of HT_.out (by kernel_rfl)) (fun _ _ _ h => h) (Or.inl ⟨by rfl, ?_⟩) ?_ ?_
                rotate_left
                · intro w'
                  go_simp
                  with_reducible rfl
                rotate_left
                · simp only [Act.put, List.setIfInBounds_toArray, List.set_cons_zero, List.set_cons_succ, i64_w, i32_w]
                  rfl
                refine take_ (i := 9) (N := some 69) (v := ?_) (a' := ?_) #[true, true, true, true, true, true, true, true, true, true, false, false, false, false, false, false, false, false, false, false, false, false, false, false, false, false, false, false, false, false, false, false] rfl rfl (take_ofW HT_.out HW_.out (by kernel_rfl)) (fun _ _ _ h => h) (Or.inl ⟨by rfl, ?_⟩) hHeld ?_ ?_
                rotate_left
                · rintro w' ⟨s0, s1, s2, s3, s4, s5⟩
                  go_simp
                  with_reducible rfl
                rotate_left
                · simp only [Act.put, List.setIfInBounds_toArray, List.set_cons_zero, List.set_cons_succ, i64_w, i32_w]
                  rfl
                refine pure_ (i := 10) (N := some 70) (v := ?_) (a' := ?_) #[true, true, true, true, true, true, true, true, true, true, true, false, false, false, false, false, false, false, false, false, false, false, false, false, false, false, false, false, false, false, false, false] rfl rfl (any_of HT_.out (by kernel_rfl)) (fun _ _ _ h => h) (Or.inl ⟨by rfl, ?_⟩) ?_ ?_
                rotate_left
                · intro w'
                  go_simp
                  with_reducible rfl
                rotate_left
                · simp only [Act.put, List.setIfInBounds_toArray, List.set_cons_zero, List.set_cons_succ, i64_w, i32_w]
                  rfl
                refine pure_ (i := 11) (N := some 71) (v := ?_) (a' := ?_) #[true, true, true, true, true, true, true, true, true, true, true, true, false, false, false, false, false, false, false, false, false, false, false, false, false, false, false, false, false, false, false, false] rfl rfl (any_of HT_.out (by kernel_rfl)) (fun _ _ _ h => h) (Or.inl ⟨by rfl, ?_⟩) ?_ ?_
                rotate_left
                · intro w'
                  go_simp
                  with_reducible rfl
                rotate_left
                · simp only [Act.put, List.setIfInBounds_toArray, List.set_cons_zero, List.set_cons_succ, i64_w, i32_w]
                  rfl
                refine take_ (i := 12) (N := some 72) (v := ?_) (a' := ?_) #[true, true, true, true, true, true, true, true, true, true, true, true, true, false, false, false, false, false, false, false, false, false, false, false, false, false, false, false, false, false, false, false] rfl rfl (take_ofW HT_.out HW_.out (by kernel_rfl)) (fun _ _ _ h => h) (Or.inl ⟨by rfl, ?_⟩) hHeld ?_ ?_
                rotate_left
                · rintro w' ⟨s0, s1, s2, s3, s4, s5⟩
                  go_simp
                  with_reducible rfl
                rotate_left
                · simp only [Act.put, List.setIfInBounds_toArray, List.set_cons_zero, List.set_cons_succ, i64_w, i32_w]
                  rfl
                refine pure_ (i := 13) (N := some 73) (v := ?_) (a' := ?_) #[true, true, true, true, true, true, true, true, true, true, true, true, true, true, false, false, false, false, false, false, false, false, false, false, false, false, false, false, false, false, false, false] rfl rfl (any_of HT_.out (by kernel_rfl)) (fun _ _ _ h => h) (Or.inl ⟨by rfl, ?_⟩) ?_ ?_
                rotate_left
                · intro w'
                  go_simp
                  with_reducible rfl
                rotate_left
                · simp only [Act.put, List.setIfInBounds_toArray, List.set_cons_zero, List.set_cons_succ, i64_w, i32_w]
                  rfl
                refine pure_ (i := 14) (N := some 74) (v := ?_) (a' := ?_) #[true, true, true, true, true, true, true, true, true, true, true, true, true, true, true, false, false, false, false, false, false, false, false, false, false, false, false, false, false, false, false, false] rfl rfl (any_of HT_.out (by kernel_rfl)) (fun _ _ _ h => h) (Or.inl ⟨by rfl, ?_⟩) ?_ ?_
                rotate_left
                · intro w'
                  go_simp
                  with_reducible rfl
                rotate_left
                · simp only [Act.put, List.setIfInBounds_toArray, List.set_cons_zero, List.set_cons_succ, i64_w, i32_w]
                  rfl
                refine pure_ (i := 15) (N := some 75) (v := ?_) (a' := ?_) #[true, true, true, true, true, true, true, true, true, true, true, true, true, true, true, true, false, false, false, false, false, false, false, false, false, false, false, false, false, false, false, false] rfl rfl (any_of HT_.out (by kernel_rfl)) (fun _ _ _ h => h) (Or.inl ⟨by rfl, ?_⟩) ?_ ?_
                rotate_left
                · intro w'
                  go_simp
                  with_reducible rfl
                rotate_left
                · simp only [Act.put, List.setIfInBounds_toArray, List.set_cons_zero, List.set_cons_succ, i64_w, i32_w]
                  rfl
                refine pure_ (i := 17) (N := some 77) (v := ?_) (a' := ?_) #[true, true, true, true, true, true, true, true, true, true, true, true, true, true, true, true, false, true, false, false, false, false, false, false, false, false, false, false, false, false, false, false] rfl rfl (any_of HT_.out (by kernel_rfl)) (fun _ _ _ h => h) (Or.inl ⟨by rfl, ?_⟩) ?_ ?_
                rotate_left
                · intro w'
                  go_simp
                  with_reducible rfl
                rotate_left
                · simp only [Act.put, List.setIfInBounds_toArray, List.set_cons_zero, List.set_cons_succ, i64_w, i32_w]
                  rfl
                refine pure_ (i := 18) (N := some 78) (v := ?_) (a' := ?_) #[true, true, true, true, true, true, true, true, true, true, true, true, true, true, true, true, false, true, true, false, false, false, false, false, false, false, false, false, false, false, false, false] rfl rfl (any_of HT_.out (by kernel_rfl)) (fun _ _ _ h => h) (Or.inl ⟨by rfl, ?_⟩) ?_ ?_
                rotate_left
                · intro w'
                  go_simp
                  with_reducible rfl
                rotate_left
                · simp only [Act.put, List.setIfInBounds_toArray, List.set_cons_zero, List.set_cons_succ, i64_w, i32_w]
                  rfl
                refine pure_ (i := 19) (N := some 79) (v := ?_) (a' := ?_) #[true, true, true, true, true, true, true, true, true, true, true, true, true, true, true, true, false, true, true, true, false, false, false, false, false, false, false, false, false, false, false, false] rfl rfl (any_of HT_.out (by kernel_rfl)) (fun _ _ _ h => h) (Or.inl ⟨by rfl, ?_⟩) ?_ ?_
                rotate_left
                · intro w'
                  go_simp
                  with_reducible rfl
                rotate_left
                · simp only [Act.put, List.setIfInBounds_toArray, List.set_cons_zero, List.set_cons_succ, i64_w, i32_w]
                  rfl
                refine pure_ (i := 21) (N := some 81) (v := ?_) (a' := ?_) #[true, true, true, true, true, true, true, true, true, true, true, true, true, true, true, true, false, true, true, true, false, true, false, false, false, false, false, false, false, false, false, false] rfl rfl (any_of HT_.out (by kernel_rfl)) (fun _ _ _ h => h) (Or.inl ⟨by rfl, ?_⟩) ?_ ?_
                rotate_left
                · intro w'
                  go_simp
                  with_reducible rfl
                rotate_left
                · simp only [Act.put, List.setIfInBounds_toArray, List.set_cons_zero, List.set_cons_succ, i64_w, i32_w]
                  rfl
                refine take_ (i := 16) (N := some 76) (v := ?_) (a' := ?_) #[true, true, true, true, true, true, true, true, true, true, true, true, true, true, true, true, true, true, true, true, false, true, false, false, false, false, false, false, false, false, false, false] rfl rfl (take_ofW HT_.out HW_.out (by kernel_rfl)) (fun _ _ _ h => h) (Or.inl ⟨by rfl, ?_⟩) hHeld ?_ ?_
                rotate_left
                · rintro w' ⟨s0, s1, s2, s3, s4, s5⟩
                  go_simp
                  with_reducible rfl
                rotate_left
                · simp only [Act.put, List.setIfInBounds_toArray, List.set_cons_zero, List.set_cons_succ, i64_w, i32_w]
                  rfl
                refine take_ (i := 20) (N := some 80) (v := ?_) (a' := ?_) #[true, true, true, true, true, true, true, true, true, true, true, true, true, true, true, true, true, true, true, true, true, true, false, false, false, false, false, false, false, false, false, false] rfl rfl (take_ofW HT_.out HW_.out (by kernel_rfl)) (fun _ _ _ h => h) (Or.inl ⟨by rfl, ?_⟩) hHeld ?_ ?_
                rotate_left
                · rintro w' ⟨s0, s1, s2, s3, s4, s5⟩
                  go_simp
                  with_reducible rfl
                rotate_left
                · simp only [Act.put, List.setIfInBounds_toArray, List.set_cons_zero, List.set_cons_succ, i64_w, i32_w]
                  rfl
                refine pure_ (i := 22) (N := some 82) (v := ?_) (a' := ?_) #[true, true, true, true, true, true, true, true, true, true, true, true, true, true, true, true, true, true, true, true, true, true, true, false, false, false, false, false, false, false, false, false] rfl rfl (any_of HT_.out (by kernel_rfl)) (fun _ _ _ h => h) (Or.inl ⟨by rfl, ?_⟩) ?_ ?_
                rotate_left
                · intro w'
                  go_simp
                  with_reducible rfl
                rotate_left
                · simp only [Act.put, List.setIfInBounds_toArray, List.set_cons_zero, List.set_cons_succ, i64_w, i32_w]
                  rfl
                refine take_ (i := 23) (N := some 83) (v := ?_) (a' := ?_) #[true, true, true, true, true, true, true, true, true, true, true, true, true, true, true, true, true, true, true, true, true, true, true, true, false, false, false, false, false, false, false, false] rfl rfl (take_ofW HT_.out HW_.out (by kernel_rfl)) (fun _ _ _ h => h) (Or.inl ⟨by rfl, ?_⟩) hHeld ?_ ?_
                rotate_left
                · rintro w' ⟨s0, s1, s2, s3, s4, s5⟩
                  go_simp
                  with_reducible rfl
                rotate_left
                · simp only [Act.put, List.setIfInBounds_toArray, List.set_cons_zero, List.set_cons_succ, i64_w, i32_w]
                  rfl
                refine pure_ (i := 24) (N := some 84) (v := ?_) (a' := ?_) #[true, true, true, true, true, true, true, true, true, true, true, true, true, true, true, true, true, true, true, true, true, true, true, true, true, false, false, false, false, false, false, false] rfl rfl (any_of HT_.out (by kernel_rfl)) (fun _ _ _ h => h) (Or.inl ⟨by rfl, ?_⟩) ?_ ?_
                rotate_left
                · intro w'
                  go_simp
                  with_reducible rfl
                rotate_left
                · simp only [Act.put, List.setIfInBounds_toArray, List.set_cons_zero, List.set_cons_succ, i64_w, i32_w]
                  rfl
                refine pure_ (i := 25) (N := some 85) (v := ?_) (a' := ?_) #[true, true, true, true, true, true, true, true, true, true, true, true, true, true, true, true, true, true, true, true, true, true, true, true, true, true, false, false, false, false, false, false] rfl rfl (any_of HT_.out (by kernel_rfl)) (fun _ _ _ h => h) (Or.inl ⟨by rfl, ?_⟩) ?_ ?_
                rotate_left
                · intro w'
                  go_simp
                  with_reducible rfl
                rotate_left
                · simp only [Act.put, List.setIfInBounds_toArray, List.set_cons_zero, List.set_cons_succ, i64_w, i32_w]
                  rfl
                refine take_ (i := 26) (N := some 86) (v := ?_) (a' := ?_) #[true, true, true, true, true, true, true, true, true, true, true, true, true, true, true, true, true, true, true, true, true, true, true, true, true, true, true, false, false, false, false, false] rfl rfl (take_ofW HT_.out HW_.out (by kernel_rfl)) (fun _ _ _ h => h) (Or.inl ⟨by rfl, ?_⟩) hHeld ?_ ?_
                rotate_left
                · rintro w' ⟨s0, s1, s2, s3, s4, s5⟩
                  go_simp
                  with_reducible rfl
                rotate_left
                · simp only [Act.put, List.setIfInBounds_toArray, List.set_cons_zero, List.set_cons_succ, i64_w, i32_w]
                  rfl
                refine pure_ (i := 27) (N := some 87) (v := ?_) (a' := ?_) #[true, true, true, true, true, true, true, true, true, true, true, true, true, true, true, true, true, true, true, true, true, true, true, true, true, true, true, true, false, false, false, false] rfl rfl (any_of HT_.out (by kernel_rfl)) (fun _ _ _ h => h) (Or.inl ⟨by rfl, ?_⟩) ?_ ?_
                rotate_left
                · intro w'
                  go_simp
                  with_reducible rfl
                rotate_left
                · simp only [Act.put, List.setIfInBounds_toArray, List.set_cons_zero, List.set_cons_succ, i64_w, i32_w]
                  rfl
                refine pure_ (i := 28) (N := some 88) (v := ?_) (a' := ?_) #[true, true, true, true, true, true, true, true, true, true, true, true, true, true, true, true, true, true, true, true, true, true, true, true, true, true, true, true, true, false, false, false] rfl rfl (any_of HT_.out (by kernel_rfl)) (fun _ _ _ h => h) (Or.inl ⟨by rfl, ?_⟩) ?_ ?_
                rotate_left
                · intro w'
                  go_simp
                  with_reducible rfl
                rotate_left
                · simp only [Act.put, List.setIfInBounds_toArray, List.set_cons_zero, List.set_cons_succ, i64_w, i32_w]
                  rfl
                refine take_ (i := 29) (N := some 89) (v := ?_) (a' := ?_) #[true, true, true, true, true, true, true, true, true, true, true, true, true, true, true, true, true, true, true, true, true, true, true, true, true, true, true, true, true, true, false, false] rfl rfl (take_ofW HT_.out HW_.out (by kernel_rfl)) (fun _ _ _ h => h) (Or.inl ⟨by rfl, ?_⟩) hHeld ?_ ?_
                rotate_left
                · rintro w' ⟨s0, s1, s2, s3, s4, s5⟩
                  go_simp
                  with_reducible rfl
                rotate_left
                · simp only [Act.put, List.setIfInBounds_toArray, List.set_cons_zero, List.set_cons_succ, i64_w, i32_w]
                  rfl
                refine pure_ (i := 30) (N := some 90) (v := ?_) (a' := ?_) #[true, true, true, true, true, true, true, true, true, true, true, true, true, true, true, true, true, true, true, true, true, true, true, true, true, true, true, true, true, true, true, false] rfl rfl (any_of HT_.out (by kernel_rfl)) (fun _ _ _ h => h) (Or.inl ⟨by rfl, ?_⟩) ?_ ?_
                rotate_left
                · intro w'
                  go_simp
                  with_reducible rfl
                rotate_left
                · simp only [Act.put, List.setIfInBounds_toArray, List.set_cons_zero, List.set_cons_succ, i64_w, i32_w]
                  rfl
                refine pure_ (i := 31) (N := some 91) (v := ?_) (a' := ?_) #[true, true, true, true, true, true, true, true, true, true, true, true, true, true, true, true, true, true, true, true, true, true, true, true, true, true, true, true, true, true, true, true] rfl rfl (any_of HT_.out (by kernel_rfl)) (fun _ _ _ h => h) (Or.inl ⟨by rfl, ?_⟩) ?_ ?_
                rotate_left
                · intro w'
                  go_simp
                  with_reducible rfl
                rotate_left
                · simp only [Act.put, List.setIfInBounds_toArray, List.set_cons_zero, List.set_cons_succ, i64_w, i32_w]
                  rfl
                refine done_ (done_of HT_.out (by kernel_rfl)) ?_
                clear hHeld
                obtain ⟨E1, E2, E3, E4⟩ := all_drew HSEE.out HD1.out HD2.out HD3.out HD4.out
                obtain ⟨F1, F2, F3, F4⟩ := set_other HSEE.out E1 E2 E3 E4 hpk HT10.out HPK.out (i : Int)
                obtain ⟨km, kmf, e1, e2⟩ := Mr.at_ F3 ba (by rw [HOK.out.1]; omega)
                clear e1 e2
                obtain ⟨G1, G2, G3, G4⟩ := set_m HSEE.out F1 F2 F3 F4 ba (i : Int)
                rw [hba] at G2
                have HG := Aside0.mk (show _ ∧ _ ∧ _ ∧ _ from ⟨G1, G2, G3, G4⟩)
                have s0 : wd.drew.cell? ⟨gs, 0, none⟩ = some (.slice (some adS) ps.length cS') := t0
                have s1 : wd.drew.cell? (adS.add k) = some (.pointer (some ⟨p, 0, none⟩)) := t1
                have s2 : wd.drew.cell? ⟨p, 0, none⟩ = some (.int .i64 ba) := t2
                have s3 : wd.drew.cell? ⟨p, 1, none⟩ = some (.int .i64 bo) := t3
                have s4 : wd.drew.frozen? ⟨p, 1, none⟩ = false := T5.out 1
                clear E1 E2 E3 E4 F1 F2 F3 F4 G1 G2 G3 G4 HD1 HD2 HD3 HD4 t0 t1 t2 t3 k5 kbx T5
                go_upto_region 17 with (fail)
                refine start_ (n := 25) (S := fun w' => w'.cell? ⟨gs, 0, none⟩ = some (.slice (some adS) ps.length cS') ∧ w'.cell? (adS.add k) = some (.pointer (some ⟨p, 0, none⟩)) ∧ w'.cell? ⟨p, 0, none⟩ = some (.int .i64 ba)) (ds := [22, 24]) #[false, false, false, false, false, false, false, false, false, false, false, false, false, false, false, false, false, false, false, false, false, false, false, false, false] (by kernel_rfl) rfl rfl ⟨s0, s1, s2⟩ (fun hHeld => ?_); refine with_tabW shape_scan.tab17 shape_scan.bits17 (fun HT_ HW_ => ?_)
                generalize wd.drew = we at s0 s1 s2 s3 s4 km kmf HG hHeld ⊢
                refine pure_ (i := 0) (N := some 92) (v := ?_) (a' := ?_) #[true, false, false, false, false, false, false, false, false, false, false, false, false, false, false, false, false, false, false, false, false, false, false, false, false] rfl rfl (any_of HT_.out (by kernel_rfl)) (fun _ _ _ h => h) (Or.inl ⟨by rfl, ?_⟩) ?_ ?_
                rotate_left
                · intro w'
                  go_simp
                  with_reducible rfl
                rotate_left
                · simp only [Act.put, List.setIfInBounds_toArray, List.set_cons_zero, List.set_cons_succ, i64_w, i32_w]
                  rfl
                refine pure_ (i := 1) (N := some 93) (v := ?_) (a' := ?_) #[true, true, false, false, false, false, false, false, false, false, false, false, false, false, false, false, false, false, false, false, false, false, false, false, false] rfl rfl (any_of HT_.out (by kernel_rfl)) (fun _ _ _ h => h) (Or.inl ⟨by rfl, ?_⟩) ?_ ?_
                rotate_left
                · intro w'
                  go_simp
                  with_reducible rfl
                rotate_left
                · simp only [Act.put, List.setIfInBounds_toArray, List.set_cons_zero, List.set_cons_succ, i64_w, i32_w]
                  rfl
                refine pure_ (i := 2) (N := some 94) (v := ?_) (a' := ?_) #[true, true, true, false, false, false, false, false, false, false, false, false, false, false, false, false, false, false, false, false, false, false, false, false, false] rfl rfl (any_of HT_.out (by kernel_rfl)) (fun _ _ _ h => h) (Or.inl ⟨by rfl, ?_⟩) ?_ ?_
                rotate_left
                · intro w'
                  go_simp
                  with_reducible rfl
                rotate_left
                · simp only [Act.put, List.setIfInBounds_toArray, List.set_cons_zero, List.set_cons_succ, i64_w, i32_w]
                  rfl
                refine pure_ (i := 4) (N := some 96) (v := ?_) (a' := ?_) #[true, true, true, false, true, false, false, false, false, false, false, false, false, false, false, false, false, false, false, false, false, false, false, false, false] rfl rfl (any_of HT_.out (by kernel_rfl)) (fun _ _ _ h => h) (Or.inl ⟨by rfl, ?_⟩) ?_ ?_
                rotate_left
                · intro w'
                  go_simp
                  with_reducible rfl
                rotate_left
                · simp only [Act.put, List.setIfInBounds_toArray, List.set_cons_zero, List.set_cons_succ, i64_w, i32_w]
                  rfl
                refine pure_ (i := 7) (N := some 99) (v := ?_) (a' := ?_) #[true, true, true, false, true, false, false, true, false, false, false, false, false, false, false, false, false, false, false, false, false, false, false, false, false] rfl rfl (any_of HT_.out (by kernel_rfl)) (fun _ _ _ h => h) (Or.inl ⟨by rfl, ?_⟩) ?_ ?_
                rotate_left
                · intro w'
                  go_simp
                  with_reducible rfl
                rotate_left
                · simp only [Act.put, List.setIfInBounds_toArray, List.set_cons_zero, List.set_cons_succ, i64_w, i32_w]
                  rfl
                refine pure_ (i := 8) (N := some 100) (v := ?_) (a' := ?_) #[true, true, true, false, true, false, false, true, true, false, false, false, false, false, false, false, false, false, false, false, false, false, false, false, false] rfl rfl (any_of HT_.out (by kernel_rfl)) (fun _ _ _ h => h) (Or.inl ⟨by rfl, ?_⟩) ?_ ?_
                rotate_left
                · intro w'
                  go_simp
                  with_reducible rfl
                rotate_left
                · simp only [Act.put, List.setIfInBounds_toArray, List.set_cons_zero, List.set_cons_succ, i64_w, i32_w]
                  rfl
                refine pure_ (i := 9) (N := some 101) (v := ?_) (a' := ?_) #[true, true, true, false, true, false, false, true, true, true, false, false, false, false, false, false, false, false, false, false, false, false, false, false, false] rfl rfl (any_of HT_.out (by kernel_rfl)) (fun _ _ _ h => h) (Or.inl ⟨by rfl, ?_⟩) ?_ ?_
                rotate_left
                · intro w'
                  go_simp
                  with_reducible rfl
                rotate_left
                · simp only [Act.put, List.setIfInBounds_toArray, List.set_cons_zero, List.set_cons_succ, i64_w, i32_w]
                  rfl
                refine pure_ (i := 10) (N := some 102) (v := ?_) (a' := ?_) #[true, true, true, false, true, false, false, true, true, true, true, false, false, false, false, false, false, false, false, false, false, false, false, false, false] rfl rfl (any_of HT_.out (by kernel_rfl)) (fun _ _ _ h => h) (Or.inl ⟨by rfl, ?_⟩) ?_ ?_
                rotate_left
                · intro w'
                  go_simp
                  with_reducible rfl
                rotate_left
                · simp only [Act.put, List.setIfInBounds_toArray, List.set_cons_zero, List.set_cons_succ, i64_w, i32_w]
                  rfl
                refine pure_ (i := 12) (N := some 104) (v := ?_) (a' := ?_) #[true, true, true, false, true, false, false, true, true, true, true, false, true, false, false, false, false, false, false, false, false, false, false, false, false] rfl rfl (any_of HT_.out (by kernel_rfl)) (fun _ _ _ h => h) (Or.inl ⟨by rfl, ?_⟩) ?_ ?_
                rotate_left
                · intro w'
                  go_simp
                  with_reducible rfl
                rotate_left
                · simp only [Act.put, List.setIfInBounds_toArray, List.set_cons_zero, List.set_cons_succ, i64_w, i32_w]
                  rfl
                refine pure_ (i := 18) (N := some 110) (v := ?_) (a' := ?_) #[true, true, true, false, true, false, false, true, true, true, true, false, true, false, false, false, false, false, true, false, false, false, false, false, false] rfl rfl (any_of HT_.out (by kernel_rfl)) (fun _ _ _ h => h) (Or.inl ⟨by rfl, ?_⟩) ?_ ?_
                rotate_left
                · intro w'
                  go_simp
                  with_reducible rfl
                rotate_left
                · simp only [Act.put, List.setIfInBounds_toArray, List.set_cons_zero, List.set_cons_succ, i64_w, i32_w]
                  rfl
                refine pure_ (i := 19) (N := some 111) (v := ?_) (a' := ?_) #[true, true, true, false, true, false, false, true, true, true, true, false, true, false, false, false, false, false, true, true, false, false, false, false, false] rfl rfl (any_of HT_.out (by kernel_rfl)) (fun _ _ _ h => h) (Or.inl ⟨by rfl, ?_⟩) ?_ ?_
                rotate_left
                · intro w'
                  go_simp
                  with_reducible rfl
                rotate_left
                · simp only [Act.put, List.setIfInBounds_toArray, List.set_cons_zero, List.set_cons_succ, i64_w, i32_w]
                  rfl
                refine take_ (i := 3) (N := some 95) (v := ?_) (a' := ?_) #[true, true, true, true, true, false, false, true, true, true, true, false, true, false, false, false, false, false, true, true, false, false, false, false, false] rfl rfl (take_ofW HT_.out HW_.out (by kernel_rfl)) (fun _ _ _ h => h) (Or.inl ⟨by rfl, ?_⟩) hHeld ?_ ?_
                rotate_left
                · rintro w' ⟨s0, s1, s2⟩
                  go_simp
                  with_reducible rfl
                rotate_left
                · simp only [Act.put, List.setIfInBounds_toArray, List.set_cons_zero, List.set_cons_succ, i64_w, i32_w]
                  rfl
                refine pure_ (i := 5) (N := some 97) (v := ?_) (a' := ?_) #[true, true, true, true, true, true, false, true, true, true, true, false, true, false, false, false, false, false, true, true, false, false, false, false, false] rfl rfl (any_of HT_.out (by kernel_rfl)) (fun _ _ _ h => h) (Or.inl ⟨by rfl, ?_⟩) ?_ ?_
                rotate_left
                · intro w'
                  go_simp
                  with_reducible rfl
                rotate_left
                · simp only [Act.put, List.setIfInBounds_toArray, List.set_cons_zero, List.set_cons_succ, i64_w, i32_w]
                  rfl
                refine take_ (i := 6) (N := some 98) (v := ?_) (a' := ?_) #[true, true, true, true, true, true, true, true, true, true, true, false, true, false, false, false, false, false, true, true, false, false, false, false, false] rfl rfl (take_ofW HT_.out HW_.out (by kernel_rfl)) (fun _ _ _ h => h) (Or.inl ⟨by rfl, ?_⟩) hHeld ?_ ?_
                rotate_left
                · rintro w' ⟨s0, s1, s2⟩
                  go_simp
                  with_reducible rfl
                rotate_left
                · simp only [Act.put, List.setIfInBounds_toArray, List.set_cons_zero, List.set_cons_succ, i64_w, i32_w]
                  rfl
                refine take_ (i := 11) (N := some 103) (v := ?_) (a' := ?_) #[true, true, true, true, true, true, true, true, true, true, true, true, true, false, false, false, false, false, true, true, false, false, false, false, false] rfl rfl (take_ofW HT_.out HW_.out (by kernel_rfl)) (fun _ _ _ h => h) (Or.inl ⟨by rfl, ?_⟩) hHeld ?_ ?_
                rotate_left
                · rintro w' ⟨s0, s1, s2⟩
                  go_simp
                  with_reducible rfl
                rotate_left
                · simp only [Act.put, List.setIfInBounds_toArray, List.set_cons_zero, List.set_cons_succ, i64_w, i32_w]
                  rfl
                refine pure_ (i := 13) (N := some 105) (v := ?_) (a' := ?_) #[true, true, true, true, true, true, true, true, true, true, true, true, true, true, false, false, false, false, true, true, false, false, false, false, false] rfl rfl (any_of HT_.out (by kernel_rfl)) (fun _ _ _ h => h) (Or.inl ⟨by rfl, ?_⟩) ?_ ?_
                rotate_left
                · intro w'
                  go_simp
                  with_reducible rfl
                rotate_left
                · simp only [Act.put, List.setIfInBounds_toArray, List.set_cons_zero, List.set_cons_succ, i64_w, i32_w]
                  rfl
                refine take_ (i := 14) (N := some 106) (v := ?_) (a' := ?_) #[true, true, true, true, true, true, true, true, true, true, true, true, true, true, true, false, false, false, true, true, false, false, false, false, false] rfl rfl (take_ofW HT_.out HW_.out (by kernel_rfl)) (fun _ _ _ h => h) (Or.inl ⟨by rfl, ?_⟩) hHeld ?_ ?_
                rotate_left
                · rintro w' ⟨s0, s1, s2⟩
                  go_simp
                  with_reducible rfl
                rotate_left
                · simp only [Act.put, List.setIfInBounds_toArray, List.set_cons_zero, List.set_cons_succ, i64_w, i32_w]
                  rfl
                refine pure_ (i := 15) (N := some 107) (v := ?_) (a' := ?_) #[true, true, true, true, true, true, true, true, true, true, true, true, true, true, true, true, false, false, true, true, false, false, false, false, false] rfl rfl (any_of HT_.out (by kernel_rfl)) (fun _ _ _ h => h) (Or.inl ⟨by rfl, ?_⟩) ?_ ?_
                rotate_left
                · intro w'
                  go_simp
                  with_reducible rfl
                rotate_left
                · simp only [Act.put, List.setIfInBounds_toArray, List.set_cons_zero, List.set_cons_succ, i64_w, i32_w]
                  rfl
                refine pure_ (i := 16) (N := some 108) (v := ?_) (a' := ?_) #[true, true, true, true, true, true, true, true, true, true, true, true, true, true, true, true, true, false, true, true, false, false, false, false, false] rfl rfl (any_of HT_.out (by kernel_rfl)) (fun _ _ _ h => h) (Or.inl ⟨by rfl, ?_⟩) ?_ ?_
                rotate_left
                · intro w'
                  go_simp
                  with_reducible rfl
                rotate_left
                · simp only [Act.put, List.setIfInBounds_toArray, List.set_cons_zero, List.set_cons_succ, i64_w, i32_w]
                  rfl
                refine take_ (i := 17) (N := some 109) (v := ?_) (a' := ?_) #[true, true, true, true, true, true, true, true, true, true, true, true, true, true, true, true, true, true, true, true, false, false, false, false, false] rfl rfl (take_ofW HT_.out HW_.out (by kernel_rfl)) (fun _ _ _ h => h) (Or.inl ⟨by rfl, ?_⟩) hHeld ?_ ?_
                rotate_left
                · rintro w' ⟨s0, s1, s2⟩
                  go_simp
                  with_reducible rfl
                rotate_left
                · simp only [Act.put, List.setIfInBounds_toArray, List.set_cons_zero, List.set_cons_succ, i64_w, i32_w]
                  rfl
                refine pure_ (i := 20) (N := some 112) (v := ?_) (a' := ?_) #[true, true, true, true, true, true, true, true, true, true, true, true, true, true, true, true, true, true, true, true, true, false, false, false, false] rfl rfl (any_of HT_.out (by kernel_rfl)) (fun _ _ _ h => h) (Or.inl ⟨by rfl, ?_⟩) ?_ ?_
                rotate_left
                · intro w'
                  go_simp
                  with_reducible rfl
                rotate_left
                · simp only [Act.put, List.setIfInBounds_toArray, List.set_cons_zero, List.set_cons_succ, i64_w, i32_w]
                  rfl
                refine pure_ (i := 21) (N := some 113) (v := ?_) (a' := ?_) #[true, true, true, true, true, true, true, true, true, true, true, true, true, true, true, true, true, true, true, true, true, true, false, false, false] rfl rfl (any_of HT_.out (by kernel_rfl)) (fun _ _ _ h => h) (Or.inl ⟨by rfl, ?_⟩) ?_ ?_
                rotate_left
                · intro w'
                  go_simp
                  with_reducible rfl
                rotate_left
                · simp only [Act.put, List.setIfInBounds_toArray, List.set_cons_zero, List.set_cons_succ, i64_w, i32_w]
                  rfl
                refine last_ (i := 22) (N := none) #[true, true, true, true, true, true, true, true, true, true, true, true, true, true, true, true, true, true, true, true, true, true, true, false, false] rfl rfl (one_of HT_.out (by kernel_rfl)) (by decide) (fun K hK => ?_)
                refine skip_ (w1 := ?_) (by rfl) rfl ?_ ?_
                rotate_left
                · go_simp
                  rfl
                refine hK.out _ _ ?_
                clear hK K
                refine pure_ (i := 23) (N := some 114) (v := ?_) (a' := ?_) #[true, true, true, true, true, true, true, true, true, true, true, true, true, true, true, true, true, true, true, true, true, true, true, true, false] rfl rfl (any_of HT_.out (by kernel_rfl)) (fun _ _ _ h => h) (Or.inl ⟨by rfl, ?_⟩) ?_ ?_
                rotate_left
                · intro w'
                  go_simp
                  with_reducible rfl
                rotate_left
                · simp only [Act.put, List.setIfInBounds_toArray, List.set_cons_zero, List.set_cons_succ, i64_w, i32_w]
                  rfl
                refine last_ (i := 24) (N := none) #[true, true, true, true, true, true, true, true, true, true, true, true, true, true, true, true, true, true, true, true, true, true, true, true, true] rfl rfl (one_of HT_.out (by kernel_rfl)) (by decide) (fun K hK => ?_)
                refine skip_ (w1 := ?_) (by rfl) rfl ?_ ?_
                rotate_left
                · go_simp
                  rfl
                refine hK.out _ _ ?_
                clear hK K
                refine done_ (done_of HT_.out (by kernel_rfl)) ?_
                clear hHeld
                go_wp2
                go_roundw
                case rel => exact ⟨i + 1, _, _, K', _, T', by omega, by go_num, HT4, ⟨HG.out.1⟩, ⟨HG.out.2.1⟩, ⟨HG.out.2.2.1⟩, ⟨HG.out.2.2.2⟩⟩
                case measure => simp [intOf]; omega
              · have hd2 : (vb == 48) = false := by simp; exact hv
                have HT4 := Aside0.mk (scanAll_none hlt HST.out (by rw [HSTEP.out, if_pos (.inr hv)]))
                refine start_ (n := 32) (S := fun w' => w'.cell? ⟨gs, 0, none⟩ = some (.slice (some adS) ps.length cS') ∧ w'.cell? (adS.add k) = some (.pointer (some ⟨p, 0, none⟩)) ∧ w'.cell? ⟨p, 0, none⟩ = some (.int .i64 ba) ∧ w'.cell? ⟨p, 1, none⟩ = some (.int .i64 bo) ∧ w'.cell? (ad.add (ba * 2)) = some (.int .i64 vb) ∧ w'.cell? ⟨w.heap.size, 0, none⟩ = some (.slice (some ad) cs.length cc)) (ds := []) #[false, false, false, false, false, false, false, false, false, false, false, false, false, false, false, false, false, false, false, false, false, false, false, false, false, false, false, false, false, false, false, false] (by kernel_rfl) rfl rfl ⟨t0, t1, t2, t3, k5, kbx⟩ (fun hHeld => ?_); refine with_tabW shape_scan.tab15 shape_scan.bits15 (fun HT_ HW_ => ?_)
                generalize w'.drew = wd at t0 t1 t2 t3 k5 kbx HD4 hHeld ⊢
                refine pure_ (i := 0) (N := some 60) (v := ?_) (a' := ?_) #[true, false, false, false, false, false, false, false, false, false, false, false, false, false, false, false, false, false, false, false, false, false, false, false, false, false, false, false, false, false, false, false] rfl rfl (any_of HT_.out (by kernel_rfl)) (fun _ _ _ h => h) (Or.inl ⟨by rfl, ?_⟩) ?_ ?_
                rotate_left
                · intro w'
                  go_simp
                  with_reducible rfl
                rotate_left
                · simp only [Act.put, List.setIfInBounds_toArray, List.set_cons_zero, List.set_cons_succ, i64_w, i32_w]
                  rfl
                refine pure_ (i := 1) (N := some 61) (v := ?_) (a' := ?_) #[true, true, false, false, false, false, false, false, false, false, false, false, false, false, false, false, false, false, false, false, false, false, false, false, false, false, false, false, false, false, false, false] rfl rfl (any_of HT_.out (by kernel_rfl)) (fun _ _ _ h => h) (Or.inl ⟨by rfl, ?_⟩) ?_ ?_
                rotate_left
                · intro w'
                  go_simp
                  with_reducible rfl
                rotate_left
                · simp only [Act.put, List.setIfInBounds_toArray, List.set_cons_zero, List.set_cons_succ, i64_w, i32_w]
                  rfl
                refine pure_ (i := 2) (N := some 62) (v := ?_) (a' := ?_) #[true, true, true, false, false, false, false, false, false, false, false, false, false, false, false, false, false, false, false, false, false, false, false, false, false, false, false, false, false, false, false, false] rfl rfl (any_of HT_.out (by kernel_rfl)) (fun _ _ _ h => h) (Or.inl ⟨by rfl, ?_⟩) ?_ ?_
                rotate_left
                · intro w'
                  go_simp
                  with_reducible rfl
                rotate_left
                · simp only [Act.put, List.setIfInBounds_toArray, List.set_cons_zero, List.set_cons_succ, i64_w, i32_w]
                  rfl
                refine pure_ (i := 3) (N := some 63) (v := ?_) (a' := ?_) #[true, true, true, true, false, false, false, false, false, false, false, false, false, false, false, false, false, false, false, false, false, false, false, false, false, false, false, false, false, false, false, false] rfl rfl (any_of HT_.out (by kernel_rfl)) (fun _ _ _ h => h) (Or.inl ⟨by rfl, ?_⟩) ?_ ?_
                rotate_left
                · intro w'
                  go_simp
                  with_reducible rfl
                rotate_left
                · simp only [Act.put, List.setIfInBounds_toArray, List.set_cons_zero, List.set_cons_succ, i64_w, i32_w]
                  rfl
                refine pure_ (i := 4) (N := some 64) (v := ?_) (a' := ?_) #[true, true, true, true, true, false, false, false, false, false, false, false, false, false, false, false, false, false, false, false, false, false, false, false, false, false, false, false, false, false, false, false] rfl rfl (any_of HT_.out (by kernel_rfl)) (fun _ _ _ h => h) (Or.inl ⟨by rfl, ?_⟩) ?_ ?_
                rotate_left
                · intro w'
                  go_simp
                  with_reducible rfl
                rotate_left
                · simp only [Act.put, List.setIfInBounds_toArray, List.set_cons_zero, List.set_cons_succ, i64_w, i32_w]
                  rfl
                refine pure_ (i := 5) (N := some 65) (v := ?_) (a' := ?_) #[true, true, true, true, true, true, false, false, false, false, false, false, false, false, false, false, false, false, false, false, false, false, false, false, false, false, false, false, false, false, false, false] rfl rfl (any_of HT_.out (by kernel_rfl)) (fun _ _ _ h => h) (Or.inl ⟨by rfl, ?_⟩) ?_ ?_
                rotate_left
                · intro w'
                  go_simp
                  with_reducible rfl
                rotate_left
                · simp only [Act.put, List.setIfInBounds_toArray, List.set_cons_zero, List.set_cons_succ, i64_w, i32_w]
                  rfl
                refine pure_ (i := 7) (N := some 67) (v := ?_) (a' := ?_) #[true, true, true, true, true, true, false, true, false, false, false, false, false, false, false, false, false, false, false, false, false, false, false, false, false, false, false, false, false, false, false, false] rfl rfl (any_of HT_.out (by kernel_rfl)) (fun _ _ _ h => h) (Or.inl ⟨by rfl, ?_⟩) ?_ ?_
                rotate_left
                · intro w'
                  go_simp
                  with_reducible rfl
                rotate_left
                · simp only [Act.put, List.setIfInBounds_toArray, List.set_cons_zero, List.set_cons_succ, i64_w, i32_w]
                  rfl
                refine take_ (i := 6) (N := some 66) (v := ?_) (a' := ?_) #[true, true, true, true, true, true, true, true, false, false, false, false, false, false, false, false, false, false, false, false, false, false, false, false, false, false, false, false, false, false, false, false] rfl rfl (take_ofW HT_.out HW_.out (by kernel_rfl)) (fun _ _ _ h => h) (Or.inl ⟨by rfl, ?_⟩) hHeld ?_ ?_
                rotate_left
                · rintro w' ⟨s0, s1, s2, s3, s4, s5⟩
                  go_simp
                  with_reducible rfl
                rotate_left
                · simp only [Act.put, List.setIfInBounds_toArray, List.set_cons_zero, List.set_cons_succ, i64_w, i32_w]
                  rfl
                refine pure_ (i := 8) (N := some 68) (v := ?_) (a' := ?_) #[true, true, true, true, true, true, true, true, true, false, false, false, false, false, false, false, false, false, false, false, false, false, false, false, false, false, false, false, false, false, false, false] rfl rfl (any_of HT_.out (by kernel_rfl)) (fun _ _ _ h => h) (Or.inl ⟨by rfl, ?_⟩) ?_ ?_
                rotate_left
                · intro w'
                  go_simp
                  with_reducible rfl
                rotate_left
                · simp only [Act.put, List.setIfInBounds_toArray, List.set_cons_zero, List.set_cons_succ, i64_w, i32_w]
                  rfl
                refine take_ (i := 9) (N := some 69) (v := ?_) (a' := ?_) #[true, true, true, true, true, true, true, true, true, true, false, false, false, false, false, false, false, false, false, false, false, false, false, false, false, false, false, false, false, false, false, false] rfl rfl (take_ofW HT_.out HW_.out (by kernel_rfl)) (fun _ _ _ h => h) (Or.inl ⟨by rfl, ?_⟩) hHeld ?_ ?_
                rotate_left
                · rintro w' ⟨s0, s1, s2, s3, s4, s5⟩
                  go_simp
                  with_reducible rfl
                rotate_left
                · simp only [Act.put, List.setIfInBounds_toArray, List.set_cons_zero, List.set_cons_succ, i64_w, i32_w]
                  rfl
                refine pure_ (i := 10) (N := some 70) (v := ?_) (a' := ?_) #[true, true, true, true, true, true, true, true, true, true, true, false, false, false, false, false, false, false, false, false, false, false, false, false, false, false, false, false, false, false, false, false] rfl rfl (any_of HT_.out (by kernel_rfl)) (fun _ _ _ h => h) (Or.inl ⟨by rfl, ?_⟩) ?_ ?_
                rotate_left
                · intro w'
                  go_simp
                  with_reducible rfl
                rotate_left
                · simp only [Act.put, List.setIfInBounds_toArray, List.set_cons_zero, List.set_cons_succ, i64_w, i32_w]
                  rfl
                refine pure_ (i := 11) (N := some 71) (v := ?_) (a' := ?_) #[true, true, true, true, true, true, true, true, true, true, true, true, false, false, false, false, false, false, false, false, false, false, false, false, false, false, false, false, false, false, false, false] rfl rfl (any_of HT_.out (by kernel_rfl)) (fun _ _ _ h => h) (Or.inl ⟨by rfl, ?_⟩) ?_ ?_
                rotate_left
                · intro w'
                  go_simp
                  with_reducible rfl
                rotate_left
                · simp only [Act.put, List.setIfInBounds_toArray, List.set_cons_zero, List.set_cons_succ, i64_w, i32_w]
                  rfl
                refine take_ (i := 12) (N := some 72) (v := ?_) (a' := ?_) #[true, true, true, true, true, true, true, true, true, true, true, true, true, false, false, false, false, false, false, false, false, false, false, false, false, false, false, false, false, false, false, false] rfl rfl (take_ofW HT_.out HW_.out (by kernel_rfl)) (fun _ _ _ h => h) (Or.inl ⟨by rfl, ?_⟩) hHeld ?_ ?_
                rotate_left
                · rintro w' ⟨s0, s1, s2, s3, s4, s5⟩
                  go_simp
                  with_reducible rfl
                rotate_left
                · simp only [Act.put, List.setIfInBounds_toArray, List.set_cons_zero, List.set_cons_succ, i64_w, i32_w]
                  rfl
                refine pure_ (i := 13) (N := some 73) (v := ?_) (a' := ?_) #[true, true, true, true, true, true, true, true, true, true, true, true, true, true, false, false, false, false, false, false, false, false, false, false, false, false, false, false, false, false, false, false] rfl rfl (any_of HT_.out (by kernel_rfl)) (fun _ _ _ h => h) (Or.inl ⟨by rfl, ?_⟩) ?_ ?_
                rotate_left
                · intro w'
                  go_simp
                  with_reducible rfl
                rotate_left
                · simp only [Act.put, List.setIfInBounds_toArray, List.set_cons_zero, List.set_cons_succ, i64_w, i32_w]
                  rfl
                refine pure_ (i := 14) (N := some 74) (v := ?_) (a' := ?_) #[true, true, true, true, true, true, true, true, true, true, true, true, true, true, true, false, false, false, false, false, false, false, false, false, false, false, false, false, false, false, false, false] rfl rfl (any_of HT_.out (by kernel_rfl)) (fun _ _ _ h => h) (Or.inl ⟨by rfl, ?_⟩) ?_ ?_
                rotate_left
                · intro w'
                  go_simp
                  with_reducible rfl
                rotate_left
                · simp only [Act.put, List.setIfInBounds_toArray, List.set_cons_zero, List.set_cons_succ, i64_w, i32_w]
                  rfl
                refine pure_ (i := 15) (N := some 75) (v := ?_) (a' := ?_) #[true, true, true, true, true, true, true, true, true, true, true, true, true, true, true, true, false, false, false, false, false, false, false, false, false, false, false, false, false, false, false, false] rfl rfl (any_of HT_.out (by kernel_rfl)) (fun _ _ _ h => h) (Or.inl ⟨by rfl, ?_⟩) ?_ ?_
                rotate_left
                · intro w'
                  go_simp
                  with_reducible rfl
                rotate_left
                · simp only [Act.put, List.setIfInBounds_toArray, List.set_cons_zero, List.set_cons_succ, i64_w, i32_w]
                  rfl
                refine pure_ (i := 17) (N := some 77) (v := ?_) (a' := ?_) #[true, true, true, true, true, true, true, true, true, true, true, true, true, true, true, true, false, true, false, false, false, false, false, false, false, false, false, false, false, false, false, false] rfl rfl (any_of HT_.out (by kernel_rfl)) (fun _ _ _ h => h) (Or.inl ⟨by rfl, ?_⟩) ?_ ?_
                rotate_left
                · intro w'
                  go_simp
                  with_reducible rfl
                rotate_left
                · simp only [Act.put, List.setIfInBounds_toArray, List.set_cons_zero, List.set_cons_succ, i64_w, i32_w]
                  rfl
                refine pure_ (i := 18) (N := some 78) (v := ?_) (a' := ?_) #[true, true, true, true, true, true, true, true, true, true, true, true, true, true, true, true, false, true, true, false, false, false, false, false, false, false, false, false, false, false, false, false] rfl rfl (any_of HT_.out (by kernel_rfl)) (fun _ _ _ h => h) (Or.inl ⟨by rfl, ?_⟩) ?_ ?_
                rotate_left
                · intro w'
                  go_simp
                  with_reducible rfl
                rotate_left
                · simp only [Act.put, List.setIfInBounds_toArray, List.set_cons_zero, List.set_cons_succ, i64_w, i32_w]
                  rfl
                refine pure_ (i := 19) (N := some 79) (v := ?_) (a' := ?_) #[true, true, true, true, true, true, true, true, true, true, true, true, true, true, true, true, false, true, true, true, false, false, false, false, false, false, false, false, false, false, false, false] rfl rfl (any_of HT_.out (by kernel_rfl)) (fun _ _ _ h => h) (Or.inl ⟨by rfl, ?_⟩) ?_ ?_
                rotate_left
                · intro w'
                  go_simp
                  with_reducible rfl
                rotate_left
                · simp only [Act.put, List.setIfInBounds_toArray, List.set_cons_zero, List.set_cons_succ, i64_w, i32_w]
                  rfl
                refine pure_ (i := 21) (N := some 81) (v := ?_) (a' := ?_) #[true, true, true, true, true, true, true, true, true, true, true, true, true, true, true, true, false, true, true, true, false, true, false, false, false, false, false, false, false, false, false, false] rfl rfl (any_of HT_.out (by kernel_rfl)) (fun _ _ _ h => h) (Or.inl ⟨by rfl, ?_⟩) ?_ ?_
                rotate_left
                · intro w'
                  go_simp
                  with_reducible rfl
                rotate_left
                · simp only [Act.put, List.setIfInBounds_toArray, List.set_cons_zero, List.set_cons_succ, i64_w, i32_w]
                  rfl
                refine take_ (i := 16) (N := some 76) (v := ?_) (a' := ?_) #[true, true, true, true, true, true, true, true, true, true, true, true, true, true, true, true, true, true, true, true, false, true, false, false, false, false, false, false, false, false, false, false] rfl rfl (take_ofW HT_.out HW_.out (by kernel_rfl)) (fun _ _ _ h => h) (Or.inl ⟨by rfl, ?_⟩) hHeld ?_ ?_
                rotate_left
                · rintro w' ⟨s0, s1, s2, s3, s4, s5⟩
                  go_simp
                  with_reducible rfl
                rotate_left
                · simp only [Act.put, List.setIfInBounds_toArray, List.set_cons_zero, List.set_cons_succ, i64_w, i32_w]
                  rfl
                refine take_ (i := 20) (N := some 80) (v := ?_) (a' := ?_) #[true, true, true, true, true, true, true, true, true, true, true, true, true, true, true, true, true, true, true, true, true, true, false, false, false, false, false, false, false, false, false, false] rfl rfl (take_ofW HT_.out HW_.out (by kernel_rfl)) (fun _ _ _ h => h) (Or.inl ⟨by rfl, ?_⟩) hHeld ?_ ?_
                rotate_left
                · rintro w' ⟨s0, s1, s2, s3, s4, s5⟩
                  go_simp
                  with_reducible rfl
                rotate_left
                · simp only [Act.put, List.setIfInBounds_toArray, List.set_cons_zero, List.set_cons_succ, i64_w, i32_w]
                  rfl
                refine pure_ (i := 22) (N := some 82) (v := ?_) (a' := ?_) #[true, true, true, true, true, true, true, true, true, true, true, true, true, true, true, true, true, true, true, true, true, true, true, false, false, false, false, false, false, false, false, false] rfl rfl (any_of HT_.out (by kernel_rfl)) (fun _ _ _ h => h) (Or.inl ⟨by rfl, ?_⟩) ?_ ?_
                rotate_left
                · intro w'
                  go_simp
                  with_reducible rfl
                rotate_left
                · simp only [Act.put, List.setIfInBounds_toArray, List.set_cons_zero, List.set_cons_succ, i64_w, i32_w]
                  rfl
                refine take_ (i := 23) (N := some 83) (v := ?_) (a' := ?_) #[true, true, true, true, true, true, true, true, true, true, true, true, true, true, true, true, true, true, true, true, true, true, true, true, false, false, false, false, false, false, false, false] rfl rfl (take_ofW HT_.out HW_.out (by kernel_rfl)) (fun _ _ _ h => h) (Or.inl ⟨by rfl, ?_⟩) hHeld ?_ ?_
                rotate_left
                · rintro w' ⟨s0, s1, s2, s3, s4, s5⟩
                  go_simp
                  with_reducible rfl
                rotate_left
                · simp only [Act.put, List.setIfInBounds_toArray, List.set_cons_zero, List.set_cons_succ, i64_w, i32_w]
                  rfl
                refine pure_ (i := 24) (N := some 84) (v := ?_) (a' := ?_) #[true, true, true, true, true, true, true, true, true, true, true, true, true, true, true, true, true, true, true, true, true, true, true, true, true, false, false, false, false, false, false, false] rfl rfl (any_of HT_.out (by kernel_rfl)) (fun _ _ _ h => h) (Or.inl ⟨by rfl, ?_⟩) ?_ ?_
                rotate_left
                · intro w'
                  go_simp
                  with_reducible rfl
                rotate_left
                · simp only [Act.put, List.setIfInBounds_toArray, List.set_cons_zero, List.set_cons_succ, i64_w, i32_w]
                  rfl
                refine pure_ (i := 25) (N := some 85) (v := ?_) (a' := ?_) #[true, true, true, true, true, true, true, true, true, true, true, true, true, true, true, true, true, true, true, true, true, true, true, true, true, true, false, false, false, false, false, false] rfl rfl (any_of HT_.out (by kernel_rfl)) (fun _ _ _ h => h) (Or.inl ⟨by rfl, ?_⟩) ?_ ?_
                rotate_left
                · intro w'
                  go_simp
                  with_reducible rfl
                rotate_left
                · simp only [Act.put, List.setIfInBounds_toArray, List.set_cons_zero, List.set_cons_succ, i64_w, i32_w]
                  rfl
                refine take_ (i := 26) (N := some 86) (v := ?_) (a' := ?_) #[true, true, true, true, true, true, true, true, true, true, true, true, true, true, true, true, true, true, true, true, true, true, true, true, true, true, true, false, false, false, false, false] rfl rfl (take_ofW HT_.out HW_.out (by kernel_rfl)) (fun _ _ _ h => h) (Or.inl ⟨by rfl, ?_⟩) hHeld ?_ ?_
                rotate_left
                · rintro w' ⟨s0, s1, s2, s3, s4, s5⟩
                  go_simp
                  with_reducible rfl
                rotate_left
                · simp only [Act.put, List.setIfInBounds_toArray, List.set_cons_zero, List.set_cons_succ, i64_w, i32_w]
                  rfl
                refine pure_ (i := 27) (N := some 87) (v := ?_) (a' := ?_) #[true, true, true, true, true, true, true, true, true, true, true, true, true, true, true, true, true, true, true, true, true, true, true, true, true, true, true, true, false, false, false, false] rfl rfl (any_of HT_.out (by kernel_rfl)) (fun _ _ _ h => h) (Or.inl ⟨by rfl, ?_⟩) ?_ ?_
                rotate_left
                · intro w'
                  go_simp
                  with_reducible rfl
                rotate_left
                · simp only [Act.put, List.setIfInBounds_toArray, List.set_cons_zero, List.set_cons_succ, i64_w, i32_w]
                  rfl
                refine pure_ (i := 28) (N := some 88) (v := ?_) (a' := ?_) #[true, true, true, true, true, true, true, true, true, true, true, true, true, true, true, true, true, true, true, true, true, true, true, true, true, true, true, true, true, false, false, false] rfl rfl (any_of HT_.out (by kernel_rfl)) (fun _ _ _ h => h) (Or.inl ⟨by rfl, ?_⟩) ?_ ?_
                rotate_left
                · intro w'
                  go_simp
                  with_reducible rfl
                rotate_left
                · simp only [Act.put, List.setIfInBounds_toArray, List.set_cons_zero, List.set_cons_succ, i64_w, i32_w]
                  rfl
                refine take_ (i := 29) (N := some 89) (v := ?_) (a' := ?_) #[true, true, true, true, true, true, true, true, true, true, true, true, true, true, true, true, true, true, true, true, true, true, true, true, true, true, true, true, true, true, false, false] rfl rfl (take_ofW HT_.out HW_.out (by kernel_rfl)) (fun _ _ _ h => h) (Or.inl ⟨by rfl, ?_⟩) hHeld ?_ ?_
                rotate_left
                · rintro w' ⟨s0, s1, s2, s3, s4, s5⟩
                  go_simp
                  with_reducible rfl
                rotate_left
                · simp only [Act.put, List.setIfInBounds_toArray, List.set_cons_zero, List.set_cons_succ, i64_w, i32_w]
                  rfl
                refine pure_ (i := 30) (N := some 90) (v := ?_) (a' := ?_) #[true, true, true, true, true, true, true, true, true, true, true, true, true, true, true, true, true, true, true, true, true, true, true, true, true, true, true, true, true, true, true, false] rfl rfl (any_of HT_.out (by kernel_rfl)) (fun _ _ _ h => h) (Or.inl ⟨by rfl, ?_⟩) ?_ ?_
                rotate_left
                · intro w'
                  go_simp
                  with_reducible rfl
                rotate_left
                · simp only [Act.put, List.setIfInBounds_toArray, List.set_cons_zero, List.set_cons_succ, i64_w, i32_w]
                  rfl
                refine pure_ (i := 31) (N := some 91) (v := ?_) (a' := ?_) #[true, true, true, true, true, true, true, true, true, true, true, true, true, true, true, true, true, true, true, true, true, true, true, true, true, true, true, true, true, true, true, true] rfl rfl (any_of HT_.out (by kernel_rfl)) (fun _ _ _ h => h) (Or.inl ⟨by rfl, ?_⟩) ?_ ?_
                rotate_left
                · intro w'
                  go_simp
                  with_reducible rfl
                rotate_left
                · simp only [Act.put, List.setIfInBounds_toArray, List.set_cons_zero, List.set_cons_succ, i64_w, i32_w]
                  rfl
                refine done_ (done_of HT_.out (by kernel_rfl)) ?_
                clear hHeld
                go_wp2
                go_ret2
                exact ScanRes.fails HD4.out.ch HT4.out
        · have d49 : (v0 == 49) = false := by simp; omega
          by_cases h50 : v0 = 50
          · by_cases hl0 : ps.length = 0
            · have HSTEP := Aside0.mk (show scanStep cs i m fs = none from by
                have e0 : fs = [] := List.eq_nil_of_length_eq_zero (by rw [HL.out]; exact hl0)
                unfold scanStep
                rw [HOP.out, if_neg hA1, if_neg h49, if_pos h50, e0]
                rfl)
              have HT4 := Aside0.mk (scanAll_none hlt HST.out HSTEP.out)
              subst h50
              have hd0 : decide ((ps.length : Int) - 1 < 0) = true := by simp; omega
              have hd1 : (ps.length : Int) - 1 < 0 := by omega
              clear HS HF HM HSTEP HOP hl0 qs qg hA1
              go_wp2
              go_ret2
              exact ScanRes.fails HR.out.ch HT4.out
            · obtain ⟨k, hk⟩ : ∃ k, ps.length = k + 1 := ⟨ps.length - 1, by omega⟩
              have hk1 : (ps.length : Int) - 1 = (k : Int) := by omega
              obtain ⟨p, b, adS, cS', lv, t0, t1, t2, t3, t4, t5, t6, t7, t8, t9, t10⟩ := top_ok HS.out HF.out hk
              have hb := HOK.out.2.2 b (getLast_mem' t9)
              have HSTEP := Aside0.mk (show scanStep cs i m fs = some (setAll ((m.set i b.a).set (if 0 ≤ b.o then b.o.toNat else b.a) i) b.l i, fs.take k) from by
                unfold scanStep
                rw [HOP.out, if_neg hA1, if_neg h49, if_pos h50, t9, show fs.length - 1 = k by rw [HL.out]; omega])
              obtain ⟨hpk, hpe⟩ := t8
              have HT10 := Aside0.mk t10
              have HHB := Aside0.mk hb
              have HPK := Aside0.mk hpe
              have HKK := Aside0.mk hk
              have qk : (k : Int) < (ps.length : Int) := by omega
              have qk2 : (k : Int) ≤ (ps.length : Int) := by omega
              have qk3 : ¬ (k : Int) < 0 := by omega
              have hsc : ps.length ≤ cS' := by
                obtain ⟨A', c', b1, b2, b3, b4⟩ := HS.out
                have e1 := (b1.cell 0).symm.trans t0
                simp at e1
                have := (Kd.R_reads' b2).2.1
                omega
              have qk4 : (k : Int) ≤ (cS' : Int) := by omega
              obtain ⟨C1, C2, C3, C4⟩ := cut_ok HSEE.out HS.out HF.out HM.out HR.out (k := k) (by omega) t0 hgs
              obtain ⟨ba, hba⟩ : ∃ x, b.a = x := ⟨_, rfl⟩
              obtain ⟨bo, hbo⟩ : ∃ x, b.o = x := ⟨_, rfl⟩
              have qa : (ba : Int) < (cs.length : Int) := by omega
              have tf : w'.frozen? ⟨gs, 0, none⟩ = false := t6 0
              subst h50
              go_upto_region 19 with (fail)
              rw [hk1, show wrap64 (k : Int) = (k : Int) by rw [← hk1]; exact hwn]
              clear HS HF HM HR qs qg hA1 t2 t3 t4 t5 t6 t7 t9 t10 hb hk1 hpe hwn hk hl0
              go_upto_region 23 with (fail)
              generalize w'.setCell ⟨gs, 0, none⟩ (.slice (some adS) k cS') = W1 at C1 C2 C3 C4 ⊢
              obtain ⟨lv, f1, f2, f3, f4⟩ := frame_at C2 hpk HT10.out HPK.out
              rw [hba] at f1
              have x0 : W1.cell? ⟨p, 0, none⟩ = some (.int .i64 ba) := f1.cell 0
              clear f1 f2 f3 f4 t0 t1 tf hsc
              obtain ⟨km, kmf, e1, e2⟩ := Mr.at_ C3 i (by rw [HOK.out.1]; omega)
              clear e1 e2
              obtain ⟨D1, D2, D3, D4⟩ := set_m HSEE.out C1 C2 C3 C4 i (ba : Int)
              clear C1 C2 C3 C4
              go_upto_region 24 with (fail)
              generalize W1.setCell ⟨gm, i, none⟩ (.int .i64 ba) = W2 at D1 D2 D3 D4 ⊢
              clear x0 km kmf
              by_cases ho : 0 ≤ bo
              · obtain ⟨bn, hbn⟩ := Int.eq_ofNat_of_zero_le ho
                have qn : (bn : Int) < (cs.length : Int) := by have := HHB.out.2.1; omega
                rw [hbn] at hbo
                subst hbn
                obtain ⟨lv, f1, f2, f3, f4⟩ := frame_at D2 hpk HT10.out HPK.out
                rw [hba, hbo] at f1
                have x0 : W2.cell? ⟨p, 0, none⟩ = some (.int .i64 ba) := f1.cell 0
                have x1 : W2.cell? ⟨p, 1, none⟩ = some (.int .i64 (bn : Int)) := f1.cell 1
                clear f1 f2 f3 f4
                obtain ⟨km, kmf, e1, e2⟩ := Mr.at_ D3 bn (by rw [List.length_set, HOK.out.1]; omega)
                clear e1 e2
                obtain ⟨G1, G2, G3, G4⟩ := set_m HSEE.out D1 D2 D3 D4 bn (i : Int)
                go_upto_region 27 with (fail)
                generalize W2.setCell ⟨gm, bn, none⟩ (.int .i64 i) = W3 at G1 G2 G3 G4 ⊢
                obtain ⟨lv, f1, f2, f3, f4⟩ := frame_at G2 hpk HT10.out HPK.out
                obtain ⟨Al, cl, e, hcl, hCl⟩ := Kd.R_reads f4
                subst e
                have y2 : W3.cell? ⟨p, 2, none⟩ = some (.slice Al b.l.length cl) := f1.cell 2
                have HLV := Aside0.mk (show RI W3 w.heap.size (fun q => K' q = 2 * p + 5) (.slice Al b.l.length cl) b.l from f4)
                have HG1 := Aside0.mk G1
                have HG2 := Aside0.mk G2
                have HG3 := Aside0.mk G3
                have HG4 := Aside0.mk G4
                have HT4 := Aside0.mk (show scanTo cs (i + 1) = some (setAll ((m.set i ba).set bn i) b.l i, fs.take k) by
                  rw [scanTo_succ HST.out, HSTEP.out, hbo, hba]
                  simp)
                clear D1 D2 D3 D4 G1 G2 G3 G4 f1 f2 f3 f4 hcl hCl x0 x1 km kmf
                go_wp2
                go_loopw [166] (fun v wl => ∃ (j : Nat), j ≤ b.l.length ∧ v = .int .i64 j ∧ Aside0 (Stk w.heap.size wl K' gs (ps.take k)) ∧ Aside0 (Frs w.heap.size wl K' ps fs) ∧ Aside0 (Mr w.heap.size wl K' (.slice (some ⟨gm, 0, none⟩) cs.length cm) (setAll ((m.set i ba).set bn i) (b.l.take j) i)) ∧ Aside0 (Rest cs w T0 Inv (some ad) cc (i + 1) wl K' T') ∧ Aside0 (RI wl w.heap.size (fun q => K' q = 2 * p + 5) (.slice Al b.l.length cl) b.l)) (fun v _ => b.l.length - (intOf v).toNat)
                case atStart => exact ⟨0, Nat.zero_le _, rfl, HG1, HG2, ⟨by simpa [setAll] using HG3.out⟩, HG4, HLV⟩
                case round =>
                  clear HG1 HG2 HG3 HG4 HLV
                  obtain ⟨j, hj, rfl, HG1, HG2, HG3, HG4, HLV⟩ := hrel
                  have hbm : b.l.length ≤ i := HHB.out.2.2.1
                  by_cases hjl : j < b.l.length
                  · have hCl := (Kd.R_reads' HLV.out).2.2
                    obtain ⟨al, e, z1⟩ := at_intN hCl j hjl
                    subst e
                    have hbl := HHB.out.2.2.2 b.l[j] (List.getElem_mem hjl)
                    obtain ⟨x, hx⟩ : ∃ x : Nat, b.l[j] = (x : Int) := ⟨b.l[j].toNat, by omega⟩
                    have HSA := Aside0.mk (show setAll ((m.set i ba).set bn i) (b.l.take (j + 1)) i = (setAll ((m.set i ba).set bn i) (b.l.take j) i).set x i from by
                      unfold setAll
                      rw [List.take_succ_eq_append_getElem hjl, List.foldl_append, hx]
                      simp)
                    rw [hx] at z1 hbl
                    obtain ⟨km0, kmf, e1, e2⟩ := Mr.at_ HG3.out x (by rw [setAll_len, List.length_set, List.length_set, HOK.out.1]; omega)
                    obtain ⟨y, km⟩ : ∃ y, wr.cell? ⟨gm, x, none⟩ = some y := ⟨_, km0⟩
                    clear km0 e1 e2
                    obtain ⟨G1, G2, G3, G4⟩ := set_m HSEE.out HG1.out HG2.out HG3.out HG4.out x (i : Int)
                    have G5 : RI (wr.setCell ⟨gm, x, none⟩ (.int .i64 i)) w.heap.size (fun q => K' q = 2 * p + 5) (.slice (some al) b.l.length cl) b.l := Kd.R_far HLV.out (p := ⟨gm, x, none⟩) (fun q h he => by
                      have h : K' q = 2 * p + 5 := h
                      have he : q = gm := he
                      have h1 := HG3.out.lab
                      rw [he] at h
                      omega) _
                    rw [← HSA.out] at G3
                    have HN1 := Aside0.mk G1
                    have HN2 := Aside0.mk G2
                    have HN3 := Aside0.mk G3
                    have HN4 := Aside0.mk G4
                    have HN5 := Aside0.mk G5
                    have qj : (j : Int) < (b.l.length : Int) := by omega
                    have qx : (x : Int) < (cs.length : Int) := by omega
                    clear G1 G2 G3 G4 G5 hx hbl HG1 HG2 HG3 HG4 HLV hCl
                    go_wp2
                    go_roundw
                    case rel => exact ⟨j + 1, by omega, by go_num, HN1, HN2, HN3, HN4, HN5⟩
                    case measure => simp [intOf]; omega
                  · have qj : ¬ (j : Int) < (b.l.length : Int) := by omega
                    have htk : b.l.take j = b.l := List.take_of_length_le (by omega)
                    rw [htk] at HG3
                    have HP := Aside0.mk (HG2.out.pop (n := k) (by omega))
                    clear htk HG2
                    go_wp2
                    go_roundw
                    case rel => exact ⟨i + 1, _, _, K', _, T', by omega, by go_num, HT4, HG1, HP, HG3, HG4⟩
                    case measure => simp [intOf]; omega
              · obtain ⟨lv, f1, f2, f3, f4⟩ := frame_at D2 hpk HT10.out HPK.out
                rw [hba, hbo] at f1
                have x0 : W2.cell? ⟨p, 0, none⟩ = some (.int .i64 ba) := f1.cell 0
                have x1 : W2.cell? ⟨p, 1, none⟩ = some (.int .i64 bo) := f1.cell 1
                clear f1 f2 f3 f4
                obtain ⟨km, kmf, e1, e2⟩ := Mr.at_ D3 ba (by rw [List.length_set, HOK.out.1]; omega)
                clear e1 e2
                obtain ⟨G1, G2, G3, G4⟩ := set_m HSEE.out D1 D2 D3 D4 ba (i : Int)
                go_upto_region 27 with (fail)
                generalize W2.setCell ⟨gm, ba, none⟩ (.int .i64 i) = W3 at G1 G2 G3 G4 ⊢
                obtain ⟨lv, f1, f2, f3, f4⟩ := frame_at G2 hpk HT10.out HPK.out
                obtain ⟨Al, cl, e, hcl, hCl⟩ := Kd.R_reads f4
                subst e
                have y2 : W3.cell? ⟨p, 2, none⟩ = some (.slice Al b.l.length cl) := f1.cell 2
                have HLV := Aside0.mk (show RI W3 w.heap.size (fun q => K' q = 2 * p + 5) (.slice Al b.l.length cl) b.l from f4)
                have HG1 := Aside0.mk G1
                have HG2 := Aside0.mk G2
                have HG3 := Aside0.mk G3
                have HG4 := Aside0.mk G4
                have HT4 := Aside0.mk (show scanTo cs (i + 1) = some (setAll ((m.set i ba).set ba i) b.l i, fs.take k) by
                  rw [scanTo_succ HST.out, HSTEP.out, hbo, hba]
                  rw [if_neg ho])
                clear D1 D2 D3 D4 G1 G2 G3 G4 f1 f2 f3 f4 hcl hCl x0 x1 km kmf
                go_wp2
                go_loopw [166] (fun v wl => ∃ (j : Nat), j ≤ b.l.length ∧ v = .int .i64 j ∧ Aside0 (Stk w.heap.size wl K' gs (ps.take k)) ∧ Aside0 (Frs w.heap.size wl K' ps fs) ∧ Aside0 (Mr w.heap.size wl K' (.slice (some ⟨gm, 0, none⟩) cs.length cm) (setAll ((m.set i ba).set ba i) (b.l.take j) i)) ∧ Aside0 (Rest cs w T0 Inv (some ad) cc (i + 1) wl K' T') ∧ Aside0 (RI wl w.heap.size (fun q => K' q = 2 * p + 5) (.slice Al b.l.length cl) b.l)) (fun v _ => b.l.length - (intOf v).toNat)
                case atStart => exact ⟨0, Nat.zero_le _, rfl, HG1, HG2, ⟨by simpa [setAll] using HG3.out⟩, HG4, HLV⟩
                case round =>
                  clear HG1 HG2 HG3 HG4 HLV
                  obtain ⟨j, hj, rfl, HG1, HG2, HG3, HG4, HLV⟩ := hrel
                  have hbm : b.l.length ≤ i := HHB.out.2.2.1
                  by_cases hjl : j < b.l.length
                  · have hCl := (Kd.R_reads' HLV.out).2.2
                    obtain ⟨al, e, z1⟩ := at_intN hCl j hjl
                    subst e
                    have hbl := HHB.out.2.2.2 b.l[j] (List.getElem_mem hjl)
                    obtain ⟨x, hx⟩ : ∃ x : Nat, b.l[j] = (x : Int) := ⟨b.l[j].toNat, by omega⟩
                    have HSA := Aside0.mk (show setAll ((m.set i ba).set ba i) (b.l.take (j + 1)) i = (setAll ((m.set i ba).set ba i) (b.l.take j) i).set x i from by
                      unfold setAll
                      rw [List.take_succ_eq_append_getElem hjl, List.foldl_append, hx]
                      simp)
                    rw [hx] at z1 hbl
                    obtain ⟨km0, kmf, e1, e2⟩ := Mr.at_ HG3.out x (by rw [setAll_len, List.length_set, List.length_set, HOK.out.1]; omega)
                    obtain ⟨y, km⟩ : ∃ y, wr.cell? ⟨gm, x, none⟩ = some y := ⟨_, km0⟩
                    clear km0 e1 e2
                    obtain ⟨G1, G2, G3, G4⟩ := set_m HSEE.out HG1.out HG2.out HG3.out HG4.out x (i : Int)
                    have G5 : RI (wr.setCell ⟨gm, x, none⟩ (.int .i64 i)) w.heap.size (fun q => K' q = 2 * p + 5) (.slice (some al) b.l.length cl) b.l := Kd.R_far HLV.out (p := ⟨gm, x, none⟩) (fun q h he => by
                      have h : K' q = 2 * p + 5 := h
                      have he : q = gm := he
                      have h1 := HG3.out.lab
                      rw [he] at h
                      omega) _
                    rw [← HSA.out] at G3
                    have HN1 := Aside0.mk G1
                    have HN2 := Aside0.mk G2
                    have HN3 := Aside0.mk G3
                    have HN4 := Aside0.mk G4
                    have HN5 := Aside0.mk G5
                    have qj : (j : Int) < (b.l.length : Int) := by omega
                    have qx : (x : Int) < (cs.length : Int) := by omega
                    clear G1 G2 G3 G4 G5 hx hbl HG1 HG2 HG3 HG4 HLV hCl
                    go_wp2
                    go_roundw
                    case rel => exact ⟨j + 1, by omega, by go_num, HN1, HN2, HN3, HN4, HN5⟩
                    case measure => simp [intOf]; omega
                  · have qj : ¬ (j : Int) < (b.l.length : Int) := by omega
                    have htk : b.l.take j = b.l := List.take_of_length_le (by omega)
                    rw [htk] at HG3
                    have HP := Aside0.mk (HG2.out.pop (n := k) (by omega))
                    clear htk HG2
                    go_wp2
                    go_roundw
                    case rel => exact ⟨i + 1, _, _, K', _, T', by omega, by go_num, HT4, HG1, HP, HG3, HG4⟩
                    case measure => simp [intOf]; omega
          · have d50 : (v0 == 50) = false := by simp; omega
            by_cases h52 : v0 = 52
            · have HSTEP := Aside0.mk (show scanStep cs i m fs = (match topLoop cs (fs.map Fr.a) with
                | none => none
                | some j => some (m, fs.set j ⟨(fs[j]?.getD ⟨0, 0, []⟩).a, (fs[j]?.getD ⟨0, 0, []⟩).o, (fs[j]?.getD ⟨0, 0, []⟩).l ++ [(i : Int)]⟩)) from by
                unfold scanStep
                rw [HOP.out, if_neg hA1, if_neg h49, if_neg h50, if_pos h52])
              have HFC := Aside0.mk (find_call HS.out HF.out HR.out HC.out HA.out (scanTo_ok HST.out) hlt qs)
              subst h52
              cases htl : topLoop cs (fs.map Fr.a) with
              | none =>
                have HT4 := Aside0.mk (scanAll_none hlt HST.out (by rw [HSTEP.out, htl]))
                rw [htl] at HFC
                have HFD := Aside0.mk (HFC.out.mono (R' := fun e w5 => e = .returned (.tuple #[.pointer none, .bool false]) ∧ Below w'.heap.size w' w5) (fun e w5 h => h))
                clear HFC HSTEP htl HOP hA1
                have qb : w'.cell? ⟨gs, 0, none⟩ = some (.slice As ps.length cS) := qs
                go_upto_region 34 with (go_at_call 29; (with_reducible refine HFD.out.mono ?_); rintro e w5 ⟨rfl, hB5⟩; have HB5 := Aside0.mk hB5; clear hB5)
                go_wp2
                go_ret2
                exact ScanRes.fails (HR.out.ch.then_ (Chg.of_below HB5.out (fun _ => False)) (fun _ h => h.elim)) HT4.out
              | some j =>
                have hjf : j < fs.length := by have := topLoop_lt htl; rwa [List.length_map] at this
                have hjp : j < ps.length := by rw [← HL.out]; exact hjf
                obtain ⟨p, hpe⟩ : ∃ p, ps[j] = p := ⟨_, rfl⟩
                obtain ⟨b, hb⟩ : ∃ b, fs[j]? = some b := ⟨_, List.getElem?_eq_getElem hjf⟩
                have HT4 := Aside0.mk (show scanTo cs (i + 1) = some (m, fs.set j ⟨b.a, b.o, b.l ++ [(i : Int)]⟩) by rw [scanTo_succ HST.out, HSTEP.out, htl]; simp [hb])
                rw [htl] at HFC
                have HFD := Aside0.mk (HFC.out.mono (R' := fun e w5 => e = .returned (.tuple #[.pointer (some ⟨p, 0, none⟩), .bool true]) ∧ Below w'.heap.size w' w5) (fun e w5 h => ⟨h.1.trans (by simp [findRes, hjp, hpe]), h.2⟩))
                have HBM := Aside0.mk (HOK.out.2.2 b (List.mem_of_getElem? hb))
                have HPE := Aside0.mk hpe
                have HBE := Aside0.mk hb
                clear HFC HSTEP htl HOP hA1 hpe hb hjf
                go_upto_region 34 with (go_at_call 29; (with_reducible refine HFD.out.mono ?_); rintro e w5 ⟨rfl, hB5⟩; have HB5 := Aside0.mk hB5; clear hB5)
                have hc5 : Chg w' w5 (fun _ => False) := Chg.of_below HB5.out _
                have S5 := HS.out.other hc5.2 (fun _ h => h.elim)
                have F5 := HF.out.other hc5.2 (fun _ h => h.elim)
                have M5 := HM.out.other hc5.2 (fun _ h => h.elim)
                have R5 := HR.out.step HSEE.out hc5 (fun _ h => h.elim)
                obtain ⟨lv, f1, f2, f3, f4⟩ := frame_at F5 hjp HBE.out HPE.out
                obtain ⟨K2, a1, a2, a3, a4, a5⟩ := leave_laid HSEE.out S5 F5 M5 R5 p (.cells #[.int .i64 i] 3)
                obtain ⟨lv', g1, g2, g3, g4⟩ := frame_at a2 hjp HBE.out HPE.out
                have hlv : lv' = lv := by
                  have h := g1.symm.trans (f1.alloc (.cells #[.int .i64 i] 3))
                  simpa using h
                subst hlv
                obtain ⟨Al, cl, e, _, _⟩ := Kd.R_reads g4
                subst e
                have x2 : w5.cell? ⟨p, 2, none⟩ = some (.slice Al b.l.length cl) := f1.cell 2
                obtain ⟨L, hL⟩ : ∃ L, b.l ++ [(i : Int)] = L := ⟨_, rfl⟩
                rw [hL] at HT4
                have HLE := Aside0.mk hL
                have HGB := Aside0.mk g1
                have HG2 := Aside0.mk g2
                have HR2 := Aside0.mk g4
                have HA1 := Aside0.mk a1
                have HA2 := Aside0.mk a2
                have HA3 := Aside0.mk a3
                have HA4 := Aside0.mk a4
                have HA5 := Aside0.mk a5
                have HC2 := Aside0.mk (C_lit_int w5 w5.heap.size rfl .i64 [(i : Int)] #[.int .i64 i] rfl 3 (by simp))
                have HLN := Aside0.mk (show (b.l.length + 1) * 8 ≤ 140737488355328 by have := HBM.out.2.2.1; omega)
                have HBS := Aside0.mk (show w.heap.size ≤ (w5.alloc (.cells #[.int .i64 i] 3)).heap.size from a4.ch.size)
                clear S5 F5 M5 R5 f1 f2 f3 f4 a1 a2 a3 a4 a5 g1 g2 g3 g4 hL hc5 HS HF HM HR
                go_wp2_with ((with_reducible refine gate_builtin (b := .append) (xs := #[.tmp 189, .tmp 191]) rfl ?_); at_builtin; refine Kd.R_append_rows (Kd.int .i64) (w0 := w5.alloc (.cells #[.int .i64 i] 3)) (Rr := (Kd.int .i64).K (w5.alloc (.cells #[.int .i64 i] 3))) w.heap.size rfl (.tmp 189) (.tmp 191) 24 3 (.int .i64 0) 8 rfl Try.underlying24 info3 rfl (by decide) (by omega) (.slice Al b.l.length cl) b.l [(i : Int)] (some ⟨w5.heap.size, 0, none⟩) 1 1 (fun q => K2 q = 2 * p + 5) (fun _ => False) rfl rfl HR2.out HC2.out (fun x cs hK => hK) (fun _ hk => hk.elim) HA5.out (Below.refl _ _) HBS.out HLN.out ?_; intro v3 w3 hR3 hB3 hG3 hA3; rw [HLE.out] at hR3; obtain ⟨A3, c3, rfl⟩ := Kd.R_slice hR3; have HR3 := Aside0.mk hR3; have HG3 := Aside0.mk hG3; have hb3 : Blk w3 p 52 #[.int .i64 b.a, .int .i64 b.o, .slice Al b.l.length cl] := HGB.out.grown hG3 (fun he => by have h1 := HR2.out.1 p he.symm; have h1 : K2 p = 2 * p + 5 := h1; have := HG2.out; omega); have q3 : w3.cell? ⟨p, 2, none⟩ = some (.slice Al b.l.length cl) := hb3.cell 2; have f3 : w3.frozen? ⟨p, 2, none⟩ = false := hb3.frozen 2; clear hR3 hB3 hG3 hA3 hb3)
                have hc3 : Chg (w5.alloc (.cells #[.int .i64 i] 3)) w3 (fun q => K2 q = 2 * p + 5) := ⟨⟨HG3.out.os, HG3.out.tape, HG3.out.output, HG3.out.size, fun k hk => absurd hk (Nat.not_lt_zero k)⟩, Kept.of_grown HG3.out (Kept.refl _ _) (fun k hk => .inl (HR2.out.1 k hk))⟩
                have HG := Aside0.mk (leave_stored HSEE.out HA1.out HA2.out HA3.out HA4.out hjp HBE.out HPE.out hc3 HR3.out)
                go_roundw
                case rel => exact ⟨i + 1, _, _, K2, _, T', by omega, by go_num, ⟨by rw [← HLE.out] at HT4 ⊢; exact HT4.out⟩, ⟨HG.out.1⟩, ⟨HG.out.2.1⟩, ⟨HG.out.2.2.1⟩, ⟨HG.out.2.2.2⟩⟩
                case measure => simp [intOf]; omega
            · have d52 : (v0 == 52) = false := by simp; omega
              have HT4 := Aside0.mk (show scanTo cs (i + 1) = some (m, fs) by rw [scanTo_succ HST.out]; unfold scanStep; rw [HOP.out, if_neg hA1, if_neg h49, if_neg h50, if_neg h52])
              clear hA1 h49 h50 h52
              go_wp2
              go_roundw
              case rel => exact ⟨i + 1, _, _, K', _, T', by omega, by go_num, HT4, HS, HF, HM, HR⟩
              case measure => simp [intOf]; omega
    · have hin : i = cs.length := by omega
      subst hin
      have q1 : ¬ (cs.length : Int) < (cs.length : Int) := by omega
      obtain ⟨As, cS, b1, _⟩ := id HS.out
      have qs : wr.cell? ⟨gs, 0, none⟩ = some (.slice As ps.length cS) := b1.cell 0
      have HL := Aside0.mk HF.out.1
      clear b1
      by_cases hl0 : ps.length = 0
      · have HX := Aside0.mk (scan_done HST.out HM.out HR.out (by rw [HL.out]; exact hl0))
        have q5 : ¬ (ps.length : Int) > 0 := by omega
        clear hl0
        go_wp2
        go_ret2
        exact HX.out
      · have HX := Aside0.mk (scan_open HST.out (by rw [HL.out]; exact hl0))
        have q5 : (ps.length : Int) > 0 := by omega
        clear hl0
        go_wp2
        go_ret2
        exact ScanRes.fails HR.out.ch HX.out


end Go.Proofs.Ytbdmbkmokhaflaa.Q
end

section
-- written by hprint.py (a program of these sessions) out of the translation; Lean checks it
namespace Go.Proofs.Ytbdmbkmokhaflaa.Q
open Go.RowKit Go.Proofs.YtbdmbkmokhaflaaW.Hb Go.Proofs.YtbdmbkmokhaflaaW.PrintWords Go.Proofs.YtbdmbkmokhaflaaW.PrintLast Go.Proofs.YtbdmbkmokhaflaaW.PrintMore
attribute [local go_sem] max2_int min2_int max_two min_two max_three min_three max_four min_four   -- for this text's walks alone
set_option linter.unusedVariables false
set_option linter.unusedSimpArgs false

/-! ### shape_Match_lit1_22: function 22, by hand -/
theorem shape_Match_lit1_22.calls (w : World) (i : Int) (v : Value) : Calls Try.prog 22 #[.int .i64 i, v] w fun e w' => e = .returned (.tuple #[]) ∧ w' = w := by
  go_enter Try.func22, Try.ntmps22
  go_wp2
  refine bodyPost_end (results_none rfl _ _ _) rfl ?_
  exact ⟨rfl, rfl⟩


end Go.Proofs.Ytbdmbkmokhaflaa.Q
end

section
-- written by hprint.py (a program of these sessions) out of the translation; Lean checks it
namespace Go.Proofs.Ytbdmbkmokhaflaa.Q
open Go.RowKit Go.Proofs.YtbdmbkmokhaflaaW.Hb Go.Proofs.YtbdmbkmokhaflaaW.PrintWords Go.Proofs.YtbdmbkmokhaflaaW.PrintLast Go.Proofs.YtbdmbkmokhaflaaW.PrintMore
attribute [local go_sem] max2_int min2_int max_two min_two max_three min_three max_four min_four   -- for this text's walks alone
set_option linter.unusedVariables false
set_option linter.unusedSimpArgs false

/-! ### shape_Match: function 10, by hand -/
def shape_Match.f (l0 : List Ins) : Option (List Int × Int) := if l0.length ≤ 1048576 then some (match scanAll l0 with | none => ([], 31) | some m => (m, 0)) else none
theorem cf_match (args : Array Value) (W : World) : (callFunc 22 args).run Try.prog W = .ok (.enter 22 args) W := by go_simp
theorem sees_match (cs : List Ins) (w : World) : Sees cs w (fun _ => False) 22 #[] (fun _ _ _ => True) := by
  refine ⟨fun _ _ _ _ _ _ _ _ => trivial, fun i W T A c ps ats hi _ hc _ _ _ _ _ _ => ?_⟩
  refine (shape_Match_lit1_22.calls W i (.slice A ps.length c)).mono ?_
  rintro e W' ⟨rfl, rfl⟩
  exact ⟨rfl, Chg.refl _ _, fun _ => False, trivial, fun _ h => h.elim⟩
set_option maxRecDepth 100000 in
set_option maxHeartbeats 4000000 in
theorem shape_Match.calls (A0 : Option Addr) (c0 : Nat) (l0 : List (S31)) (r1 : List Int) (r2 : Int) (w : World) (hr0 : Kd.C k31 w A0 l0.length l0) (hc0 : l0.length ≤ c0) (h : shape_Match.f l0 = some (r1, r2)) :
    Calls Try.prog 10 #[.slice A0 l0.length c0] w fun e w' => ∃ v0_ : Value, e = .returned (.tuple #[v0_, .int .i64 r2]) ∧ Kd.R (Kd.int .i64) 3 w' w.heap.size (fun _ => True) v0_ r1 ∧ Below w.heap.size w w' := by
  unfold shape_Match.f at h
  split at h
  · rename_i hl
    have HS := Aside0.mk (shape_scan.calls w A0 c0 22 l0 (fun _ => False) #[] (fun _ _ _ => True) hr0 (fun _ h => h.elim) (fun _ _ _ h => h) trivial (sees_match l0 w) cf_match hl)
    have HF := Aside0.mk (show ∀ e w', ScanRes l0 w (fun _ => False) (fun _ _ _ => True) e w' → ∃ v, e = .returned (.tuple #[v, .int .i64 r2]) ∧ Kd.R (Kd.int .i64) 3 w' w.heap.size (fun _ => True) v r1 ∧ Below w.heap.size w w' from by
      rintro e w' ⟨hc, hm⟩
      have hB := hc.below (Nat.le_refl _) (fun _ h => h.elim)
      cases hs : scanAll l0 with
      | none =>
        rw [hs] at h hm
        obtain ⟨rfl, rfl⟩ := Prod.mk.inj (Option.some.inj h)
        exact ⟨_, hm, Kd.R_nil _ _ _ _ _, hB⟩
      | some m =>
        rw [hs] at h hm
        obtain ⟨rfl, rfl⟩ := Prod.mk.inj (Option.some.inj h)
        obtain ⟨v, T, e1, e2, _, _⟩ := hm
        exact ⟨v, e1, Kd.R_mono e2 (fun _ _ => trivial), hB⟩)
    clear hr0 h hl
    go_enter Try.func10, Try.ntmps10
    go_wp2_with (go_at_call 21; (with_reducible refine HS.out.mono ?_); rintro e w' hres; obtain ⟨v, rfl, hR, hB⟩ := HF.out e w' hres; have HR := Aside0.mk hR; have HB := Aside0.mk hB; clear hR hB hres)
    go_ret2
    exact ⟨v, rfl, HR.out, HB.out⟩
  · cases h


end Go.Proofs.Ytbdmbkmokhaflaa.Q
end

section
-- written by hprint.py (a program of these sessions) out of the translation; Lean checks it
namespace Go.Proofs.Ytbdmbkmokhaflaa.Q
open Go.RowKit Go.Proofs.YtbdmbkmokhaflaaW.Hb Go.Proofs.YtbdmbkmokhaflaaW.PrintWords Go.Proofs.YtbdmbkmokhaflaaW.PrintLast Go.Proofs.YtbdmbkmokhaflaaW.PrintMore
attribute [local go_sem] max2_int min2_int max_two min_two max_three min_three max_four min_four   -- for this text's walks alone
set_option linter.unusedVariables false
set_option linter.unusedSimpArgs false

/-! ### weighhouselaw06_num: function 12 -/
def weighhouselaw06_num.f (a0 : Int) : Option (Int) := some a0
set_option maxHeartbeats 8000000 in
set_option maxRecDepth 100000 in
theorem weighhouselaw06_num.calls (a0 : Int) (r : Int) (w : World) (h : weighhouselaw06_num.f a0 = some r) :
    Calls Try.prog 12 #[.int .i64 a0] w fun e w' => e = .returned (.int .i64 r) ∧ Drawn0 w w' := by
  have H : (some a0) = some r := h
  clear h
  obtain rfl := Option.some.inj H
  go_enter Try.func12, Try.ntmps12
  go_wp2
  go_ret
  exact ⟨by first | rfl | (simp; done) | (simp [*]; done), by repeat (first | exact Drawn0.refl _ | apply Drawn0.step)⟩

end Go.Proofs.Ytbdmbkmokhaflaa.Q
end

section
-- written by hprint.py (a program of these sessions) out of the translation; Lean checks it
namespace Go.Proofs.Ytbdmbkmokhaflaa.Q
open Go.RowKit Go.Proofs.YtbdmbkmokhaflaaW.Hb Go.Proofs.YtbdmbkmokhaflaaW.PrintWords Go.Proofs.YtbdmbkmokhaflaaW.PrintLast Go.Proofs.YtbdmbkmokhaflaaW.PrintMore
attribute [local go_sem] max2_int min2_int max_two min_two max_three min_three max_four min_four   -- for this text's walks alone
set_option linter.unusedVariables false
set_option linter.unusedSimpArgs false

/-! ### weighhouselaw03_Ints: function 18 -/
def weighhouselaw03_Ints.l0 : Nat → List Int → List Int → Int → Option (Bool)
  | 0, _, _, _ => none
  | k + 1, x0, x1, x5 => if x5 < (x0.length : Int) then (if 0 ≤ x5 then (if x5 < (x1.length : Int) then (if (rd x0 x5) = (rd x1 x5) then (weighhouselaw03_Ints.l0 k x0 x1 (wrap64 (x5 + 1))) else (some false)) else (none)) else (none)) else (some true)
def weighhouselaw03_Ints.f (k : Nat) (l0 : List Int) (l1 : List Int) : Option (Bool) := if (l0.length : Int) = (l1.length : Int) then (weighhouselaw03_Ints.l0 k l0 l1 0) else (some false)
theorem weighhouselaw03_Ints.mono_l : ∀ k, (∀ y0 y1 y2, LeO (weighhouselaw03_Ints.l0 k y0 y1 y2) (weighhouselaw03_Ints.l0 (k + 1) y0 y1 y2))
  | 0 => fun _ _ _ r h => by simp [weighhouselaw03_Ints.l0] at h
  | k + 1 => by
    have ih0 := weighhouselaw03_Ints.mono_l k
    · intro y0 y1 y2
      unfold weighhouselaw03_Ints.l0
      repeat' first
      | (with_reducible exact ih0 _ _ _)
      | (with_reducible exact LeO.refl _)
      | (with_reducible exact LeO.none _)
      | (with_reducible refine LeO.ite ?_ ?_)
      | (with_reducible refine LeO.bind ?_ (fun _ => ?_))
      | exact ih0 _ _ _
      | exact LeO.none _
      | refine LeO.ite ?_ ?_
      | refine LeO.bind ?_ (fun _ => ?_)
theorem weighhouselaw03_Ints.mono : ∀ a0 a1 k, LeO (weighhouselaw03_Ints.f k a0 a1) (weighhouselaw03_Ints.f (k + 1) a0 a1) := by
  intro a0 a1 k
  have ih0 := weighhouselaw03_Ints.mono_l k
  unfold weighhouselaw03_Ints.f
  repeat' first
      | (with_reducible exact ih0 _ _ _)
      | (with_reducible exact LeO.refl _)
      | (with_reducible exact LeO.none _)
      | (with_reducible refine LeO.ite ?_ ?_)
      | (with_reducible refine LeO.bind ?_ (fun _ => ?_))
      | exact ih0 _ _ _
      | exact LeO.none _
      | refine LeO.ite ?_ ?_
      | refine LeO.bind ?_ (fun _ => ?_)
set_option maxHeartbeats 8000000 in
set_option maxRecDepth 100000 in
theorem weighhouselaw03_Ints.calls (k : Nat) (A0 : Option Addr) (c0 : Nat) (l0 : List Int) (A1 : Option Addr) (c1 : Nat) (l1 : List Int) (r : Bool) (w : World) (hr0 : Kd.C (Kd.int .i64) w A0 l0.length l0) (hc0 : l0.length ≤ c0) (hr1 : Kd.C (Kd.int .i64) w A1 l1.length l1) (hc1 : l1.length ≤ c1) (h : weighhouselaw03_Ints.f k l0 l1 = some r) :
    Calls Try.prog 18 #[.slice A0 l0.length c0, .slice A1 l1.length c1] w fun e w' => e = .returned (.bool r) ∧ Drawn0 w w' := by
  have HR0 := Aside0.mk hr0
  have HC0 := Aside0.mk hc0
  clear hr0 hc0
  have HR1 := Aside0.mk hr1
  have HC1 := Aside0.mk hc1
  clear hr1 hc1
  have H : (if (l0.length : Int) = (l1.length : Int) then (weighhouselaw03_Ints.l0 k l0 l1 0) else (some false)) = some r := h
  clear h
  by_cases c3 : (l0.length : Int) = (l1.length : Int)
  · rw [if_pos c3] at H
    have c3b0 : ((l0.length : Int) == (l1.length : Int)) = true := beq_iff_eq.mpr c3
    have c3b1 : ((l0.length : Int) != (l1.length : Int)) = false := bne_eq_false_iff_eq.mpr c3
    have c3b2 : (l0.length == l1.length) = true := by first | simpa using c3 | (simp at c3 ⊢; omega)
    clear c3
    have H' := Aside0.mk H
    clear H
    go_enter Try.func18, Try.ntmps18
    go_wp2
    repeat (go_quiet (fail); try go_wp2)
    go_loopg [5] k (fun kq v5 w' => ∃ (x5_1 : Int), v5 = .int .i64 x5_1 ∧ Aside0 (weighhouselaw03_Ints.l0 kq l0 l1 x5_1 = some r) ∧ Aside0 (kq ≤ k) ∧ Drawn0 w w')
    case atStart => exact ⟨(0), (by first | rfl | (simp; done) | (simp [*]; done)), H', ⟨Nat.le_refl _⟩, by repeat (first | exact Drawn0.refl _ | apply Drawn0.step)⟩
    case round =>
      clear H'
      try clear c1
      try clear p2
      try clear c3
      try clear c3b0
      try clear c3b1
      try clear c3b2
      obtain ⟨x5_1, rfl, HA, HK1, ⟨m1, rfl⟩⟩ := hrel
      cases gk with
      | zero => exact absurd HA.out (by simp [weighhouselaw03_Ints.l0])
      | succ k1 =>
        have H := HA.out
        clear HA
        simp only [weighhouselaw03_Ints.l0] at H
        by_cases c4 : x5_1 < (l0.length : Int)
        · rw [if_pos c4] at H
          have c4b0 : decide (x5_1 < (l0.length : Int)) = true := decide_eq_true c4
          clear c4
          by_cases c5 : 0 ≤ x5_1
          · rw [if_pos c5] at H
            have c5b0 : decide (0 ≤ x5_1) = true := decide_eq_true c5
            clear c5
            by_cases c6 : x5_1 < (l1.length : Int)
            · rw [if_pos c6] at H
              have c6b0 : decide (x5_1 < (l1.length : Int)) = true := decide_eq_true c6
              clear c6
              by_cases c7 : (rd l0 x5_1) = (rd l1 x5_1)
              · rw [if_pos c7] at H
                have c7b0 : ((rd l0 x5_1) == (rd l1 x5_1)) = true := beq_iff_eq.mpr c7
                have c7b1 : ((rd l0 x5_1) != (rd l1 x5_1)) = false := bne_eq_false_iff_eq.mpr c7
                clear c7
                have H' := Aside0.mk H
                clear H
                have p101 : 0 ≤ (x5_1 : Int) := of_decide_eq_true (by first | (with_reducible assumption) | assumption)
                have q101 : x5_1 < (l0.length : Int) := of_decide_eq_true (by first | (with_reducible assumption) | assumption)
                obtain ⟨ad101, e101, hx101_0⟩ := Kd.at_int HR0.out x5_1 p101 q101
                cases e101
                replace p101 := eq_true p101
                replace q101 := eq_true q101
                have p102 : 0 ≤ (x5_1 : Int) := of_decide_eq_true (by first | (with_reducible assumption) | assumption)
                have q102 : x5_1 < (l1.length : Int) := of_decide_eq_true (by first | (with_reducible assumption) | assumption)
                obtain ⟨ad102, e102, hx102_0⟩ := Kd.at_int HR1.out x5_1 p102 q102
                cases e102
                replace p102 := eq_true p102
                replace q102 := eq_true q102
                go_wp2
                repeat (go_quiet (fail); try go_wp2)
                go_roundg k1
                case measure => have := HK1.out; omega
                case rel => exact ⟨(wrap64 (x5_1 + 1)), (by first | rfl | (simp; done) | (simp [*]; done)), H', ⟨by have := HK1.out; omega⟩, by repeat (first | exact Drawn0.refl _ | apply Drawn0.step)⟩
              · rw [if_neg c7] at H
                have c7b0 : ((rd l0 x5_1) == (rd l1 x5_1)) = false := beq_eq_false_iff_ne.mpr c7
                have c7b1 : ((rd l0 x5_1) != (rd l1 x5_1)) = true := bne_iff_ne.mpr c7
                obtain rfl := Option.some.inj H
                have p101 : 0 ≤ (x5_1 : Int) := of_decide_eq_true (by first | (with_reducible assumption) | assumption)
                have q101 : x5_1 < (l0.length : Int) := of_decide_eq_true (by first | (with_reducible assumption) | assumption)
                obtain ⟨ad101, e101, hx101_0⟩ := Kd.at_int HR0.out x5_1 p101 q101
                cases e101
                replace p101 := eq_true p101
                replace q101 := eq_true q101
                have p102 : 0 ≤ (x5_1 : Int) := of_decide_eq_true (by first | (with_reducible assumption) | assumption)
                have q102 : x5_1 < (l1.length : Int) := of_decide_eq_true (by first | (with_reducible assumption) | assumption)
                obtain ⟨ad102, e102, hx102_0⟩ := Kd.at_int HR1.out x5_1 p102 q102
                cases e102
                replace p102 := eq_true p102
                replace q102 := eq_true q102
                go_wp2
                repeat (go_quiet (fail); try go_wp2)
                go_ret
                exact ⟨by first | rfl | (simp; done) | (simp [*]; done), by repeat (first | exact Drawn0.refl _ | apply Drawn0.step)⟩
            · rw [if_neg c6] at H
              exact absurd H (by simp)
          · rw [if_neg c5] at H
            exact absurd H (by simp)
        · rw [if_neg c4] at H
          have c4b0 : decide (x5_1 < (l0.length : Int)) = false := decide_eq_false c4
          clear c4
          obtain rfl := Option.some.inj H
          go_wp2
          repeat (go_quiet (fail); try go_wp2)
          go_ret
          exact ⟨by first | rfl | (simp; done) | (simp [*]; done), by repeat (first | exact Drawn0.refl _ | apply Drawn0.step)⟩
  · rw [if_neg c3] at H
    have c3b0 : ((l0.length : Int) == (l1.length : Int)) = false := beq_eq_false_iff_ne.mpr c3
    have c3b1 : ((l0.length : Int) != (l1.length : Int)) = true := bne_iff_ne.mpr c3
    have c3b2 : (l0.length == l1.length) = false := by first | simpa using c3 | (simp at c3 ⊢; omega)
    obtain rfl := Option.some.inj H
    go_enter Try.func18, Try.ntmps18
    go_wp2
    repeat (go_quiet (fail); try go_wp2)
    go_ret
    exact ⟨by first | rfl | (simp; done) | (simp [*]; done), by repeat (first | exact Drawn0.refl _ | apply Drawn0.step)⟩

end Go.Proofs.Ytbdmbkmokhaflaa.Q
end
