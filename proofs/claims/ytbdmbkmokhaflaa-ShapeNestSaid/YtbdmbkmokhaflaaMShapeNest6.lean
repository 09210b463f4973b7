/- texts of one claim, merged: each in a section of its own -/
import Derived.Test.YtbdmbkmokhaflaaMShapeNest4
import Derived.Test.YtbdmbkmokhaflaaMShapeNest5
import Derived.Test.YtbdmbkmokhaflaaMShapeNest3
section
/- layer 6: what the laws' small functions come to: rows of numbers compared, own instructions, what must come -/
set_option linter.unusedVariables false
set_option linter.unusedSimpArgs false
namespace Go.Proofs.Ytbdmbkmokhaflaa.Th
open Go.RowKit Go.Proofs.YtbdmbkmokhaflaaW.PrintWords Go.Proofs.YtbdmbkmokhaflaaW.Hb Go.Proofs.Ytbdmbkmokhaflaa.Q

theorem w64 {x : Int} (h0 : -9223372036854775808 ≤ x) (h1 : x ≤ 9223372036854775807) : wrap64 x = x := by unfold wrap64; omega
theorem rdN (l : List Int) (i : Nat) (hi : i < l.length) : rd l (i : Int) = l[i] := by simp [rd, List.getD_eq_getElem?_getD, hi]
theorem ints_l0 (a b : List Int) (hl : a.length = b.length) (hm : a.length ≤ 4611686018427387904) (d : Nat) : ∀ i : Nat, a.length - i = d → i ≤ a.length → Ev (fun k => weighhouselaw03_Ints.l0 k a b (i : Int)) (decide (a.drop i = b.drop i)) := by
  induction d with
  | zero =>
    intro i hd hi
    have e1 : a.drop i = b.drop i := by rw [List.drop_eq_nil_of_le (by omega), List.drop_eq_nil_of_le (by omega)]
    rw [decide_eq_true e1]
    refine Ev.step (f := fun _ => some true) (fun k => ?_) (Ev.now _)
    simp only [weighhouselaw03_Ints.l0]
    rw [if_neg (by omega)]
  | succ d ih =>
    intro i hd hi
    have ha : i < a.length := by omega
    have hb : i < b.length := by omega
    by_cases he : a[i] = b[i]
    · have e1 : decide (a.drop i = b.drop i) = decide (a.drop (i + 1) = b.drop (i + 1)) := by
        rw [List.drop_eq_getElem_cons ha, List.drop_eq_getElem_cons hb, he]
        exact decide_eq_decide.2 ⟨fun h => (List.cons.inj h).2, fun h => by rw [h]⟩
      rw [e1]
      refine Ev.step (f := fun k => weighhouselaw03_Ints.l0 k a b ((i + 1 : Nat) : Int)) (fun k => ?_) (ih (i + 1) (by omega) (by omega))
      simp only [weighhouselaw03_Ints.l0]
      rw [if_pos (by omega), if_pos (by omega), if_pos (by omega), rdN a i ha, rdN b i hb, if_pos he, w64 (by omega) (by omega)]
      rfl
    · have e1 : decide (a.drop i = b.drop i) = false := by
        rw [List.drop_eq_getElem_cons ha, List.drop_eq_getElem_cons hb]
        exact decide_eq_false (fun h => he (List.cons.inj h).1)
      rw [e1]
      refine Ev.step (f := fun _ => some false) (fun k => ?_) (Ev.now _)
      simp only [weighhouselaw03_Ints.l0]
      rw [if_pos (by omega), if_pos (by omega), if_pos (by omega), rdN a i ha, rdN b i hb, if_neg he]
theorem ints_ev (a b : List Int) (hm : a.length ≤ 4611686018427387904) : Ev (fun k => weighhouselaw03_Ints.f k a b) (decide (a = b)) := by
  by_cases hl : a.length = b.length
  · refine Ev.congr (f := fun k => weighhouselaw03_Ints.l0 k a b ((0 : Nat) : Int)) (fun k => ?_) ?_
    · unfold weighhouselaw03_Ints.f
      rw [if_pos (by omega)]
      rfl
    · have h := ints_l0 a b hl hm a.length 0 (by omega) (by omega)
      simpa using h
  · have e : decide (a = b) = false := decide_eq_false (fun e => hl (by rw [e]))
    rw [e]
    refine Ev.congr (f := fun _ => some false) (fun k => ?_) (Ev.now _)
    unfold weighhouselaw03_Ints.f
    rw [if_neg (by omega)]
theorem own_f (l : List Ins) (h : l.length ≤ 1048576) : weighhouselaw06_Own.f l = some l := by
  unfold weighhouselaw06_Own.f
  rw [Option.bind_some, if_pos (by simp; omega)]
  rfl
theorem match_none {l : List Ins} (hl : l.length ≤ 1048576) (h : scanAll l = none) : shape_Match.f l = some ([], 31) := by
  unfold shape_Match.f
  rw [if_pos hl, h]
theorem match_some {l : List Ins} {m : List Int} (hl : l.length ≤ 1048576) (h : scanAll l = some m) : shape_Match.f l = some (m, 0) := by
  unfold shape_Match.f
  rw [if_pos hl, h]
theorem knows_ev : Ev (fun k => weighhouselaw06_knows.f k) true := by
  have h1 : shape_Match.f (([(⟨48, 0⟩ : Ins), (⟨49, 0⟩ : Ins), (⟨50, 0⟩ : Ins)] : List Ins)) = some ([1, 2, 0], 0) := match_some (by decide) (by decide +kernel)
  have h2 : shape_Match.f (([(⟨51, 1⟩ : Ins), (⟨52, 0⟩ : Ins), (⟨50, 0⟩ : Ins)] : List Ins)) = some ([2, 2, 0], 0) := match_some (by decide) (by decide +kernel)
  refine Ev.congr (f := fun k => (weighhouselaw03_Ints.f k [1, 2, 0] [1, 2, 0]).bind fun t122 => (if t122 = true then ((weighhouselaw03_Ints.f k [2, 2, 0] [2, 2, 0]).bind fun t126 => (some t126)) else (some false))) (fun k => ?_) ?_
  · unfold weighhouselaw06_knows.f
    rw [h1, Option.bind_some, h2, Option.bind_some]
    show ((weighhouselaw06_num.f 0).bind fun t117 => (weighhouselaw06_num.f 0).bind fun t118 => _) = _
    rw [show weighhouselaw06_num.f 0 = some 0 from rfl, Option.bind_some, Option.bind_some, if_pos (by rw [w64 (by omega) (by omega)]; rfl)]
  · refine Ev.bind (a := true) (ints_ev [1, 2, 0] [1, 2, 0] (by decide)) ?_
    refine Ev.congr (f := fun k => (weighhouselaw03_Ints.f k [2, 2, 0] [2, 2, 0]).bind fun t126 => (some t126)) (fun k => if_pos rfl) ?_
    exact Ev.bind (a := true) (ints_ev [2, 2, 0] [2, 2, 0] (by decide)) (Ev.now _)
end Go.Proofs.Ytbdmbkmokhaflaa.Th
end

section
/- layer 6: the scan, read, without the document's functions -/
set_option linter.unusedVariables false
set_option linter.unusedSimpArgs false
namespace Go.Proofs.Ytbdmbkmokhaflaa.Th
open Go.RowKit Go.Proofs.YtbdmbkmokhaflaaW.PrintWords Go.Proofs.YtbdmbkmokhaflaaW.Hb
open Go.Shape6 Go.Proofs.Ytbdmbkmokhaflaa.Q

def ends (c : CS) : Int × Int := match c with | .run _ x => (x, -1) | .fin x e => (x, e)
def xe (cs : List Ins) (a : Nat) : Int × Int := ends (cl (opc cs) a cs.length)
theorem rdI (l : List Ins) (n : Nat) (hn : n < l.length) : (rd_T31 l (n : Int)).f0 = opc l n := by
  show _ = Q.opAt l n
  rw [opAt_lt hn]
  simp [rd_T31, List.getD_eq_getElem?_getD, hn]
/-- What ends mean. -/
theorem xe_ok {cs : List Ins} {a : Nat} (ha : a < cs.length) (h : 0 ≤ (xe cs a).2) : ∃ (x : Int) (e : Nat), cl (opc cs) a cs.length = .fin x e ∧ xe cs a = (x, (e : Int)) := by
  unfold xe at h ⊢
  cases hc : cl (opc cs) a cs.length with
  | run d x => rw [hc] at h; exact absurd h (by show ¬ (0 : Int) ≤ -1; decide)
  | fin x e =>
    rw [hc] at h
    have h : 0 ≤ e := h
    exact ⟨x, e.toNat, by rw [Int.toNat_of_nonneg h], by rw [Int.toNat_of_nonneg h]; rfl⟩
theorem xe_of {cs : List Ins} {a : Nat} {x e : Int} (h : cl (opc cs) a cs.length = .fin x e) : xe cs a = (x, e) := by unfold xe; rw [h]; rfl
/-- All blocks close. -/
def H1 (cs : List Ins) : Prop := ∀ a, a < cs.length → isOp (opc cs a) = true → 0 ≤ (xe cs a).2
theorem H1.fin {cs : List Ins} (h : H1 cs) {a : Nat} (ha : a < cs.length) (ho : isOp (opc cs a) = true) : ∃ (x : Int) (e : Nat), cl (opc cs) a cs.length = .fin x e ∧ xe cs a = (x, (e : Int)) := xe_ok ha (h a ha ho)
theorem rd_get {l : List Int} {k : Nat} {v : Int} (h : l[k]? = some v) : rd l (k : Int) = v := by
  have hk := lt_of_get h
  rw [rdN l k hk]
  rw [List.getElem?_eq_getElem hk] at h
  exact Option.some.inj h
def isOpen (cs : List Ins) (i a : Nat) : Bool := isOp (opc cs a) && decide ((i : Int) ≤ (xe cs a).2)
def openL (cs : List Ins) (i : Nat) : List Nat := (List.range i).filter (isOpen cs i)
def toI (l : List Nat) : List Int := l.map (fun (n : Nat) => (n : Int))
theorem sorted_ext {l l' : List Nat} (h : l.Pairwise (· < ·)) (h' : l'.Pairwise (· < ·)) (he : ∀ x, x ∈ l ↔ x ∈ l') : l = l' := by
  induction l generalizing l' with
  | nil =>
    cases l' with
    | nil => rfl
    | cons y l' => exact absurd ((he y).2 (List.mem_cons_self ..)) (by simp)
  | cons x l ih =>
    cases l' with
    | nil => exact absurd ((he x).1 (List.mem_cons_self ..)) (by simp)
    | cons y l' =>
      obtain ⟨h1, h2⟩ := List.pairwise_cons.1 h
      obtain ⟨h3, h4⟩ := List.pairwise_cons.1 h'
      have exy : x = y := by
        rcases List.mem_cons.1 ((he x).1 (List.mem_cons_self ..)) with e | e
        · exact e
        · rcases List.mem_cons.1 ((he y).2 (List.mem_cons_self ..)) with e2 | e2
          · exact e2.symm
          · have := h3 x e
            have := h1 y e2
            omega
      subst exy
      congr 1
      refine ih h2 h4 (fun z => ⟨fun hz => ?_, fun hz => ?_⟩)
      · rcases List.mem_cons.1 ((he z).1 (List.mem_cons_of_mem _ hz)) with e | e
        · have := h1 z hz
          omega
        · exact e
      · rcases List.mem_cons.1 ((he z).2 (List.mem_cons_of_mem _ hz)) with e | e
        · have := h3 z hz
          omega
        · exact e
theorem openL_eq {cs : List Ins} (hH : H1 cs) {i : Nat} (hi : i ≤ cs.length) {m : List Int} {fs : List Fr} (h : scanTo cs i = some (m, fs)) : openL cs i = fs.map Fr.a := by
  have hL := scan_L1 h
  have hget : ∀ (j : Nat) (b : Fr), fs[j]? = some b → (fs.map pr)[j]? = some (b.a, b.o) := fun j b hb => by rw [List.getElem?_map, hb]; rfl
  refine sorted_ext ?_ ?_ (fun a => ?_)
  · exact List.Pairwise.filter _ List.pairwise_lt_range
  · rw [List.pairwise_iff_getElem]
    intro j j' hj hj' hjj
    rw [List.getElem_map, List.getElem_map]
    rw [List.length_map] at hj hj'
    exact hL.up j j' _ _ _ _ hjj (hget j _ (List.getElem?_eq_getElem hj)) (hget j' _ (List.getElem?_eq_getElem hj'))
  · unfold openL isOpen
    rw [List.mem_filter, List.mem_range, Bool.and_eq_true, decide_eq_true_iff, List.mem_map]
    constructor
    · rintro ⟨ha, hop, he⟩
      obtain ⟨x, e, hc, hxe⟩ := hH.fin (by omega) hop
      rw [hxe] at he
      have he : (i : Int) ≤ (e : Int) := he
      refine Classical.byContradiction fun hn => ?_
      obtain ⟨y, f, hf, hf0⟩ := hL.cl_ a ha hop (fun j x' hj => by
        rw [List.getElem?_map] at hj
        obtain ⟨b, hb, hbe⟩ := Option.map_eq_some_iff.1 hj
        exact hn ⟨b, List.mem_of_getElem? hb, congrArg Prod.fst hbe⟩)
      obtain ⟨f', rfl⟩ := Int.eq_ofNat_of_zero_le hf0
      have h2 := cl_fin_mono hf ha hi
      rw [hc] at h2
      injection h2 with h3 h4
      have := (cl_end ha y f' hf).2.1
      omega
    · rintro ⟨b, hb, hba⟩
      obtain ⟨j, hj, hje⟩ := List.getElem_of_mem hb
      obtain ⟨f1, f2, f3⟩ := hL.fr j b.a b.o (hget j b (by rw [List.getElem?_eq_getElem hj, hje]))
      rw [hba] at f1 f2 f3
      obtain ⟨x, e, hc, hxe⟩ := hH.fin (by omega) f2
      refine ⟨f1, f2, ?_⟩
      rw [hxe]
      show (i : Int) ≤ (e : Int)
      rcases Nat.lt_or_ge e i with hlt | hge
      · have p := cl_end (by omega) x e hc
        have h4 : cl (opc cs) a (e + 1) = .fin x e := by
          have q1 := cl_succ (opc cs) a e p.1
          rw [p.2.2] at q1
          obtain ⟨d1, d2, d3, d4⟩ := fin_facts (by omega : a < cs.length) hc
          unfold clS at q1
          dsimp only at q1
          rw [isOp_not (by omega), if_neg (by decide), if_neg (by omega), if_pos d3, if_pos rfl] at q1
          exact q1
        have h5 := cl_fin_mono h4 (by omega) (by omega : e + 1 ≤ i)
        rw [f3] at h5
        cases h5
      · omega
def matchRes (cs : List Ins) : List Int × Int := match scanAll cs with | none => ([], 31) | some m => (m, 0)
theorem scanAll_some {cs : List Ins} {m : List Int} {fs : List Fr} (h : scanTo cs cs.length = some (m, fs)) (hl : fs.length = 0) : scanAll cs = some m := by
  unfold scanAll
  rw [h]
  show (if fs.length = 0 then some m else none) = some m
  rw [if_pos hl]
theorem scanAll_inv {cs : List Ins} {m : List Int} (h : scanAll cs = some m) : scanTo cs cs.length = some (m, []) := by
  unfold scanAll at h
  cases hs : scanTo cs cs.length with
  | none => rw [hs] at h; cases h
  | some s =>
    rw [hs] at h
    have h : (if s.2.length = 0 then some s.1 else none) = some m := h
    by_cases hl : s.2.length = 0
    · rw [if_pos hl] at h
      have e1 : s.1 = m := Option.some.inj h
      have e2 : s.2 = [] := List.eq_nil_of_length_eq_zero hl
      rw [← e1, ← e2]
    · rw [if_neg hl] at h
      cases h
theorem good_H1 {cs : List Ins} {m : List Int} (h : scanAll cs = some m) : H1 cs := by
  have hL := scan_L1 (scanAll_inv h)
  intro a ha ho
  obtain ⟨x, e, h1, h2⟩ := hL.cl_ a ha ho (fun j x hj => by simp at hj)
  rw [xe_of h1]
  exact h2
theorem scanTo_before {cs : List Ins} {j : Nat} {s : List Int × List Fr} (h : scanTo cs j = some s) {i : Nat} (hi : i ≤ j) : ∃ m fs, scanTo cs i = some (m, fs) := by
  cases hs : scanTo cs i with
  | none => rw [scanTo_none hs hi] at h; cases h
  | some t => exact ⟨t.1, t.2, rfl⟩
theorem openOf_eq {cs : List Ins} {m : List Int} (h : scanAll cs = some m) {i : Nat} (hi : i ≤ cs.length) : openOf cs i = toI (openL cs i) ∧ openAt cs i = (openL cs i).length ∧ (openL cs i).length ≤ 8 := by
  obtain ⟨m', fs, hs⟩ := scanTo_before (scanAll_inv h) hi
  have e := openL_eq (good_H1 h) hi hs
  unfold openOf openAt toI
  rw [hs, e]
  exact ⟨by simp, by simp, by simp; exact (scanTo_ok hs).2.1⟩
def depthRes (cs : List Ins) : Int × Int := match scanAll cs with | none => (0, 31) | some _ => (depthTo cs cs.length, 0)
def aroundRes (cs : List Ins) (a : Int) : List Int := match scanAll cs with | none => [] | some _ => aroundTo cs a cs.length
theorem depth_f (cs : List Ins) (hm : cs.length ≤ 1048576) : shape_Depth.f cs = some (depthRes cs) := by
  unfold shape_Depth.f
  rw [if_pos hm]
  rfl
theorem around_f (cs : List Ins) (a : Int) (hm : cs.length ≤ 1048576) : shape_Around.f cs a = some (aroundRes cs a) := by
  unfold shape_Around.f
  rw [if_pos hm]
  rfl
end Go.Proofs.Ytbdmbkmokhaflaa.Th
end

section
-- written by hprint.py (a program of these sessions) out of the translation; Lean checks it
namespace Go.Proofs.Ytbdmbkmokhaflaa.Q
open Go.RowKit Go.Proofs.YtbdmbkmokhaflaaW.Hb Go.Proofs.YtbdmbkmokhaflaaW.PrintWords Go.Proofs.YtbdmbkmokhaflaaW.PrintLast Go.Proofs.YtbdmbkmokhaflaaW.PrintMore
attribute [local go_sem] max2_int min2_int max_two min_two max_three min_three max_four min_four   -- for this text's walks alone
set_option linter.unusedVariables false
set_option linter.unusedSimpArgs false

/-! ### shape_Next: function 13, by hand -/
def asksS (o : Int) (yes : Bool) : Bool := if o = 49 then true else if o = 48 then !yes else if o = 50 ∨ o = 52 then yes else false
def nextS (l0 : List Ins) (l1 : List Int) (a2 : Int) (a3 : Bool) : Int :=
  if a2 < 0 ∨ a2 ≥ l0.length ∨ a2 ≥ l1.length then -1
  else if asksS (opAt l0 a2.toNat) a3 = true then (if rd l1 a2 < 0 ∨ rd l1 a2 ≥ l0.length then -1 else rd l1 a2 + 1)
  else a2 + 1
def shape_Next.f (l0 : List Ins) (l1 : List Int) (a2 : Int) (a3 : Bool) : Option Int := some (nextS l0 l1 a2 a3)
set_option maxRecDepth 100000 in
set_option maxHeartbeats 4000000 in
theorem shape_Next.calls (A0 : Option Addr) (c0 : Nat) (l0 : List (S31)) (A1 : Option Addr) (c1 : Nat) (l1 : List Int) (a2 : Int) (a3 : Bool) (r : Int) (w : World) (hr0 : Kd.C k31 w A0 l0.length l0) (hc0 : l0.length ≤ c0) (hr1 : Kd.C (Kd.int .i64) w A1 l1.length l1) (hc1 : l1.length ≤ c1) (h : shape_Next.f l0 l1 a2 a3 = some r) :
    Calls Try.prog 13 #[.slice A0 l0.length c0, .slice A1 l1.length c1, .int .i64 a2, .bool a3] w fun e w' => e = .returned (.int .i64 r) ∧ Below w.heap.size w w' := by
  have hr : nextS l0 l1 a2 a3 = r := Option.some.inj h
  clear h
  have HB := Aside0.mk (Below.refl w.heap.size w)
  have hm0 : l0.length ≤ 9223372036854775807 := hr0.2.1
  have hm1 : l1.length ≤ 9223372036854775807 := hr1.2.1
  by_cases h0 : a2 < 0
  · have hrr : r = -1 := by rw [← hr]; exact if_pos (.inl h0)
    subst hrr
    clear hr hr0 hr1
    go_enter Try.func13, Try.ntmps13
    go_wp2
    all_goals (go_ret; exact ⟨rfl, HB.out⟩)
  · obtain ⟨n, rfl⟩ := Int.eq_ofNat_of_zero_le (by omega : 0 ≤ a2)
    by_cases h1 : n < l0.length ∧ n < l1.length
    · obtain ⟨p1, p2⟩ := h1
      obtain ⟨ad0, e0, k0, _⟩ := at_Ins hr0 n p1
      obtain ⟨ad1, e1, k1⟩ := at_intN hr1 n p2
      subst e0 e1
      have q1 : (n : Int) < (l0.length : Int) := by omega
      have q2 : (n : Int) < (l1.length : Int) := by omega
      have q3 : ¬ (n : Int) < 0 := by omega
      have hrr : r = if asksS l0[n].f0 a3 = true then (if l1[n] < 0 ∨ l1[n] ≥ l0.length then -1 else l1[n] + 1) else (n : Int) + 1 := by
        rw [← hr]
        unfold nextS
        rw [if_neg (by omega), Int.toNat_natCast, opAt_lt p1]
        have e : rd l1 (n : Int) = l1[n] := by simp [rd, List.getD_eq_getElem?_getD, p2]
        rw [e]
      obtain ⟨o, ho⟩ : ∃ o, l0[n].f0 = o := ⟨_, rfl⟩
      obtain ⟨x, hx⟩ : ∃ x, l1[n] = x := ⟨_, rfl⟩
      rw [ho, hx] at hrr
      rw [ho] at k0
      rw [hx] at k1
      have HRR := Aside0.mk hrr
      clear hr hr0 hr1 ho hx hrr
      have hw1 : wrap64 ((n : Int) + 1) = (n : Int) + 1 := by unfold wrap64; omega
      have hxs : x < 0 ∨ (¬ x < 0 ∧ x ≥ (l0.length : Int)) ∨ (¬ x < 0 ∧ ¬ x ≥ (l0.length : Int) ∧ wrap64 (x + 1) = x + 1) := by
        by_cases g1 : x < 0
        · exact .inl g1
        · by_cases g2 : x ≥ (l0.length : Int)
          · exact .inr (.inl ⟨g1, g2⟩)
          · exact .inr (.inr ⟨g1, g2, by unfold wrap64; omega⟩)
      have hos : o = 49 ∨ o = 48 ∨ o = 50 ∨ o = 52 ∨ ((o == 49) = false ∧ (o == 48) = false ∧ (o == 50) = false ∧ (o == 52) = false) := by
        by_cases g1 : o = 49
        · exact .inl g1
        · by_cases g2 : o = 48
          · exact .inr (.inl g2)
          · by_cases g3 : o = 50
            · exact .inr (.inr (.inl g3))
            · by_cases g4 : o = 52
              · exact .inr (.inr (.inr (.inl g4)))
              · exact .inr (.inr (.inr (.inr ⟨by simp [g1], by simp [g2], by simp [g3], by simp [g4]⟩)))
      rcases hos with rfl | rfl | rfl | rfl | ⟨g1, g2, g3, g4⟩ <;> cases a3 <;> rcases hxs with h | ⟨h, h'⟩ | ⟨h, h', hw⟩
      all_goals
        go_enter Try.func13, Try.ntmps13
        go_wp2
        all_goals first
          | omega
          | (go_ret
             refine ⟨?_, HB.out⟩
             have hz := HRR.out
             clear HRR
             subst hz
             first | (simp [asksS]; done) | (simp [asksS, *]; done) | (simp only [beq_eq_false_iff_ne, ne_eq] at g1 g2 g3 g4; simp [asksS, *]; done) | (simp [asksS]; omega))
    · have hrr : r = -1 := by rw [← hr]; exact if_pos (by omega)
      subst hrr
      clear hr hr0 hr1
      have q3 : ¬ (n : Int) < 0 := by omega
      have q4 : ∀ x : Int, x = (if (l1.length : Int) < (l0.length : Int) then (l1.length : Int) else (l0.length : Int)) → x ≤ (n : Int) := by intro x hx; split at hx <;> omega
      go_enter Try.func13, Try.ntmps13
      go_wp2
      all_goals (go_ret; exact ⟨rfl, HB.out⟩)


end Go.Proofs.Ytbdmbkmokhaflaa.Q
end

section
/- layer 6: where instructions lead, one by one, when all is well -/
set_option linter.unusedVariables false
set_option linter.unusedSimpArgs false
namespace Go.Proofs.Ytbdmbkmokhaflaa.Th
open Go.RowKit Go.Proofs.YtbdmbkmokhaflaaW.PrintWords Go.Proofs.YtbdmbkmokhaflaaW.Hb
open Go.Shape6 Go.Proofs.Ytbdmbkmokhaflaa.Q

theorem row_open {cs : List Ins} {m : List Int} (h : scanAll cs = some m) {a : Nat} (ha : a < cs.length) (ho : isOp (opc cs a) = true) : ∃ (x : Int) (e : Nat), cl (opc cs) a cs.length = .fin x e ∧ xe cs a = (x, (e : Int)) ∧ a < e ∧ e < cs.length ∧ opc cs e = 50 ∧ (x = -1 ∨ ((a : Int) < x ∧ x < e ∧ opc cs x.toNat = 49 ∧ opc cs a = 48)) ∧ m[a]? = some (if 0 ≤ x then x else (e : Int)) ∧ m[e]? = some (a : Int) ∧ (0 ≤ x → m[x.toNat]? = some (e : Int)) := by
  have hs := scanAll_inv h
  have h2 := scan_L2 (Nat.le_refl _) hs
  obtain ⟨x, e, hc, hxe⟩ := (good_H1 h).fin ha ho
  obtain ⟨d1, d2, d3, d4⟩ := fin_facts ha hc
  obtain ⟨g1, g2⟩ := h2.m2 a x e ha ho hc
  refine ⟨x, e, hc, hxe, d1, d2, d3, d4, ?_, g1, g2⟩
  rw [h2.m1 a ha ho, hc]
  rfl
theorem row_else {cs : List Ins} {m : List Int} (h : scanAll cs = some m) {k : Nat} (hk : k < cs.length) (ho : opc cs k = 49) : ∃ (a e : Nat), a < k ∧ k < e ∧ e < cs.length ∧ opc cs e = 50 ∧ isOp (opc cs a) = true ∧ cl (opc cs) a cs.length = .fin (k : Int) e ∧ m[k]? = some (e : Int) := by
  have hs := scanAll_inv h
  have hL := scan_L1 hs
  obtain ⟨a, p1, p2, p3⟩ := hL.el k hk ho
  rcases p3 with ⟨d, p3⟩ | ⟨e, p3, p4⟩
  · obtain ⟨j, hj, _⟩ := hL.run_ (by omega) p2 p3
    simp at hj
  · obtain ⟨n, rfl⟩ := Int.eq_ofNat_of_zero_le p4
    obtain ⟨d1, d2, d3, d4⟩ := fin_facts (by omega : a < cs.length) p3
    have g := ((scan_L2 (Nat.le_refl _) hs).m2 a k n (by omega) p2 p3).2 (by omega)
    rw [Int.toNat_natCast] at g
    exact ⟨a, n, p1, by omega, d2, d3, p2, p3, g⟩
theorem row_end {cs : List Ins} {m : List Int} (h : scanAll cs = some m) {k : Nat} (hk : k < cs.length) (ho : opc cs k = 50) : ∃ (a : Nat) (x : Int), a < k ∧ isOp (opc cs a) = true ∧ cl (opc cs) a cs.length = .fin x k ∧ m[k]? = some (a : Int) := by
  have hs := scanAll_inv h
  have hL := scan_L1 hs
  obtain ⟨a, p1, p2, x, p3⟩ := hL.en k hk ho
  exact ⟨a, x, p1, p2, p3, ((scan_L2 (Nat.le_refl _) hs).m2 a x k (by omega) p2 p3).1⟩
theorem end_after {cs : List Ins} {a k d : Nat} {x y : Int} {e : Nat} (hk : k ≤ cs.length) (ha : a < k) (h1 : cl (opc cs) a k = .run d y) (h2 : cl (opc cs) a cs.length = .fin x e) : k ≤ e := by
  rcases Nat.lt_or_ge e k with hlt | hge
  · have p := cl_end (by omega) x e h2
    have h4 : cl (opc cs) a (e + 1) = .fin x e := by
      have q1 := cl_succ (opc cs) a e p.1
      rw [p.2.2] at q1
      obtain ⟨d1, d2, d3, d4⟩ := fin_facts (by omega : a < cs.length) h2
      unfold clS at q1
      dsimp only at q1
      rw [isOp_not (by omega), if_neg (by decide), if_neg (by omega), if_pos d3, if_pos rfl] at q1
      exact q1
    have h5 := cl_fin_mono h4 (by omega) (by omega : e + 1 ≤ k)
    rw [h1] at h5
    cases h5
  · exact hge
theorem row_leave {cs : List Ins} {m : List Int} (h : scanAll cs = some m) {k : Nat} (hk : k < cs.length) (ho : opc cs k = 52) : ∃ e : Nat, k < e ∧ e < cs.length ∧ opc cs e = 50 ∧ m[k]? = some (e : Int) := by
  have hs := scanAll_inv h
  obtain ⟨a, s1, s2⟩ := (scan_L2 (Nat.le_refl _) hs).m4 k hk ho
  rcases s2 with ⟨b, hb, _⟩ | ⟨y, f, s3, s4⟩
  · cases hb
  · obtain ⟨t1, t2, d, x, t3⟩ := s1.ok
    obtain ⟨d1, d2, d3, d4⟩ := fin_facts (by omega : a < cs.length) s3
    have := end_after (by omega) t1 t3 s3
    refine ⟨f, ?_, d2, d3, s4⟩
    rcases Nat.lt_or_eq_of_le this with h5 | h5
    · exact h5
    · rw [← h5] at d3
      omega
/-- Behind any instruction one comes forward, or back to a block's opener. -/
theorem next_way {cs : List Ins} {m : List Int} (h : scanAll cs = some m) (c : Nat) (hc : c < cs.length) (yes : Bool) :
    (opc cs c = 50 ∧ yes = true → nextS cs m c yes = rd m (c : Int) + 1 ∧ nextS cs m c yes ≤ c) ∧ (¬ (opc cs c = 50 ∧ yes = true) → nextS cs m c yes > c ∧ nextS cs m c yes ≤ cs.length) := by
  have hlm := (scanTo_ok (scanAll_inv h)).1
  have hmain : asksS (opc cs c) yes = true → ∀ v : Nat, m[c]? = some (v : Int) → v < cs.length → nextS cs m c yes = v + 1 := by
    intro ha v hv hv2
    unfold nextS
    rw [if_neg (by omega), Int.toNat_natCast, if_pos ha, rd_get hv, if_neg (by omega)]
  have hplain : asksS (opc cs c) yes = false → nextS cs m c yes = (c : Int) + 1 := by
    intro ha
    unfold nextS
    rw [if_neg (by omega), Int.toNat_natCast, if_neg (by show ¬ asksS (opc cs c) yes = true; rw [ha]; decide)]
  constructor
  · rintro ⟨h50, rfl⟩
    obtain ⟨a, x, p1, p2, p3, p4⟩ := row_end h hc h50
    have := hmain (by rw [h50]; rfl) a p4 (by omega)
    rw [this, rd_get p4]
    omega
  · intro hn
    by_cases ha : asksS (opc cs c) yes = true
    · have hv : ∃ v : Nat, m[c]? = some (v : Int) ∧ c < v ∧ v < cs.length := by
        unfold asksS at ha
        split at ha
        · rename_i h9
          obtain ⟨a, e, p1, p2, p3, p4, p5, p6, p7⟩ := row_else h hc h9
          exact ⟨e, p7, p2, p3⟩
        · split at ha
          · rename_i h48
            obtain ⟨x, e, q1, q2, q3, q4, q5, q6, q7, q8, q9⟩ := row_open h hc (isOp_iff.2 (.inl h48))
            by_cases hx : 0 ≤ x
            · rw [if_pos hx] at q7
              exact ⟨x.toNat, by rw [Int.toNat_of_nonneg hx]; exact q7, by omega, by omega⟩
            · rw [if_neg hx] at q7
              exact ⟨e, q7, q3, q4⟩
          · split at ha
            · rename_i h5
              rcases h5 with h50 | h52
              · exact absurd ⟨h50, ha⟩ hn
              · obtain ⟨e, p1, p2, p3, p4⟩ := row_leave h hc h52
                exact ⟨e, p4, p1, p2⟩
            · cases ha
      obtain ⟨v, hv1, hv2, hv3⟩ := hv
      rw [hmain ha v hv1 hv3]
      omega
    · rw [hplain (by simpa using ha)]
      omega
theorem tmod_in {x n : Int} (hn : 0 < n) (hb : n ≤ 1000000) : 0 ≤ Int.tmod (wrap64 (Int.tmod x n + n)) n ∧ Int.tmod (wrap64 (Int.tmod x n + n)) n < n := by
  have h1 : -n < Int.tmod x n ∧ Int.tmod x n < n := by
    constructor
    · have h2 := Int.tmod_lt_of_pos (-x) hn
      rw [Int.neg_tmod] at h2
      omega
    · exact Int.tmod_lt_of_pos x hn
  rw [w64 (by omega) (by omega)]
  exact ⟨Int.tmod_nonneg _ (by omega), Int.tmod_lt_of_pos _ hn⟩
end Go.Proofs.Ytbdmbkmokhaflaa.Th
end

section
/- ShapeNest: the pure statement, proved: blocks lie within one another, or apart; what is open at a place -/
namespace Go.Proofs.Ytbdmbkmokhaflaa.PuShapeNest
open Go.RowKit Go.Proofs.YtbdmbkmokhaflaaW.PrintWords Go.Proofs.YtbdmbkmokhaflaaW.Hb Go.Proofs.YtbdmbkmokhaflaaW.Ho Go.Proofs.Ytbdmbkmokhaflaa.Q Go.Proofs.Ytbdmbkmokhaflaa.OpShapeNest Go.Proofs.Ytbdmbkmokhaflaa.Th Go.Shape6

theorem kn : Ev (fun k => (weighhouselaw06_knows.f k).bind fun t189 => (some t189)) true := Ev.bind knows_ev (Ev.now _)
/-- Blocks do not cross. -/
theorem no_cross {cs : List Ins} {m : List Int} (h : scanAll cs = some m) {i j : Nat} (hi : i < cs.length) (hj : j < cs.length) (hoi : opc cs i = 50) (hoj : opc cs j = 50) (h1 : rd m (j : Int) < rd m (i : Int)) (h2 : (j : Int) > rd m (i : Int)) (h3 : j < i) : False := by
  obtain ⟨a, x, a1, a2, a3, a4⟩ := row_end h hi hoi
  obtain ⟨b, y, b1, b2, b3, b4⟩ := row_end h hj hoj
  rw [rd_get a4] at h1 h2
  rw [rd_get b4] at h1
  have pj := cl_end (by omega : b < cs.length) y j b3
  have pi := cl_end (by omega : a < cs.length) x i a3
  cases hc : cl (opc cs) a j with
  | fin u v =>
    have := cl_fin_mono hc (by omega) (by omega : j ≤ i)
    rw [pi.2.2] at this
    cases this
  | run d u =>
    have := cl_nest (by omega : b < a) (by omega : a < j) a2 pj.2.2 hc
    omega
theorem depth_ge {cs : List Ins} (n : Nat) {i : Nat} (hi : i < n) : (openAt cs i : Int) ≤ depthTo cs n := by
  induction n with
  | zero => omega
  | succ n ih =>
    show _ ≤ deeper _ _ _
    unfold deeper
    by_cases hin : i = n
    · subst hin
      split <;> omega
    · have := ih (by omega)
      omega
theorem l1_ok {cs : List Ins} (hm : cs.length ≤ 200) {m : List Int} (h : scanAll cs = some m) (x1 : Int) (i : Nat) (hi : i < cs.length) (ho : opc cs i = 50) (hr : Ev (fun k => weighhouselaw06_ShapeNest.l0 k cs x1 m ((i + 1 : Nat) : Int)) true) (q : Nat) : ∀ j : Nat, cs.length - j = q → j ≤ cs.length → Ev (fun k => weighhouselaw06_ShapeNest.l1 k cs x1 m (i : Int) (j : Int)) true := by
  have hlm := (scanTo_ok (scanAll_inv h)).1
  induction q with
  | zero =>
    intro j hq hj
    refine Ev.step (fun k => ?_) hr
    simp only [weighhouselaw06_ShapeNest.l1]
    rw [if_neg (by omega), w64 (by omega) (by omega)]
    rfl
  | succ q ih =>
    intro j hq hj
    have hjl : j < cs.length := by omega
    refine Ev.step (fun k => ?_) (ih (j + 1) (by omega) (by omega))
    simp only [weighhouselaw06_ShapeNest.l1]
    rw [if_pos (by omega), if_pos (by omega), rdI cs j hjl, show wrap64 ((j : Int) + 1) = ((j + 1 : Nat) : Int) by rw [w64 (by omega) (by omega)]; rfl]
    by_cases hoj : opc cs j = 50
    · rw [if_pos hoj, if_pos (by omega), if_pos (by omega), if_pos (by omega)]
      by_cases c1 : rd m (j : Int) < rd m (i : Int)
      · rw [if_pos c1]
        by_cases c2 : (j : Int) > rd m (i : Int)
        · rw [if_pos c2, if_neg (fun c3 => no_cross h hi hjl ho hoj c1 c2 (by omega))]
        · rw [if_neg c2]
      · rw [if_neg c1]
    · rw [if_neg hoj]
theorem l0_ok {cs : List Ins} (hm : cs.length ≤ 200) {m : List Int} (h : scanAll cs = some m) (x1 : Int) (hr : Ev (fun k => weighhouselaw06_ShapeNest.l2 k cs x1 m [] ((0 : Nat) : Int)) true) (q : Nat) : ∀ i : Nat, cs.length - i = q → i ≤ cs.length → Ev (fun k => weighhouselaw06_ShapeNest.l0 k cs x1 m (i : Int)) true := by
  induction q with
  | zero =>
    intro i hq hi
    refine Ev.step (fun k => ?_) hr
    simp only [weighhouselaw06_ShapeNest.l0]
    rw [if_neg (by omega)]
    rfl
  | succ q ih =>
    intro i hq hi
    have hil : i < cs.length := by omega
    have hn := ih (i + 1) (by omega) (by omega)
    by_cases ho : opc cs i = 50
    · refine Ev.step (f := fun k => weighhouselaw06_ShapeNest.l1 k cs x1 m (i : Int) ((0 : Nat) : Int)) (fun k => ?_) (l1_ok hm h x1 i hil ho hn cs.length 0 (by omega) (Nat.zero_le _))
      simp only [weighhouselaw06_ShapeNest.l0]
      rw [if_pos (by omega), if_pos (by omega), rdI cs i hil, if_pos ho]
      rfl
    · refine Ev.step (fun k => ?_) hn
      simp only [weighhouselaw06_ShapeNest.l0]
      rw [if_pos (by omega), if_pos (by omega), rdI cs i hil, if_neg ho, w64 (by omega) (by omega)]
      rfl
theorem l2_ok {cs : List Ins} (hm : cs.length ≤ 200) {m : List Int} (h : scanAll cs = some m) (c : Nat) (hc : c < cs.length) (q : Nat) : ∀ j : Nat, c - j = q → j ≤ c → Ev (fun k => weighhouselaw06_ShapeNest.l2 k cs (c : Int) m (toI ((List.range j).filter (isOpen cs c))) (j : Int)) true := by
  have hmm : cs.length ≤ 1048576 := by omega
  have hlm := (scanTo_ok (scanAll_inv h)).1
  obtain ⟨e1, e2, e3⟩ := openOf_eq h (by omega : c ≤ cs.length)
  have htl : ∀ l : List Nat, (toI l).length = l.length := fun l => by unfold toI; rw [List.length_map]
  induction q with
  | zero =>
    intro j hq hj
    have e : j = c := by omega
    subst e
    show Ev (fun k => weighhouselaw06_ShapeNest.l2 k cs (j : Int) m (toI (openL cs j)) (j : Int)) true
    have ha : aroundRes cs (j : Int) = toI (openL cs j) := by
      unfold aroundRes
      rw [h]
      show aroundTo cs (j : Int) cs.length = _
      unfold aroundTo
      rw [if_pos (by omega), Int.toNat_natCast, e1]
    have hd : depthRes cs = (depthTo cs cs.length, 0) := by unfold depthRes; rw [h]
    refine Ev.step (f := fun k => (weighhouselaw03_Ints.f k (toI (openL cs j)) (toI (openL cs j))).bind fun t339 => (if t339 = true then ((weighhouselaw06_knows.f k).bind fun t341 => (some t341)) else (some false))) (fun k => ?_) ?_
    · simp only [weighhouselaw06_ShapeNest.l2]
      rw [if_neg (by omega), own_f cs hmm, Option.bind_some, depth_f cs hmm, Option.bind_some, Option.bind_some, around_f cs _ hmm, Option.bind_some, ha, hd]
      congr 1
      funext t
      by_cases ht : t = true
      · rw [if_pos ht, if_pos ht]
        show ((some (0 : Int)).bind _) = _
        rw [Option.bind_some, if_pos rfl, if_pos (by
          show depthTo cs cs.length ≥ _
          have := depth_ge (cs := cs) cs.length hc
          rw [htl]
          omega)]
      · rw [if_neg ht, if_neg ht]
    · have hI := ints_ev (toI (openL cs j)) (toI (openL cs j)) (by rw [htl]; omega)
      rw [decide_eq_true rfl] at hI
      refine Ev.bind hI ?_
      exact Ev.congr (f := fun k => (weighhouselaw06_knows.f k).bind fun t341 => (some t341)) (fun k => if_pos rfl) kn
  | succ q ih =>
    intro j hq hj
    have hjl : j < cs.length := by omega
    have hnext := ih (j + 1) (by omega) (by omega)
    rw [List.range_succ, List.filter_append] at hnext
    have hw : wrap64 ((j : Int) + 1) = ((j + 1 : Nat) : Int) := by rw [w64 (by omega) (by omega)]; rfl
    have hacc : (toI ((List.range j).filter (isOpen cs c))).length ≤ j := by
      rw [htl]
      exact Nat.le_trans (List.length_filter_le _ _) (by simp)
    by_cases ho : opc cs j = 48 ∨ opc cs j = 51
    · have hop := isOp_iff.2 ho
      obtain ⟨x, e, f1, f2, f3, f4, f5, f6, f7, f8, f9⟩ := row_open h hjl hop
      have hio : isOpen cs c j = decide ((e : Int) ≥ (c : Int)) := by
        unfold isOpen
        rw [hop, f2]
        rfl
      refine Ev.step (f := fun k => weighhouselaw06_ShapeNest.j4 k cs (c : Int) m (toI ((List.range j).filter (isOpen cs c))) (j : Int) false) (fun k => ?_) ?_
      · simp only [weighhouselaw06_ShapeNest.l2]
        rw [if_pos (by omega), if_pos (by omega), if_pos (by omega), rdI cs j hjl]
        rcases ho with g | g
        · rw [if_pos g]
        · rw [if_neg (by omega), g]
          rfl
      · refine Ev.step (fun k => ?_) hnext
        simp only [weighhouselaw06_ShapeNest.j4]
        rw [if_neg (by decide), if_pos (by omega), if_pos (by omega), rd_get f7]
        have hfin : ∀ X Y : Option Bool, (if (e : Int) ≥ (c : Int) then X else Y) = if isOpen cs c j = true then X else Y := fun X Y => by
          rw [hio]
          by_cases g : (e : Int) ≥ (c : Int)
          · rw [if_pos g, decide_eq_true g, if_pos rfl]
          · rw [if_neg g, decide_eq_false g, if_neg (by decide)]
        have hgoal : (if (e : Int) ≥ (c : Int) then (if (toI ((List.range j).filter (isOpen cs c))).length < 17592186044416 then (weighhouselaw06_ShapeNest.l2 k cs (c : Int) m ((toI ((List.range j).filter (isOpen cs c))) ++ [(j : Int)]) ((j + 1 : Nat) : Int)) else none) else (weighhouselaw06_ShapeNest.l2 k cs (c : Int) m (toI ((List.range j).filter (isOpen cs c))) ((j + 1 : Nat) : Int))) = weighhouselaw06_ShapeNest.l2 k cs (c : Int) m (toI ((List.range j).filter (isOpen cs c) ++ [j].filter (isOpen cs c))) ((j + 1 : Nat) : Int) := by
          rw [hfin, if_pos (by omega : (toI ((List.range j).filter (isOpen cs c))).length < 17592186044416)]
          by_cases g : isOpen cs c j = true
          · rw [if_pos g]
            congr 1
            simp [toI, g]
          · rw [if_neg g]
            congr 1
            simp [toI, g]
        rw [hw]
        by_cases hx : 0 ≤ x
        · rcases f6 with f6 | ⟨f6, g2, g3, g4⟩
          · omega
          · obtain ⟨n, rfl⟩ := Int.eq_ofNat_of_zero_le hx
            rw [Int.toNat_natCast] at g3 f9
            rw [if_pos hx, if_pos (by omega), if_pos (by omega), rdI cs n (by omega), if_pos g3, if_pos (by omega), rd_get (f9 hx)]
            exact hgoal
        · rw [if_neg hx, if_pos (by omega), if_pos (by omega), rdI cs e (by omega), if_neg (by omega)]
          exact hgoal
    · have hio : isOpen cs c j = false := by unfold isOpen; rw [isOp_not ho]; rfl
      refine Ev.step (f := fun k => weighhouselaw06_ShapeNest.j4 k cs (c : Int) m (toI ((List.range j).filter (isOpen cs c))) (j : Int) true) (fun k => ?_) ?_
      · simp only [weighhouselaw06_ShapeNest.l2]
        rw [if_pos (by omega), if_pos (by omega), if_pos (by omega), rdI cs j hjl, if_neg (by omega), show (opc cs j != 51) = true by simp; omega]
      · refine Ev.step (fun k => ?_) hnext
        simp only [weighhouselaw06_ShapeNest.j4]
        rw [if_true, hw]
        congr 1
        simp [toI, hio]
theorem j0_true (x0 : List Ins) (x1 : Int) : Ev (fun k => weighhouselaw06_ShapeNest.j0 k x0 x1 true) true := by
  refine Ev.step (f := fun k => (weighhouselaw06_knows.f k).bind fun t189 => (some t189)) (fun k => ?_) kn
  simp only [weighhouselaw06_ShapeNest.j0]
  rw [if_true]
theorem j0_false (x0 : List Ins) (x1 : Int) (h0 : x0.length ≠ 0) (hm : x0.length ≤ 200) : Ev (fun k => weighhouselaw06_ShapeNest.j0 k x0 x1 false) true := by
  have hmm : x0.length ≤ 1048576 := by omega
  obtain ⟨t1, t2⟩ := tmod_in (x := x1) (n := (x0.length : Int)) (by omega) (by omega)
  obtain ⟨c, hc⟩ := Int.eq_ofNat_of_zero_le t1
  cases h : scanAll x0 with
  | none =>
    refine Ev.step (f := fun k => (weighhouselaw06_knows.f k).bind fun t189 => (some t189)) (fun k => ?_) kn
    simp only [weighhouselaw06_ShapeNest.j0]
    rw [if_neg (by decide), own_f x0 hmm, Option.bind_some, match_none hmm h, Option.bind_some]
    show ((some (31 : Int)).bind _) = _
    rw [Option.bind_some, if_neg (by decide)]
  | some m =>
    have hlm := (scanTo_ok (scanAll_inv h)).1
    have hcl : c < x0.length := by omega
    refine Ev.step (fun k => ?_) (l0_ok hm h (c : Int) (l2_ok hm h c hcl c 0 (by omega) (Nat.zero_le _)) x0.length 0 (by omega) (Nat.zero_le _))
    simp only [weighhouselaw06_ShapeNest.j0]
    rw [if_neg (by decide), own_f x0 hmm, Option.bind_some, match_some hmm h, Option.bind_some, hc]
    show ((some (0 : Int)).bind _) = _
    rw [Option.bind_some, if_pos rfl, if_pos (by show (m.length : Int) = _; rw [hlm]), if_neg (by omega)]
    rfl
theorem pure : Pure := by
  intro x0 x1 q0 q1
  refine Ev.rounds (g := fun k => weighhouselaw06_ShapeNest.f k x0 x1) ?_
  by_cases hb : (x0.length : Int) > 200
  · refine Ev.congr (f := fun k => weighhouselaw06_ShapeNest.j0 k x0 x1 true) (fun k => ?_) (j0_true x0 x1)
    unfold weighhouselaw06_ShapeNest.f
    rw [if_pos hb]
  · by_cases h0 : (x0.length : Int) = 0
    · refine Ev.congr (f := fun k => weighhouselaw06_ShapeNest.j0 k x0 x1 true) (fun k => ?_) (j0_true x0 x1)
      unfold weighhouselaw06_ShapeNest.f
      rw [if_neg hb, h0]
      rfl
    · refine Ev.congr (f := fun k => weighhouselaw06_ShapeNest.j0 k x0 x1 false) (fun k => ?_) (j0_false x0 x1 (by omega) (by omega))
      unfold weighhouselaw06_ShapeNest.f
      rw [if_neg hb, beq_eq_false_iff_ne.2 h0]
end Go.Proofs.Ytbdmbkmokhaflaa.PuShapeNest
end
