/- texts of one claim, merged: each in a section of its own -/
import Derived.Test.YtbdmbkmokhaflaaMShapeWays3
import Derived.Test.YtbdmbkmokhaflaaMShapeWays5
import Derived.Test.YtbdmbkmokhaflaaMShapeWays4
section
-- written by hprint.py (a program of these sessions) out of the translation; Lean checks it
namespace Go.Proofs.Ytbdmbkmokhaflaa.Q
open Go.RowKit Go.Proofs.YtbdmbkmokhaflaaW.Hb Go.Proofs.YtbdmbkmokhaflaaW.PrintWords Go.Proofs.YtbdmbkmokhaflaaW.PrintLast Go.Proofs.YtbdmbkmokhaflaaW.PrintMore
attribute [local go_sem] max2_int min2_int max_two min_two max_three min_three max_four min_four   -- for this text's walks alone
set_option linter.unusedVariables false
set_option linter.unusedSimpArgs false

/-! ### shape_Around: function 19, by hand -/
def openOf (cs : List Ins) (i : Nat) : List Int := ((scanTo cs i).map (fun s => s.2.map (fun b => (b.a : Int)))).getD []
def aroundTo (cs : List Ins) (at_ : Int) (i : Nat) : List Int := if 0 ≤ at_ ∧ at_ < i then openOf cs at_.toNat else []
theorem aroundTo_succ (cs : List Ins) (at_ : Int) (i : Nat) : aroundTo cs at_ (i + 1) = if (i : Int) = at_ then aroundTo cs at_ i ++ openOf cs i else aroundTo cs at_ i := by
  unfold aroundTo
  by_cases h : (i : Int) = at_
  · subst h
    rw [if_pos rfl, if_pos (by omega), if_neg (by omega)]
    simp
  · rw [if_neg h]
    by_cases h2 : 0 ≤ at_ ∧ at_ < i
    · rw [if_pos (by omega), if_pos h2]
    · rw [if_neg (by omega), if_neg h2]
def shape_Around.f (l0 : List Ins) (a1 : Int) : Option (List Int) := if l0.length ≤ 1048576 then some (match scanAll l0 with | none => [] | some _ => aroundTo l0 a1 l0.length) else none
theorem cf_around (args : Array Value) (W : World) : (callFunc 26 args).run Try.prog W = .ok (.enter 26 args) W := by go_simp
def ArInv (cs : List Ins) (w : World) (at_ : Int) (bout i : Nat) (W : World) (T : Nat → Prop) : Prop :=
  (∀ k, T k → k = bout ∨ w.heap.size ≤ k) ∧ T bout ∧ ∃ v, Blk W bout 24 #[v] ∧ RI W w.heap.size (fun k => T k ∧ k ≠ bout) v (aroundTo cs at_ i)
theorem openOf_len (cs : List Ins) (i : Nat) : (openOf cs i).length ≤ 8 := by
  unfold openOf
  cases h : scanTo cs i with
  | none => simp
  | some s =>
    have := (scanTo_ok (m := s.1) (fs := s.2) h).2.1
    simpa using this
theorem sees_around (cs : List Ins) (w : World) (bat bout : Nat) (at_ : Int) (h0 : w.cell? ⟨bat, 0, none⟩ = some (.int .i64 at_)) (hbl : bat < w.heap.size) (hne : bat ≠ bout) (hbo : bout < w.heap.size) : Sees cs w (fun k => k = bout) 26 #[.pointer (some ⟨bat, 0, none⟩), .pointer (some ⟨bout, 0, none⟩)] (ArInv cs w at_ bout) := by
  refine ⟨fun i W W' T S hi hc hS => ?_, fun i W T Ao c ps ats hi hI hc hC hAo hats hlen h8 hcl => ?_⟩
  · obtain ⟨h1, h2, v, h3, h4⟩ := hi
    exact ⟨h1, h2, v, blk_kept h3 hc.2 (fun hs => (hS bout hs).1 h2), Kd.R_kept h4 hc.2 (fun k hk hs => (hS k hs).1 hk.1)⟩
  · obtain ⟨h1, h2, v, h3, h4⟩ := hI
    have hsz : w.heap.size ≤ W.heap.size := hc.size
    have hop : openOf cs i = ats.map (fun (n : Nat) => (n : Int)) := by
      unfold openOf
      cases hs : scanTo cs i with
      | none => rw [hs] at hats; cases hats
      | some s =>
        rw [hs] at hats
        have : s.2.map Fr.a = ats := Option.some.inj hats
        rw [← this]
        simp
    have hTb : ∀ k, T k ∧ k ≠ bout → w.heap.size ≤ k := fun k hk => (h1 k hk.1).elim (fun e => absurd e hk.2) id
    have hol : (aroundTo cs at_ i).length ≤ 8 := by
      unfold aroundTo
      split
      · exact openOf_len _ _
      · simp
    refine (shape_Around_lit1_26.calls W i at_ Ao c ps (ats.map (fun (n : Nat) => (n : Int))) bat bout w.heap.size v (aroundTo cs at_ i) (fun k => T k ∧ k ≠ bout) (cellS h0 hc.2 hne) ⟨fun h => by have := hTb _ h; omega, hne⟩ hC (fun ad e => ⟨fun h => hAo ad e h.1, fun h => hAo ad e (by rw [h]; exact h2)⟩) (by rw [List.length_map]; exact hlen) (fun j hj hj' => ?_) h3 h4 (fun h => h.2 rfl) hsz (by omega)).mono ?_
    · have hj2 : j < ats.length := by rw [List.length_map] at hj'; exact hj'
      obtain ⟨c1, c2⟩ := hcl j hj hj2
      exact ⟨by rw [List.getElem_map]; exact c1, fun h => c2 h.1, fun h => c2 (by rw [h]; exact h2)⟩
    · rintro e W' ⟨rfl, v', hb', hr', hc'⟩
      have hTS : ∀ k, (k = bout ∨ T k ∧ k ≠ bout) → T k := fun k hk => hk.elim (fun e => e ▸ h2) (fun h => h.1)
      refine ⟨rfl, hc'.mono hTS, fun k => (T k ∨ W.heap.size ≤ k) ∧ k < W'.heap.size, ⟨fun k hk => ?_, ⟨.inl h2, hb'.lt⟩, v', hb', ?_⟩, fun k hk => hk⟩
      · rcases hk.1 with h | h
        · exact h1 k h
        · exact .inr (by omega)
      · rw [aroundTo_succ, hop]
        refine R_rel hr' (fun k hk h => ?_)
        rcases h with h | h
        · exact ⟨⟨.inl h.1, hk⟩, h.2⟩
        · exact ⟨⟨.inr h, hk⟩, by omega⟩
set_option maxRecDepth 100000 in
set_option maxHeartbeats 4000000 in
theorem shape_Around.calls (A0 : Option Addr) (c0 : Nat) (l0 : List (S31)) (a1 : Int) (r : List Int) (w : World) (hr0 : Kd.C k31 w A0 l0.length l0) (hc0 : l0.length ≤ c0) (h : shape_Around.f l0 a1 = some r) :
    Calls Try.prog 19 #[.slice A0 l0.length c0, .int .i64 a1] w fun e w' => ∃ v0_ : Value, e = .returned (v0_) ∧ Kd.R (Kd.int .i64) 3 w' w.heap.size (fun _ => True) v0_ r ∧ Below w.heap.size w w' := by
  unfold shape_Around.f at h
  split at h
  · rename_i hl
    have hB1 : Below w.heap.size w ((w.alloc (.cells #[.int .i64 a1] 3)).alloc (.cells #[.slice none 0 0] 24)) := ((Below.refl _ w).alloc (Nat.le_refl _) _).alloc (by rw [World.size_alloc]; omega) _
    have b0 := (Blk.new w 3 #[.int .i64 a1]).alloc (.cells #[.slice none 0 0] 24)
    have b1 := Blk.new (w.alloc (.cells #[.int .i64 a1] 3)) 24 #[.slice none 0 0]
    rw [World.size_alloc] at b1
    have hrC := Kd.C_below hr0 hB1
    have hA1 : 0 < l0.length → ∀ ad, A0 = some ad → ad.block ≠ w.heap.size + 1 := fun hn ad e => by
      subst e
      have := Kd.C_lt hr0 hn (by decide)
      omega
    have HS := Aside0.mk (shape_scan.calls _ A0 c0 26 l0 (fun k => k = w.heap.size + 1) #[.pointer (some ⟨w.heap.size, 0, none⟩), .pointer (some ⟨w.heap.size + 1, 0, none⟩)] (ArInv l0 ((w.alloc (.cells #[.int .i64 a1] 3)).alloc (.cells #[.slice none 0 0] 24)) a1 (w.heap.size + 1)) hrC (fun k hk => by rw [World.size_alloc, World.size_alloc]; omega) hA1 ⟨fun k hk => .inl hk, rfl, _, b1, by
      have e0 : aroundTo l0 a1 0 = [] := if_neg (by omega)
      rw [e0]
      exact Kd.R_nil _ _ _ _ _⟩ (sees_around l0 _ w.heap.size (w.heap.size + 1) a1 (b0.cell 0) (by rw [World.size_alloc, World.size_alloc]; omega) (by omega) (by rw [World.size_alloc, World.size_alloc]; omega)) cf_around hl)
    have HBE := Aside0.mk (fun (w' : World) (hc : Chg ((w.alloc (.cells #[.int .i64 a1] 3)).alloc (.cells #[.slice none 0 0] 24)) w' (fun k => k = w.heap.size + 1)) => hB1.trans (hc.below (B := w.heap.size) (by rw [World.size_alloc, World.size_alloc]; omega) (fun k hk => by omega)))
    clear hr0 hl hB1 b0 b1 hrC hA1
    cases hs : scanAll l0 with
    | none =>
      rw [hs] at h
      obtain rfl := Option.some.inj h
      have HX := Aside0.mk hs
      clear h hs
      go_enter Try.func19, Try.ntmps19
      go_wp2_with (go_at_call 21; (with_reducible refine HS.out.mono ?_); rintro e w' ⟨hc, hm⟩; rw [HX.out] at hm; obtain rfl := hm; have HC := Aside0.mk hc; clear hc)
      go_ret
      exact ⟨_, rfl, Kd.R_nil _ _ _ _ _, HBE.out w' HC.out⟩
    | some m =>
      rw [hs] at h
      obtain rfl := Option.some.inj h
      have HX := Aside0.mk hs
      clear h hs
      go_enter Try.func19, Try.ntmps19
      go_wp2_with (go_at_call 21; (with_reducible refine HS.out.mono ?_); rintro e w' ⟨hc, hm⟩; rw [HX.out] at hm; obtain ⟨v, T, rfl, _, ⟨_, _, u, hb, hR⟩, _⟩ := hm; have hq : w'.cell? ⟨w.heap.size + 1, 0, none⟩ = some u := hb.cell 0; have HC := Aside0.mk hc; have HR := Aside0.mk hR; clear hc hR hb)
      go_ret
      exact ⟨_, rfl, Kd.R_lower (Kd.R_mono HR.out (fun _ _ => trivial)) (by rw [World.size_alloc, World.size_alloc]; omega), HBE.out w' HC.out⟩
  · cases h


end Go.Proofs.Ytbdmbkmokhaflaa.Q
end

section
/- layer 6: the depth, and what is open at a place: both answers are the same -/
set_option linter.unusedVariables false
set_option linter.unusedSimpArgs false
namespace Go.Proofs.Ytbdmbkmokhaflaa.Th
open Go.RowKit Go.Proofs.YtbdmbkmokhaflaaW.PrintWords Go.Proofs.YtbdmbkmokhaflaaW.Hb
open Go.Shape6 Go.Proofs.Ytbdmbkmokhaflaa.Q

theorem row_nl {cs : List Ins} (hH : H1 cs) {m : List Int} (h : scanTo cs cs.length = some (m, [])) (k : Nat) (hk : k < cs.length) (h52 : opc cs k ≠ 52) : m[k]? = (mB cs cs.length)[k]? := by
  have hL := scan_L1 h
  have h2 := scan_L2 (Nat.le_refl _) h
  have hP := PB_ok hH cs.length (Nat.le_refl _)
  by_cases hop : opc cs k = 48 ∨ opc cs k = 51
  · obtain ⟨x, e, hc, _⟩ := hH.fin hk (isOp_iff.2 hop)
    rw [(hP.b1 k x e hk (isOp_iff.2 hop) hc).1, h2.m1 k hk (isOp_iff.2 hop), hc]
    rfl
  · by_cases h9 : opc cs k = 49
    · obtain ⟨a, p1, p2, p3⟩ := hL.el k hk h9
      rcases p3 with ⟨d, p3⟩ | ⟨e, p3, p4⟩
      · obtain ⟨j, hj, _⟩ := hL.run_ (by omega) p2 p3
        simp at hj
      · obtain ⟨n, rfl⟩ := Int.eq_ofNat_of_zero_le p4
        have g := (hP.b1 a k n (by omega) p2 p3).2.2 (by omega)
        have g' := (h2.m2 a k n (by omega) p2 p3).2 (by omega)
        rw [Int.toNat_natCast] at g g'
        rw [g, g']
    · by_cases h0 : opc cs k = 50
      · obtain ⟨a, p1, p2, x, p3⟩ := hL.en k hk h0
        rw [(hP.b1 a x k (by omega) p2 p3).2.1, (h2.m2 a x k (by omega) p2 p3).1]
      · rw [h2.m5 k hk (by unfold special; omega)]
        refine (hP.b2 k hk (fun _ => isOp_not hop) (fun a x e ha hoa hc => ⟨fun he => ?_, fun hx => ?_⟩)).symm
        · obtain ⟨d1, d2, d3, d4⟩ := fin_facts ha hc
          rw [he] at d3
          exact h0 d3
        · obtain ⟨d1, d2, d3, d4⟩ := fin_facts ha hc
          rcases d4 with d4 | ⟨d4, d5, d6, d7⟩
          · omega
          · rw [hx, Int.toNat_natCast] at d6
            exact h9 d6
theorem scanAll_inv {cs : List Ins} {m : List Int} (h : scanAll cs = some m) : scanTo cs cs.length = some (m, []) := by
  unfold scanAll at h
  cases hs : scanTo cs cs.length with
  | none => rw [hs] at h; cases h
  | some s =>
    rw [hs] at h
    have h : (if s.2.length = 0 then some s.1 else none) = some m := h
    by_cases hl : s.2.length = 0
    · rw [if_pos hl] at h
      have e1 : s.1 = m := Option.some.inj h
      have e2 : s.2 = [] := List.eq_nil_of_length_eq_zero hl
      rw [← e1, ← e2]
    · rw [if_neg hl] at h
      cases h
theorem good_H1 {cs : List Ins} {m : List Int} (h : scanAll cs = some m) : H1 cs := (scan_good (scanAll_inv h) rfl).1
theorem row_DI {cs : List Ins} {m : List Int} (h : scanAll cs = some m) : DI cs cs.length m := by
  have hs := scanAll_inv h
  have h2 := scan_L2 (Nat.le_refl _) hs
  refine ⟨(scanTo_ok hs).1, fun k hk h52 => row_nl (good_H1 h) hs k hk h52, fun k hk h52 => ?_, fun k h1 h2 => by omega⟩
  obtain ⟨a, s1, s2⟩ := h2.m4 k hk h52
  rcases s2 with ⟨b, hb, _⟩ | ⟨y, f, s3, s4⟩
  · cases hb
  · exact ⟨a, y, f, s1, s3, s4⟩
theorem scanTo_before {cs : List Ins} {j : Nat} {s : List Int × List Fr} (h : scanTo cs j = some s) {i : Nat} (hi : i ≤ j) : ∃ m fs, scanTo cs i = some (m, fs) := by
  cases hs : scanTo cs i with
  | none => rw [scanTo_none hs hi] at h; cases h
  | some t => exact ⟨t.1, t.2, rfl⟩
theorem openOf_eq {cs : List Ins} {m : List Int} (h : scanAll cs = some m) {i : Nat} (hi : i ≤ cs.length) : openOf cs i = toI (openL cs i) ∧ openAt cs i = (openL cs i).length ∧ (openL cs i).length ≤ 8 := by
  obtain ⟨m', fs, hs⟩ := scanTo_before (scanAll_inv h) hi
  have e := openL_eq (good_H1 h) hi hs
  unfold openOf openAt toI
  rw [hs, e]
  exact ⟨by simp, by simp, by simp; exact (scanTo_ok hs).2.1⟩
theorem depthTo_bound {cs : List Ins} {m : List Int} (h : scanAll cs = some m) {i : Nat} (hi : i ≤ cs.length) : 0 ≤ depthTo cs i := by
  induction i with
  | zero => exact Int.le_refl _
  | succ i ih =>
    have := ih (by omega)
    show 0 ≤ deeper _ _ _
    unfold deeper
    omega
theorem depth_l0 {cs : List Ins} (hm : cs.length ≤ 1048576) {m : List Int} (h : scanAll cs = some m) (q : Nat) : ∀ i, cs.length - i = q → i ≤ cs.length → Ev (fun k => weighhouseref06_Depth.l0 k cs m (depthTo cs i) (i : Int)) (depthTo cs cs.length, 0) := by
  have hH := good_H1 h
  have hD := row_DI h
  induction q with
  | zero =>
    intro i hq hi
    have e : i = cs.length := by omega
    subst e
    refine Ev.step (f := fun _ => some (depthTo cs cs.length, 0)) (fun k => ?_) (Ev.now _)
    simp only [weighhouseref06_Depth.l0]
    rw [if_neg (by omega)]
  | succ q ih =>
    intro i hq hi
    have hil : i < cs.length := by omega
    obtain ⟨e1, e2, e3⟩ := openOf_eq h hi
    have hw : wrap64 ((i : Int) + 1) = ((i + 1 : Nat) : Int) := by rw [w64 (by omega) (by omega)]; rfl
    have htl : (toI (openL cs i)).length = (openL cs i).length := by unfold toI; rw [List.length_map]
    have hd : depthTo cs (i + 1) = deeper (depthTo cs i) (openL cs i).length (opc cs i) := by
      show deeper (depthTo cs i) (openAt cs i) (Q.opAt cs i) = _
      rw [e2]
    refine Ev.step (f := fun k => (weighhouseref06_opened.f k cs m (i : Int)).bind fun t180 => (if 0 ≤ (i : Int) then (if ((rd_T31 cs (i : Int)).f0) = 48 then (weighhouseref06_Depth.l0 k cs m (mx (depthTo cs i) (wrap64 ((t180.length : Int) + 1))) (wrap64 ((i : Int) + 1))) else (if ((rd_T31 cs (i : Int)).f0) = 51 then (weighhouseref06_Depth.l0 k cs m (mx (depthTo cs i) (wrap64 ((t180.length : Int) + 1))) (wrap64 ((i : Int) + 1))) else (weighhouseref06_Depth.l0 k cs m (mx (depthTo cs i) (t180.length : Int)) (wrap64 ((i : Int) + 1))))) else (none))) (fun k => ?_) (Ev.bind (opened_ev hm hH hD i hi) ?_)
    · simp only [weighhouseref06_Depth.l0]
      rw [if_pos (by omega)]
    · refine Ev.congr (fun k => ?_) (ih (i + 1) (by omega) (by omega))
      rw [if_pos (by omega), rdI cs i hil, hw, htl, w64 (by omega) (by omega), hd]
      unfold deeper opens
      by_cases h48 : opc cs i = 48
      · rw [if_pos h48, h48]
        congr 1
        unfold mx
        simp
        split <;> omega
      · rw [if_neg h48]
        by_cases h51 : opc cs i = 51
        · rw [if_pos h51, h51]
          congr 1
          unfold mx
          simp
          split <;> omega
        · rw [if_neg h51]
          congr 1
          unfold mx
          simp [h48, h51]
          split <;> omega
def depthRes (cs : List Ins) : Int × Int := match scanAll cs with | none => (0, 31) | some _ => (depthTo cs cs.length, 0)
theorem ref_depth (cs : List Ins) (hm : cs.length ≤ 1048576) : Ev (fun k => weighhouseref06_Depth.f k cs) (depthRes cs) := by
  have hM := ref_match cs hm
  unfold depthRes
  cases h : scanAll cs with
  | none =>
    have e : matchRes cs = ([], 31) := by unfold matchRes; rw [h]
    rw [e] at hM
    refine Ev.congr (f := fun k => (weighhouseref06_Match.f k cs).bind fun bt176 => (if bt176.2 = 0 then (weighhouseref06_Depth.l0 k cs bt176.1 0 0) else (some (0, bt176.2)))) (fun k => rfl) (Ev.bind hM ?_)
    exact Ev.congr (f := fun _ => some (0, 31)) (fun k => if_neg (by decide)) (Ev.now _)
  | some m =>
    have e : matchRes cs = (m, 0) := by unfold matchRes; rw [h]
    rw [e] at hM
    refine Ev.congr (f := fun k => (weighhouseref06_Match.f k cs).bind fun bt176 => (if bt176.2 = 0 then (weighhouseref06_Depth.l0 k cs bt176.1 0 0) else (some (0, bt176.2)))) (fun k => rfl) (Ev.bind hM ?_)
    exact Ev.congr (f := fun k => weighhouseref06_Depth.l0 k cs m (depthTo cs 0) ((0 : Nat) : Int)) (fun k => if_pos rfl) (depth_l0 hm h cs.length 0 (by omega) (Nat.zero_le _))
def aroundRes (cs : List Ins) (a : Int) : List Int := match scanAll cs with | none => [] | some _ => aroundTo cs a cs.length
theorem ref_around (cs : List Ins) (a : Int) (hm : cs.length ≤ 1048576) : Ev (fun k => weighhouseref06_Around.f k cs a) (aroundRes cs a) := by
  have hM := ref_match cs hm
  unfold aroundRes
  cases h : scanAll cs with
  | none =>
    have e : matchRes cs = ([], 31) := by unfold matchRes; rw [h]
    rw [e] at hM
    refine Ev.congr (f := fun k => (weighhouseref06_Match.f k cs).bind fun bt185 => (if bt185.2 = 0 then (if a < 0 then (some ([] : List Int)) else (if a ≥ (cs.length : Int) then (some ([] : List Int)) else ((weighhouseref06_opened.f k cs bt185.1 a).bind fun t189 => (some t189)))) else (some ([] : List Int)))) (fun k => rfl) (Ev.bind hM ?_)
    exact Ev.congr (f := fun _ => some []) (fun k => if_neg (by decide)) (Ev.now _)
  | some m =>
    have e : matchRes cs = (m, 0) := by unfold matchRes; rw [h]
    rw [e] at hM
    refine Ev.congr (f := fun k => (weighhouseref06_Match.f k cs).bind fun bt185 => (if bt185.2 = 0 then (if a < 0 then (some ([] : List Int)) else (if a ≥ (cs.length : Int) then (some ([] : List Int)) else ((weighhouseref06_opened.f k cs bt185.1 a).bind fun t189 => (some t189)))) else (some ([] : List Int)))) (fun k => rfl) (Ev.bind hM ?_)
    show Ev _ (aroundTo cs a cs.length)
    unfold aroundTo
    by_cases h0 : a < 0
    · rw [if_neg (by omega)]
      exact Ev.congr (f := fun _ => some []) (fun k => by dsimp only; rw [if_pos rfl, if_pos h0]) (Ev.now _)
    · by_cases h1 : a ≥ (cs.length : Int)
      · rw [if_neg (by omega)]
        exact Ev.congr (f := fun _ => some []) (fun k => by dsimp only; rw [if_pos rfl, if_neg h0, if_pos h1]) (Ev.now _)
      · obtain ⟨n, rfl⟩ := Int.eq_ofNat_of_zero_le (by omega : 0 ≤ a)
        rw [if_pos (by omega), Int.toNat_natCast, (openOf_eq h (by omega)).1]
        exact Ev.congr (f := fun k => (weighhouseref06_opened.f k cs m (n : Int)).bind fun t189 => (some t189)) (fun k => by dsimp only; rw [if_pos rfl, if_neg h0, if_neg h1]) (Ev.bind (opened_ev hm (good_H1 h) (row_DI h) n (by omega)) (Ev.now _))
theorem match_f (cs : List Ins) (hm : cs.length ≤ 1048576) : shape_Match.f cs = some (matchRes cs) := by
  unfold matchRes
  cases h : scanAll cs with
  | none => exact match_none hm h
  | some m => exact match_some hm h
theorem depth_f (cs : List Ins) (hm : cs.length ≤ 1048576) : shape_Depth.f cs = some (depthRes cs) := by
  unfold shape_Depth.f
  rw [if_pos hm]
  rfl
theorem around_f (cs : List Ins) (a : Int) (hm : cs.length ≤ 1048576) : shape_Around.f cs a = some (aroundRes cs a) := by
  unfold shape_Around.f
  rw [if_pos hm]
  rfl
theorem match_len (cs : List Ins) : (matchRes cs).1.length ≤ cs.length := by
  unfold matchRes
  cases h : scanAll cs with
  | none => exact Nat.zero_le _
  | some m => exact Nat.le_of_eq (scanTo_ok (scanAll_inv h)).1
end Go.Proofs.Ytbdmbkmokhaflaa.Th
end

section
/- layer 6: where instructions lead, one by one, when all is well -/
set_option linter.unusedVariables false
set_option linter.unusedSimpArgs false
namespace Go.Proofs.Ytbdmbkmokhaflaa.Th
open Go.RowKit Go.Proofs.YtbdmbkmokhaflaaW.PrintWords Go.Proofs.YtbdmbkmokhaflaaW.Hb
open Go.Shape6 Go.Proofs.Ytbdmbkmokhaflaa.Q

theorem row_open {cs : List Ins} {m : List Int} (h : scanAll cs = some m) {a : Nat} (ha : a < cs.length) (ho : isOp (opc cs a) = true) : ∃ (x : Int) (e : Nat), cl (opc cs) a cs.length = .fin x e ∧ xe cs a = (x, (e : Int)) ∧ a < e ∧ e < cs.length ∧ opc cs e = 50 ∧ (x = -1 ∨ ((a : Int) < x ∧ x < e ∧ opc cs x.toNat = 49 ∧ opc cs a = 48)) ∧ m[a]? = some (if 0 ≤ x then x else (e : Int)) ∧ m[e]? = some (a : Int) ∧ (0 ≤ x → m[x.toNat]? = some (e : Int)) := by
  have hs := scanAll_inv h
  have h2 := scan_L2 (Nat.le_refl _) hs
  obtain ⟨x, e, hc, hxe⟩ := (good_H1 h).fin ha ho
  obtain ⟨d1, d2, d3, d4⟩ := fin_facts ha hc
  obtain ⟨g1, g2⟩ := h2.m2 a x e ha ho hc
  refine ⟨x, e, hc, hxe, d1, d2, d3, d4, ?_, g1, g2⟩
  rw [h2.m1 a ha ho, hc]
  rfl
theorem row_else {cs : List Ins} {m : List Int} (h : scanAll cs = some m) {k : Nat} (hk : k < cs.length) (ho : opc cs k = 49) : ∃ (a e : Nat), a < k ∧ k < e ∧ e < cs.length ∧ opc cs e = 50 ∧ isOp (opc cs a) = true ∧ cl (opc cs) a cs.length = .fin (k : Int) e ∧ m[k]? = some (e : Int) := by
  have hs := scanAll_inv h
  have hL := scan_L1 hs
  obtain ⟨a, p1, p2, p3⟩ := hL.el k hk ho
  rcases p3 with ⟨d, p3⟩ | ⟨e, p3, p4⟩
  · obtain ⟨j, hj, _⟩ := hL.run_ (by omega) p2 p3
    simp at hj
  · obtain ⟨n, rfl⟩ := Int.eq_ofNat_of_zero_le p4
    obtain ⟨d1, d2, d3, d4⟩ := fin_facts (by omega : a < cs.length) p3
    have g := ((scan_L2 (Nat.le_refl _) hs).m2 a k n (by omega) p2 p3).2 (by omega)
    rw [Int.toNat_natCast] at g
    exact ⟨a, n, p1, by omega, d2, d3, p2, p3, g⟩
theorem row_end {cs : List Ins} {m : List Int} (h : scanAll cs = some m) {k : Nat} (hk : k < cs.length) (ho : opc cs k = 50) : ∃ (a : Nat) (x : Int), a < k ∧ isOp (opc cs a) = true ∧ cl (opc cs) a cs.length = .fin x k ∧ m[k]? = some (a : Int) := by
  have hs := scanAll_inv h
  have hL := scan_L1 hs
  obtain ⟨a, p1, p2, x, p3⟩ := hL.en k hk ho
  exact ⟨a, x, p1, p2, p3, ((scan_L2 (Nat.le_refl _) hs).m2 a x k (by omega) p2 p3).1⟩
theorem end_after {cs : List Ins} {a k d : Nat} {x y : Int} {e : Nat} (hk : k ≤ cs.length) (ha : a < k) (h1 : cl (opc cs) a k = .run d y) (h2 : cl (opc cs) a cs.length = .fin x e) : k ≤ e := by
  rcases Nat.lt_or_ge e k with hlt | hge
  · have p := cl_end (by omega) x e h2
    have h4 : cl (opc cs) a (e + 1) = .fin x e := by
      have q1 := cl_succ (opc cs) a e p.1
      rw [p.2.2] at q1
      obtain ⟨d1, d2, d3, d4⟩ := fin_facts (by omega : a < cs.length) h2
      unfold clS at q1
      dsimp only at q1
      rw [isOp_not (by omega), if_neg (by decide), if_neg (by omega), if_pos d3, if_pos rfl] at q1
      exact q1
    have h5 := cl_fin_mono h4 (by omega) (by omega : e + 1 ≤ k)
    rw [h1] at h5
    cases h5
  · exact hge
theorem row_leave {cs : List Ins} {m : List Int} (h : scanAll cs = some m) {k : Nat} (hk : k < cs.length) (ho : opc cs k = 52) : ∃ e : Nat, k < e ∧ e < cs.length ∧ opc cs e = 50 ∧ m[k]? = some (e : Int) := by
  have hs := scanAll_inv h
  obtain ⟨a, s1, s2⟩ := (scan_L2 (Nat.le_refl _) hs).m4 k hk ho
  rcases s2 with ⟨b, hb, _⟩ | ⟨y, f, s3, s4⟩
  · cases hb
  · obtain ⟨t1, t2, d, x, t3⟩ := s1.ok
    obtain ⟨d1, d2, d3, d4⟩ := fin_facts (by omega : a < cs.length) s3
    have := end_after (by omega) t1 t3 s3
    refine ⟨f, ?_, d2, d3, s4⟩
    rcases Nat.lt_or_eq_of_le this with h5 | h5
    · exact h5
    · rw [← h5] at d3
      omega
/-- Behind any instruction one comes forward, or back to a block's opener. -/
theorem next_way {cs : List Ins} {m : List Int} (h : scanAll cs = some m) (c : Nat) (hc : c < cs.length) (yes : Bool) :
    (opc cs c = 50 ∧ yes = true → nextS cs m c yes = rd m (c : Int) + 1 ∧ nextS cs m c yes ≤ c) ∧ (¬ (opc cs c = 50 ∧ yes = true) → nextS cs m c yes > c ∧ nextS cs m c yes ≤ cs.length) := by
  have hlm := (scanTo_ok (scanAll_inv h)).1
  have hmain : asksS (opc cs c) yes = true → ∀ v : Nat, m[c]? = some (v : Int) → v < cs.length → nextS cs m c yes = v + 1 := by
    intro ha v hv hv2
    unfold nextS
    rw [if_neg (by omega), Int.toNat_natCast, if_pos ha, rd_get hv, if_neg (by omega)]
  have hplain : asksS (opc cs c) yes = false → nextS cs m c yes = (c : Int) + 1 := by
    intro ha
    unfold nextS
    rw [if_neg (by omega), Int.toNat_natCast, if_neg (by show ¬ asksS (opc cs c) yes = true; rw [ha]; decide)]
  constructor
  · rintro ⟨h50, rfl⟩
    obtain ⟨a, x, p1, p2, p3, p4⟩ := row_end h hc h50
    have := hmain (by rw [h50]; rfl) a p4 (by omega)
    rw [this, rd_get p4]
    omega
  · intro hn
    by_cases ha : asksS (opc cs c) yes = true
    · have hv : ∃ v : Nat, m[c]? = some (v : Int) ∧ c < v ∧ v < cs.length := by
        unfold asksS at ha
        split at ha
        · rename_i h9
          obtain ⟨a, e, p1, p2, p3, p4, p5, p6, p7⟩ := row_else h hc h9
          exact ⟨e, p7, p2, p3⟩
        · split at ha
          · rename_i h48
            obtain ⟨x, e, q1, q2, q3, q4, q5, q6, q7, q8, q9⟩ := row_open h hc (isOp_iff.2 (.inl h48))
            by_cases hx : 0 ≤ x
            · rw [if_pos hx] at q7
              exact ⟨x.toNat, by rw [Int.toNat_of_nonneg hx]; exact q7, by omega, by omega⟩
            · rw [if_neg hx] at q7
              exact ⟨e, q7, q3, q4⟩
          · split at ha
            · rename_i h5
              rcases h5 with h50 | h52
              · exact absurd ⟨h50, ha⟩ hn
              · obtain ⟨e, p1, p2, p3, p4⟩ := row_leave h hc h52
                exact ⟨e, p4, p1, p2⟩
            · cases ha
      obtain ⟨v, hv1, hv2, hv3⟩ := hv
      rw [hmain ha v hv1 hv3]
      omega
    · rw [hplain (by simpa using ha)]
      omega
theorem tmod_in {x n : Int} (hn : 0 < n) (hb : n ≤ 1000000) : 0 ≤ Int.tmod (wrap64 (Int.tmod x n + n)) n ∧ Int.tmod (wrap64 (Int.tmod x n + n)) n < n := by
  have h1 : -n < Int.tmod x n ∧ Int.tmod x n < n := by
    constructor
    · have h2 := Int.tmod_lt_of_pos (-x) hn
      rw [Int.neg_tmod] at h2
      omega
    · exact Int.tmod_lt_of_pos x hn
  rw [w64 (by omega) (by omega)]
  exact ⟨Int.tmod_nonneg _ (by omega), Int.tmod_lt_of_pos _ hn⟩
end Go.Proofs.Ytbdmbkmokhaflaa.Th
end

section
/- ShapeWays: the pure statement, proved: from each place one comes to a place, or the end; without going round one only comes forward -/
namespace Go.Proofs.Ytbdmbkmokhaflaa.PuShapeWays
open Go.RowKit Go.Proofs.YtbdmbkmokhaflaaW.PrintWords Go.Proofs.YtbdmbkmokhaflaaW.Hb Go.Proofs.YtbdmbkmokhaflaaW.Ho Go.Proofs.Ytbdmbkmokhaflaa.Q Go.Proofs.Ytbdmbkmokhaflaa.OpShapeWays Go.Proofs.Ytbdmbkmokhaflaa.Th

theorem kn : Ev (fun k => (weighhouselaw06_knows.f k).bind fun t189 => (some t189)) true := Ev.bind knows_ev (Ev.now _)
theorem j0_true (x0 : List Ins) (x1 : Int) (x2 : Bool) : Ev (fun k => weighhouselaw06_ShapeWays.j0 k x0 x1 x2 true) true := by
  refine Ev.step (f := fun k => (weighhouselaw06_knows.f k).bind fun t189 => (some t189)) (fun k => ?_) kn
  simp only [weighhouselaw06_ShapeWays.j0]
  rw [if_true]
theorem j1_ok {x0 : List Ins} (hm : x0.length ≤ 1048576) {m : List Int} (h : scanAll x0 = some m) (c : Nat) (hc : c < x0.length) (yes : Bool) :
    Ev (fun k => weighhouselaw06_ShapeWays.j1 k x0 (c : Int) m (nextS x0 m c yes) (decide (opc x0 c = 50 ∧ yes = true))) true := by
  obtain ⟨w1, w2⟩ := next_way h c hc yes
  have hlm := (scanTo_ok (scanAll_inv h)).1
  by_cases hb : opc x0 c = 50 ∧ yes = true
  · obtain ⟨v1, v2⟩ := w1 hb
    have hr : rd m (c : Int) ≤ c := by omega
    obtain ⟨a, x, p1, p2, p3, p4⟩ := row_end h hc hb.1
    have hrd := rd_get p4
    rw [decide_eq_true hb]
    refine Ev.step (f := fun k => (weighhouselaw06_knows.f k).bind fun t189 => (some t189)) (fun k => ?_) kn
    simp only [weighhouselaw06_ShapeWays.j1]
    rw [if_true, if_pos (by omega), if_pos (by omega), w64 (by omega) (by omega), if_pos v1, if_pos v2]
  · obtain ⟨v1, v2⟩ := w2 hb
    rw [decide_eq_false hb]
    refine Ev.step (f := fun k => (weighhouselaw06_knows.f k).bind fun t189 => (some t189)) (fun k => ?_) kn
    simp only [weighhouselaw06_ShapeWays.j1]
    rw [if_neg (by decide), if_pos v1, if_pos v2]
theorem j0_false (x0 : List Ins) (x1 : Int) (x2 : Bool) (h0 : x0.length ≠ 0) (hm : x0.length ≤ 200) : Ev (fun k => weighhouselaw06_ShapeWays.j0 k x0 x1 x2 false) true := by
  have hmm : x0.length ≤ 1048576 := by omega
  obtain ⟨t1, t2⟩ := tmod_in (x := x1) (n := (x0.length : Int)) (by omega) (by omega)
  obtain ⟨c, hc⟩ := Int.eq_ofNat_of_zero_le t1
  cases h : scanAll x0 with
  | none =>
    refine Ev.step (f := fun k => (weighhouselaw06_knows.f k).bind fun t189 => (some t189)) (fun k => ?_) kn
    simp only [weighhouselaw06_ShapeWays.j0]
    rw [if_neg (by decide), own_f x0 hmm, Option.bind_some, match_none hmm h, Option.bind_some]
    show ((some (31 : Int)).bind _) = _
    rw [Option.bind_some, if_neg (by decide)]
  | some m =>
    have hlm := (scanTo_ok (scanAll_inv h)).1
    have hcl : c < x0.length := by omega
    refine Ev.step (fun k => ?_) (j1_ok hmm h c hcl x2)
    simp only [weighhouselaw06_ShapeWays.j0]
    rw [if_neg (by decide), own_f x0 hmm, Option.bind_some, match_some hmm h, Option.bind_some, hc]
    show ((some (0 : Int)).bind _) = _
    rw [Option.bind_some, if_pos rfl, if_pos (by show (m.length : Int) = _; rw [hlm]), if_neg (by omega), Option.bind_some]
    show ((some (nextS x0 m (c : Int) x2)).bind _) = _
    rw [Option.bind_some, if_pos (by omega), if_pos (by omega), rdI x0 c hcl]
    by_cases h50 : opc x0 c = 50
    · rw [if_pos h50]
      congr 1
      cases x2 <;> simp [h50]
    · rw [if_neg h50, decide_eq_false (fun hh => h50 hh.1)]
theorem pure : Pure := by
  intro x0 x1 x2 q0 q1 q2
  refine Ev.rounds (g := fun k => weighhouselaw06_ShapeWays.f k x0 x1 x2) ?_
  by_cases h0 : (x0.length : Int) = 0
  · refine Ev.congr (f := fun k => weighhouselaw06_ShapeWays.j0 k x0 x1 x2 true) (fun k => ?_) (j0_true x0 x1 x2)
    unfold weighhouselaw06_ShapeWays.f
    rw [if_pos h0]
  · by_cases hb : (x0.length : Int) > 200
    · refine Ev.congr (f := fun k => weighhouselaw06_ShapeWays.j0 k x0 x1 x2 true) (fun k => ?_) (j0_true x0 x1 x2)
      unfold weighhouselaw06_ShapeWays.f
      rw [if_neg h0, decide_eq_true hb]
    · refine Ev.congr (f := fun k => weighhouselaw06_ShapeWays.j0 k x0 x1 x2 false) (fun k => ?_) (j0_false x0 x1 x2 (by omega) (by omega))
      unfold weighhouselaw06_ShapeWays.f
      rw [if_neg h0, decide_eq_false hb]
end Go.Proofs.Ytbdmbkmokhaflaa.PuShapeWays
end
