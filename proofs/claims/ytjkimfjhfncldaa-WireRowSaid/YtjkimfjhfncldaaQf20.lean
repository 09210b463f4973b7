-- written by hprint.py (a program of these sessions) out of the translation; Lean checks it
import Derived.Test.YtjkimfjhfncldaaQ0
import Derived.Test.YtjkimfjhfncldaaQf15
import Derived.Test.YtjkimfjhfncldaaQf44
import Derived.Test.YtjkimfjhfncldaaQf45
import Derived.Test.YtjkimfjhfncldaaQf47
import Derived.Test.YtjkimfjhfncldaaQf48
import Derived.Test.YtjkimfjhfncldaaQf49
namespace Go.Proofs.Ytjkimfjhfncldaa.Q
open Go.RowKit Go.Proofs.YtjkimfjhfncldaaW.Hb Go.Proofs.YtjkimfjhfncldaaW.PrintWords Go.Proofs.YtjkimfjhfncldaaW.PrintLast Go.Proofs.YtjkimfjhfncldaaW.PrintMore
attribute [local go_sem] max2_int min2_int max_two min_two max_three min_three max_four min_four   -- for this text's walks alone
set_option linter.unusedVariables false
set_option linter.unusedSimpArgs false

/-! ### wire_Frames: function 20, by hand -/
theorem cut_ex {P : Program} (t e : TypeId) {i : TypeInfo} (ht : P.underlying t = some (.slice e)) (hi : P.info? e = some i) (hsz : i.size = 1) (A : Option Addr) (c : Nat) (xs : List Int) (lo hi' : Int) (h0 : 0 ≤ lo) (h1 : lo ≤ hi') (h2 : hi' ≤ xs.length) (hc : xs.length ≤ c) (ys : List Int) (hys : ys = (xs.take hi'.toNat).drop lo.toNat) :
    ∃ A' c', (∀ W : World, (Instr.slice t (.slice A xs.length c) (some (.int .i64 lo)) (some (.int .i64 hi')) none).run P W = .ok (.slice A' ys.length c') W) ∧ ys.length ≤ c' ∧ ∀ (w : World) (k : IntKind), (Kd.int k).C w A xs.length xs → (Kd.int k).C w A' ys.length ys := by
  subst hys
  have hl : ((xs.take hi'.toNat).drop lo.toNat).length = hi'.toNat - lo.toNat := by simp; omega
  refine ⟨(if c = lo.toNat then A else A.map (·.add (lo.toNat * 1))), c - lo.toNat, fun W => ?_, by rw [hl]; omega, fun w k h => ?_⟩
  · rw [hl]
    exact cut_mid t e .i64 .i64 ht hi 1 hsz A xs.length c lo hi' h0 h1 h2 hc W
  · exact Kd.C_mid h (by omega) (by omega) hc
theorem cut_ex_from {P : Program} (t e : TypeId) {i : TypeInfo} (ht : P.underlying t = some (.slice e)) (hi : P.info? e = some i) (hsz : i.size = 1) (A : Option Addr) (c : Nat) (xs : List Int) (lo : Int) (h0 : 0 ≤ lo) (h1 : lo ≤ xs.length) (hc : xs.length ≤ c) (ys : List Int) (hys : ys = xs.drop lo.toNat) :
    ∃ A' c', (∀ W : World, (Instr.slice t (.slice A xs.length c) (some (.int .i64 lo)) none none).run P W = .ok (.slice A' ys.length c') W) ∧ ys.length ≤ c' ∧ ∀ (w : World) (k : IntKind), (Kd.int k).C w A xs.length xs → (Kd.int k).C w A' ys.length ys := by
  subst hys
  have hl : (xs.drop lo.toNat).length = xs.length - lo.toNat := by simp
  refine ⟨(if c = lo.toNat then A else A.map (·.add (lo.toNat * 1))), c - lo.toNat, fun W => ?_, by rw [hl]; omega, fun w k h => ?_⟩
  · rw [hl]
    exact cut_from t e .i64 ht hi 1 hsz A xs.length c lo h0 h1 W
  · exact Kd.C_drop h (by omega) hc
theorem cut_ex_to {P : Program} (t e : TypeId) {i : TypeInfo} (ht : P.underlying t = some (.slice e)) (hi : P.info? e = some i) (A : Option Addr) (c : Nat) (xs : List Int) (hi' : Int) (h0 : 0 ≤ hi') (h1 : hi' ≤ xs.length) (hc : xs.length ≤ c) (ys : List Int) (hys : ys = xs.take hi'.toNat) :
    (∀ W : World, (Instr.slice t (.slice A xs.length c) none (some (.int .i64 hi')) none).run P W = .ok (.slice A ys.length c) W) ∧ ys.length ≤ c ∧ ∀ (w : World) (k : IntKind), (Kd.int k).C w A xs.length xs → (Kd.int k).C w A ys.length ys := by
  subst hys
  have hl : (xs.take hi'.toNat).length = hi'.toNat := by simp; omega
  refine ⟨fun W => ?_, by rw [hl]; omega, fun w k h => Kd.C_take h (by omega)⟩
  rw [hl]
  exact cut_to t e .i64 ht hi A xs.length c hi' h0 h1 hc W
def wire_Frames.l0 : Nat → List Int → List (List Int) → Nat → Option (List (List Int) × Int)
  | 0, _, _, _ => none
  | k + 1, b, l, e => if b.length < e then none else if (b.drop e).length < 8 then some (l, (e : Int)) else (wire_number.f k ((b.drop e).take 4)).bind fun m => if 1048576 < wrap64 m then some (l, (e : Int)) else if ((b.drop e).length : Int) - 8 < wrap64 m then some (l, (e : Int)) else if wrap64 m < 0 then none else (wire_Sum.f k ((b.drop e).take 4 ++ (((b.drop e).take (8 + wrap64 m).toNat).drop 8))).bind fun c => (wire_little.f k c).bind fun lc => (slices_Equal_byte_byte.f k lc (((b.drop e).take 8).drop 4)).bind fun q => if q = true then (if (l.length + 1) * 24 ≤ 140737488355328 then wire_Frames.l0 k b (l ++ [((b.drop e).take (8 + wrap64 m).toNat).drop 8]) (e + 8 + (wrap64 m).toNat) else none) else some (l, (e : Int))
def wire_Frames.f (k : Nat) (b : List Int) : Option (List (List Int) × Int) := wire_Frames.l0 k b [] 0
theorem wire_Frames.mono_l : ∀ k b l e, LeO (wire_Frames.l0 k b l e) (wire_Frames.l0 (k + 1) b l e)
  | 0, _, _, _ => fun r h => by simp [wire_Frames.l0] at h
  | k + 1, b, l, e => by
    have ih := wire_Frames.mono_l k
    rw [wire_Frames.l0, wire_Frames.l0]
    exact LeO.ite (LeO.none _) (LeO.ite (LeO.refl _) (LeO.bind (wire_number.mono _ _) (fun _ => LeO.ite (LeO.refl _) (LeO.ite (LeO.refl _) (LeO.ite (LeO.none _) (LeO.bind (wire_Sum.mono _ _) (fun _ => LeO.bind (wire_little.mono _ _) (fun _ => LeO.bind (slices_Equal_byte_byte.mono _ _ _) (fun _ => LeO.ite (LeO.ite (ih _ _ _) (LeO.none _)) (LeO.refl _))))))))))
theorem wire_Frames.mono : ∀ a0 k, LeO (wire_Frames.f k a0) (wire_Frames.f (k + 1) a0) := fun a0 k => wire_Frames.mono_l k a0 [] 0
set_option maxRecDepth 100000 in
set_option maxHeartbeats 2000000 in
theorem wire_Frames.calls (k : Nat) (A0 : Option Addr) (c0 : Nat) (l0 : List Int) (r1 : List (List Int)) (r2 : Int) (w : World) (hr0 : Kd.C (Kd.int .u8) w A0 l0.length l0) (hc0 : l0.length ≤ c0) (h : wire_Frames.f k l0 = some (r1, r2)) :
    Calls Try.prog 20 #[.slice A0 l0.length c0] w fun e w' => ∃ v0_ : Value, e = .returned (.tuple #[v0_, .int .i64 r2]) ∧ Kd.S (Kd.slice 5 (Kd.int .u8)) 22 w' w.heap.size (fun _ => True) v0_ r1 ∧ Below w.heap.size w w' := by
  have hm : l0.length ≤ 9223372036854775807 := hr0.2.1
  have HR := Aside0.mk hr0
  have H := Aside0.mk h
  clear hr0 h
  obtain ⟨ii, hii, his⟩ : ∃ ii, Try.prog.info? 5 = some ii ∧ ii.size = 1 := by
    obtain ⟨ii, h1, h2⟩ := Option.map_eq_some_iff.1 info5
    exact ⟨ii, h1, congrArg (fun p => p.2.1) h2⟩
  go_enter Try.func20, Try.ntmps20
  go_wp2
  go_loopg [2, 3] k (fun kq v2 v3 wr => ∃ (l : List (List Int)) (e : Nat), v3 = .int .i64 e ∧ Aside0 (wire_Frames.l0 kq l0 l e = some (r1, r2)) ∧ Aside0 (kq ≤ k) ∧ Aside0 (Kd.S (Kd.slice 5 (Kd.int .u8)) 22 wr w.heap.size (fun _ => True) v2 l) ∧ Aside0 (Below w.heap.size w wr))
  case atStart => exact ⟨[], 0, rfl, H, ⟨Nat.le_refl _⟩, ⟨Kd.S_nil _ _ _ _ _⟩, ⟨Below.refl _ _⟩⟩
  case round =>
    clear H
    obtain ⟨l, e, rfl, HA, HK, HO, HB⟩ := hrel
    cases gk with
    | zero => exact absurd HA.out (by simp [wire_Frames.l0])
    | succ k1 =>
      have H := HA.out
      clear HA
      rw [wire_Frames.l0] at H
      by_cases hlt : l0.length < e
      · rw [if_pos hlt] at H
        cases H
      rw [if_neg hlt] at H
      have he : e ≤ l0.length := by omega
      clear hlt
      obtain ⟨b, hb⟩ : ∃ b, b = l0.drop e := ⟨_, rfl⟩
      rw [← hb] at H
      obtain ⟨A1, c1, hq1, hc1, hC1⟩ := cut_ex_from (P := Try.prog) 22 5 Try.underlying22 hii his A0 c0 l0 (e : Int) (by omega) (by omega) hc0 b (by rw [hb]; rfl)
      have hbl : b.length = l0.length - e := by rw [hb]; simp
      have HC1 := Aside0.mk (hC1 w .u8 HR.out)
      have HBL := Aside0.mk hbl
      clear hC1 hb hbl
      by_cases h8 : b.length < 8
      · rw [if_pos h8] at H
        cases H
        have h8b : decide ((b.length : Int) < 8) = true := decide_eq_true (by omega)
        go_wp2
        go_ret2
        exact ⟨_, rfl, HO.out, HB.out⟩
      · rw [if_neg h8] at H
        have h8' : 8 ≤ b.length := by omega
        clear h8
        have h8b : decide ((b.length : Int) < 8) = false := decide_eq_false (by omega)
        have hbm : b.length ≤ 9223372036854775807 := by have := HBL.out; omega
        obtain ⟨m, hn, H⟩ := Option.bind_eq_some_iff.1 H
        have HN := Aside0.mk hn
        clear hn
        obtain ⟨q, hq⟩ : ∃ q, q = b.take 4 := ⟨_, rfl⟩
        rw [← hq] at H HN
        obtain ⟨hq2, hc2, hC2⟩ := cut_ex_to (P := Try.prog) 22 5 Try.underlying22 hii A1 c1 b 4 (by omega) (by omega) hc1 q hq
        have HC2 := Aside0.mk (hC2 w .u8 HC1.out)
        have HQ := Aside0.mk hq
        have hql : q.length ≤ 4 := by rw [hq]; simp; omega
        clear hC2 hq
        have H' := Aside0.mk H
        clear H
        go_upto_region 5 with (go_at_call 47; (with_reducible refine (wire_number.calls k1 A1 c1 q m _ (Kd.C_below HC2.out HB.out) hc2 HN.out).mono ?_); rintro e1 w1 ⟨rfl, hd1⟩; have HD1 := Aside0.mk hd1.below; clear hd1)
        have HB1 := Aside0.mk (HB.out.trans (HD1.out.mono HB.out.size))
        have HO1 := Aside0.mk (Kd.S_below HO.out HD1.out)
        have H := H'.out
        clear H'
        by_cases h1 : 1048576 < wrap64 m
        · rw [if_pos h1] at H
          cases H
          have h1b : decide (1048576 < wrap64 m) = true := decide_eq_true h1
          clear h1
          go_wp2
          go_ret2
          exact ⟨_, rfl, HO1.out, HB1.out⟩
        rw [if_neg h1] at H
        have h1b : decide (1048576 < wrap64 m) = false := decide_eq_false h1
        by_cases h2 : (b.length : Int) - 8 < wrap64 m
        · rw [if_pos h2] at H
          cases H
          have h2b : decide ((b.length : Int) - 8 < wrap64 m) = true := decide_eq_true h2
          clear h1 h2
          go_wp2
          go_ret2
          exact ⟨_, rfl, HO1.out, HB1.out⟩
        rw [if_neg h2] at H
        by_cases h3 : wrap64 m < 0
        · rw [if_pos h3] at H
          cases H
        rw [if_neg h3] at H
        have h2b : decide ((b.length : Int) - 8 < wrap64 m) = false := decide_eq_false h2
        obtain ⟨n, hn⟩ : ∃ n : Nat, wrap64 m = (n : Int) := Int.eq_ofNat_of_zero_le (by omega)
        rw [hn] at H h1 h2 h3
        have hn1 : n ≤ 1048576 := by omega
        have hn2 : 8 + n ≤ b.length := by omega
        clear h1 h2 h3
        obtain ⟨x, hx⟩ : ∃ x, x = (b.take (8 + (n : Int)).toNat).drop 8 := ⟨_, rfl⟩
        rw [← hx] at H
        obtain ⟨c, hs, H⟩ := Option.bind_eq_some_iff.1 H
        obtain ⟨lc, hlc, H⟩ := Option.bind_eq_some_iff.1 H
        obtain ⟨y, hy⟩ : ∃ y, y = (b.take 8).drop 4 := ⟨_, rfl⟩
        rw [← hy] at H
        obtain ⟨qq, hqq, H⟩ := Option.bind_eq_some_iff.1 H
        have HS := Aside0.mk hs
        have HLC := Aside0.mk hlc
        have HQQ := Aside0.mk hqq
        have H' := Aside0.mk H
        clear H hs hlc hqq
        obtain ⟨A3, c3, hq3, hc3, hC3⟩ := cut_ex (P := Try.prog) 22 5 Try.underlying22 hii his A1 c1 b 8 (8 + (n : Int)) (by omega) (by omega) (by omega) hc1 x hx
        obtain ⟨A4, c4, hq4, hc4, hC4⟩ := cut_ex (P := Try.prog) 22 5 Try.underlying22 hii his A1 c1 b 4 8 (by omega) (by omega) (by omega) hc1 y hy
        have HC3 := Aside0.mk (hC3 w .u8 HC1.out)
        have HC4 := Aside0.mk (hC4 w .u8 HC1.out)
        have hxl : x.length * 1 ≤ 140737488355328 := by rw [hx]; simp; omega
        have HXL := Aside0.mk (show x.length ≤ 1048576 by rw [hx]; simp; omega)
        have HX := Aside0.mk hx
        have HY := Aside0.mk hy
        have HN1 := Aside0.mk hn
        clear hC3 hC4 hx hy
        go_upto_region 8 with (go_at_call 48; (with_reducible refine (slices_Clone_byte_byte.walk A3 x.length c3 x _ rfl (Kd.C_below HC3.out HB1.out) hc3 hxl).mono ?_); rintro e2 w2 ⟨v6, rfl, hR6, hB6⟩; obtain ⟨A6, c6, rfl, hc6, hC6⟩ := Kd.R_reads hR6; have HR6 := Aside0.mk (Kd.R_mono (Kd.R_bound hR6) (fun k hk => hk.2.1)); have HC6 := Aside0.mk hC6; have HB6 := Aside0.mk hB6; clear hR6 hC6 hB6)
        have HL2 := Aside0.mk (C_lit_two (Kd.int .u8) w2 w2.heap.size rfl 5 22 A1 A6 q.length x.length c1 c6 q x rfl rfl (Kd.C_below HC2.out (HB1.out.trans (HB6.out.mono HB1.out.size))) HC6.out hc2 hc6)
        obtain ⟨L, hL⟩ : ∃ L, L = q ++ x := ⟨_, rfl⟩
        rw [show (wire_Sum.f k1 (q ++ x)) = (wire_Sum.f k1 L) by rw [hL]] at HS
        have HFL := Aside0.mk (show ([q, x] : List (List Int)).flatten = L by rw [hL]; simp)
        have hsum : ([q, x] : List (List Int)).flatten.length * 1 ≤ 140737488355328 := by have := HXL.out; simp; omega
        clear hL
        have HB12 := Aside0.mk (HB1.out.trans (HB6.out.mono HB1.out.size))
        have hend : e + 8 + n ≤ 9223372036854775807 := by have := HBL.out; omega
        cases qq
        all_goals go_region_with (first | (go_at_call 44; (with_reducible refine (slices_Concat_byte_byte.walk (some ⟨w2.heap.size, 0, none⟩) 2 2 [q, x] _ rfl (Kd.C_below HL2.out ((Below.refl _ _).drew)) (Nat.le_refl 2) hsum).mono ?_); rintro e3 w3 ⟨v3, rfl, hR3, hB3⟩; rw [HFL.out] at hR3; obtain ⟨A7, c7, rfl, hc7, hC7⟩ := Kd.R_reads hR3; have HC7 := Aside0.mk hC7; have HB7 := Aside0.mk (((Below.refl w2.heap.size w2).alloc (Nat.le_refl _) _).drew.trans (hB3.mono (by simp))); clear hR3 hC7 hB3) | (go_at_call 15; (with_reducible refine (wire_Sum.calls k1 A7 c7 L c _ HC7.out hc7 HS.out).mono ?_); rintro e4 w4 ⟨rfl, hd4⟩; have HB8 := Aside0.mk (HB7.out.trans (hd4.below.mono HB7.out.size)); clear hd4) | (go_at_call 45; (with_reducible refine (wire_little.calls k1 c lc _ HLC.out).mono ?_); rintro e5 w5 ⟨v5, rfl, hR5, hB5⟩; obtain ⟨A9, c9, rfl, hc9, hC9⟩ := Kd.R_reads hR5; have HC9 := Aside0.mk hC9; have HB9 := Aside0.mk (HB8.out.trans (hB5.mono HB8.out.size)); clear hR5 hC9 hB5) | (go_at_call 49; (with_reducible refine (slices_Equal_byte_byte.calls k1 A9 c9 lc A4 c4 y _ _ HC9.out hc9 (Kd.C_below HC4.out (HB12.out.trans (HB9.out.mono HB12.out.size))) hc4 HQQ.out).mono ?_); rintro e6 w6 ⟨rfl, hd6⟩; have HB10 := Aside0.mk (HB9.out.trans (hd6.below.mono HB9.out.size)); clear hd6))
        all_goals have HB26 := Aside0.mk (HB12.out.trans (HB10.out.mono HB12.out.size))
        all_goals have HO6 := Aside0.mk (Kd.S_below HO1.out (HB6.out.trans (HB10.out.mono HB6.out.size)))
        · have H := H'.out
          rw [if_neg (by decide)] at H
          cases H
          go_wp2
          go_ret2
          exact ⟨_, rfl, HO6.out, HB26.out⟩
        · have H := H'.out
          first | rw [if_pos trivial] at H | rw [if_pos rfl] at H
          by_cases hll : (l.length + 1) * 24 ≤ 140737488355328
          · rw [if_pos hll] at H
            have H1 := Aside0.mk H
            have HLL := Aside0.mk hll
            clear hll H H'
            have HM := Aside0.mk (show (Kd.slice 5 (Kd.int .u8)).M w6 w.heap.size (fun k => w1.heap.size ≤ k) x [.slice A6 x.length c6] from ⟨_, rfl, Kd.R_below (Kd.R_lower HR6.out HB1.out.size) HB10.out⟩)
            have HO6s := Aside0.mk (Kd.S_below (Kd.S_mono (ok' := fun k => True ∧ ¬ w1.heap.size ≤ k) (Kd.S_bound HO1.out) (fun k hk => ⟨trivial, by have := hk.2.2.1; omega⟩)) (HB6.out.trans (HB10.out.mono HB6.out.size)))
            have HNE := Aside0.mk (show ∀ k, w1.heap.size ≤ k → True ∧ some k ≠ u2.ownBlock from fun k hk => ⟨trivial, fun he => by have := Kd.S_lt HO1.out _ he.symm; omega⟩)
            go_wp2_with ((with_reducible refine gate_builtin (b := .append) (xs := #[.tmp 48, .tmp 50]) rfl ?_); at_builtin; refine Kd.S_append (Kd.slice 5 (Kd.int .u8)) (w0 := w) w.heap.size rfl (.tmp 48) (.tmp 50) 35 22 (.slice none 0 0) 24 rfl Try.underlying35 info22 rfl (by decide) (by omega) u2 l x [.slice A6 x.length c6] (fun _ => True) (fun k => w1.heap.size ≤ k) rfl rfl HM.out HNE.out (fun _ _ => trivial) HO6s.out HB26.out HB26.out.size HLL.out ?_; intro v7 w7 hR7 hB7 _ _; have HR7 := Aside0.mk hR7; have HB7' := Aside0.mk hB7; clear hR7 hB7)
            go_roundg k1
            case measure => have := HK.out; omega
            case rel => exact ⟨l ++ [x], e + 8 + n, by go_num, ⟨H1.out⟩, ⟨by have := HK.out; omega⟩, HR7, HB7'⟩
          · rw [if_neg hll] at H
            cases H



end Go.Proofs.Ytjkimfjhfncldaa.Q
