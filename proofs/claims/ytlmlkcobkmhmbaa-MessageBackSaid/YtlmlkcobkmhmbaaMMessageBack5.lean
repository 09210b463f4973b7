/- texts of one claim, merged: each in a section of its own -/
import Derived.Test.YtlmlkcobkmhmbaaMMessageBack3
import Derived.Test.YtlmlkcobkmhmbaaMMessageBack4
section
-- written by hprint.py (a program of these sessions) out of the translation; Lean checks it
namespace Go.Proofs.Ytlmlkcobkmhmbaa.Q
open Go.RowKit Go.Proofs.YtlmlkcobkmhmbaaW.Hb Go.Proofs.YtlmlkcobkmhmbaaW.PrintWords Go.Proofs.YtlmlkcobkmhmbaaW.PrintLast Go.Proofs.YtlmlkcobkmhmbaaW.PrintMore
attribute [local go_sem] max2_int min2_int max_two min_two max_three min_three max_four min_four   -- for this text's walks alone
set_option linter.unusedVariables false
set_option linter.unusedSimpArgs false

/-! ### message_Get: function 26, by hand -/
def getM {α : Type} (mk : Int → ByteArray → α) (right : Int → Int → Int → Int → Int → Int → Int → List α → Bool) (l : List Int) : Int × Int × Int × Int × Int × Int × Int × List α × Int :=
  let k := rByte l 0; let fr := rByte k.2.1 k.2.2; let t := rByte fr.2.1 fr.2.2; let v := rInt t.2.1 t.2.2; let o := rInt v.2.1 v.2.2; let c := rInt o.2.1 o.2.2; let n := rInt c.2.1 c.2.2; let g := rdLog mk n.2.1 n.2.2
  if rDone g.2.1 g.2.2 = 0 ∧ right k.1 fr.1 t.1 v.1 o.1 c.1 n.1 g.1 = true ∧ l.length ≤ 1048576 then (k.1, fr.1, t.1, v.1, o.1, c.1, n.1, g.1, 0) else (0, 0, 0, 0, 0, 0, 0, [], 21)
theorem getM_is {α : Type} (mk : Int → ByteArray → α) (right : Int → Int → Int → Int → Int → Int → Int → List α → Bool) {l x1 x2 x3 x4 x5 x6 x7 x8 : List Int} {v1 v2 v3 v4 v5 v6 v7 e1 e2 e3 e4 e5 e6 e7 e8 : Int} {ls : List α} (h1 : rByte l 0 = (v1, x1, e1)) (h2 : rByte x1 e1 = (v2, x2, e2)) (h3 : rByte x2 e2 = (v3, x3, e3)) (h4 : rInt x3 e3 = (v4, x4, e4)) (h5 : rInt x4 e4 = (v5, x5, e5)) (h6 : rInt x5 e5 = (v6, x6, e6)) (h7 : rInt x6 e6 = (v7, x7, e7)) (h8 : rdLog mk x7 e7 = (ls, x8, e8)) :
    getM mk right l = if rDone x8 e8 = 0 ∧ right v1 v2 v3 v4 v5 v6 v7 ls = true ∧ l.length ≤ 1048576 then (v1, v2, v3, v4, v5, v6, v7, ls, 0) else (0, 0, 0, 0, 0, 0, 0, [], 21) := by
  simp only [getM, h1, h2, h3, h4, h5, h6, h7, h8]
def getR {α : Type} (mk : Int → ByteArray → α) (right : Int → Int → Int → Int → List α → Bool) (l : List Int) : Int × Int × Int × Int × List α × Int :=
  let k := rByte l 0; let v := rInt k.2.1 k.2.2; let o := rInt v.2.1 v.2.2; let c := rInt o.2.1 o.2.2; let g := rdLog mk c.2.1 c.2.2
  if rDone g.2.1 g.2.2 = 0 ∧ right k.1 v.1 o.1 c.1 g.1 = true ∧ l.length ≤ 1048576 then (k.1, v.1, o.1, c.1, g.1, 0) else (0, 0, 0, 0, [], 21)
theorem getR_is {α : Type} (mk : Int → ByteArray → α) (right : Int → Int → Int → Int → List α → Bool) {l x1 x2 x3 x4 x8 : List Int} {v1 v2 v3 v4 e1 e2 e3 e4 e8 : Int} {ls : List α} (h1 : rByte l 0 = (v1, x1, e1)) (h2 : rInt x1 e1 = (v2, x2, e2)) (h3 : rInt x2 e2 = (v3, x3, e3)) (h4 : rInt x3 e3 = (v4, x4, e4)) (h8 : rdLog mk x4 e4 = (ls, x8, e8)) :
    getR mk right l = if rDone x8 e8 = 0 ∧ right v1 v2 v3 v4 ls = true ∧ l.length ≤ 1048576 then (v1, v2, v3, v4, ls, 0) else (0, 0, 0, 0, [], 21) := by
  simp only [getR, h1, h2, h3, h4, h8]
theorem message_Get.ret_ {R : Ending → World → Prop} {a : Act} {W : World} {g : Nat} {c0 c1 c2 c3 c4 c5 c6 c7 : Value} {e : Int} (hB : Blk W g 40 #[c0, c1, c2, c3, c4, c5, c6, c7]) (h2 : a.tmps[2]? = some (.pointer (some ⟨g, 0, none⟩))) (h3 : a.tmps[3]? = some (.int .i64 e)) (hd : a.defers = []) (hR : R (.returned (.tuple #[.agg #[c0, c1, c2, c3, c4, c5, c6, c7], .int .i64 e])) W) :
    bodyPost Try.prog Try.f26 R Exit.ret a W := by
  have q0 : W.cell? ⟨g, 0, none⟩ = some c0 := hB.cell 0
  have q1 : W.cell? ⟨g, 1, none⟩ = some c1 := hB.cell 1
  have q2 : W.cell? ⟨g, 2, none⟩ = some c2 := hB.cell 2
  have q3 : W.cell? ⟨g, 3, none⟩ = some c3 := hB.cell 3
  have q4 : W.cell? ⟨g, 4, none⟩ = some c4 := hB.cell 4
  have q5 : W.cell? ⟨g, 5, none⟩ = some c5 := hB.cell 5
  have q6 : W.cell? ⟨g, 6, none⟩ = some c6 := hB.cell 6
  have q7 : W.cell? ⟨g, 7, none⟩ = some c7 := hB.cell 7
  exact bodyPost_ret (v := .tuple #[.agg #[c0, c1, c2, c3, c4, c5, c6, c7], .int .i64 e]) (by simp [results, Try.results26, go_sem, q0, q1, q2, q3, q4, q5, q6, q7, h2, h3]) hd hR
def message_Get.f (l0 : List Int) : Option (Int × Int × Int × Int × Int × Int × Int × List S74 × Int) := if (l0.all isBb && decide (l0.length ≤ 140737488351232)) = true then some (getM mkE rightM l0) else none
set_option maxRecDepth 100000 in
set_option maxHeartbeats 4000000 in
theorem message_Get.calls (A0 : Option Addr) (c0 : Nat) (l0 : List Int) (r1 : Int) (r2 : Int) (r3 : Int) (r4 : Int) (r5 : Int) (r6 : Int) (r7 : Int) (r8 : List S74) (r9 : Int) (w : World) (hr0 : Kd.C (Kd.int .u8) w A0 l0.length l0) (hc0 : l0.length ≤ c0) (h : message_Get.f l0 = some (r1, r2, r3, r4, r5, r6, r7, r8, r9)) :
    Calls Try.prog 26 #[.slice A0 l0.length c0] w fun en w' => ∃ v7_ : Value, en = .returned (.tuple #[.agg #[.int .i64 r1, .int .i64 r2, .int .i64 r3, .int .i64 r4, .int .i64 r5, .int .i64 r6, .int .i64 r7, v7_], .int .i64 r9]) ∧ Kd.R k74 74 w' w.heap.size (fun _ => True) v7_ r8 ∧ Below w.heap.size w w' := by
  unfold message_Get.f at h
  split at h
  rotate_left
  · cases h
  rename_i hall
  have h := Option.some.inj h
  simp only [Bool.and_eq_true, decide_eq_true_eq] at hall
  have HBB := Aside0.mk (isBb_all hall.1)
  have hll := hall.2
  clear hall
  obtain ⟨v1, x1, e1, h1⟩ : ∃ v x e, rByte l0 0 = (v, x, e) := ⟨_, _, _, rfl⟩
  obtain ⟨v2, x2, e2, h2⟩ : ∃ v x e, rByte x1 e1 = (v, x, e) := ⟨_, _, _, rfl⟩
  obtain ⟨v3, x3, e3, h3⟩ : ∃ v x e, rByte x2 e2 = (v, x, e) := ⟨_, _, _, rfl⟩
  obtain ⟨v4, x4, e4, h4⟩ : ∃ v x e, rInt x3 e3 = (v, x, e) := ⟨_, _, _, rfl⟩
  obtain ⟨v5, x5, e5, h5⟩ : ∃ v x e, rInt x4 e4 = (v, x, e) := ⟨_, _, _, rfl⟩
  obtain ⟨v6, x6, e6, h6⟩ : ∃ v x e, rInt x5 e5 = (v, x, e) := ⟨_, _, _, rfl⟩
  obtain ⟨v7, x7, e7, h7⟩ : ∃ v x e, rInt x6 e6 = (v, x, e) := ⟨_, _, _, rfl⟩
  obtain ⟨ls, x8, e8, h8⟩ : ∃ v x e, rdLog mkE x7 e7 = (v, x, e) := ⟨_, _, _, rfl⟩
  have HX := Aside0.mk ((getM_is mkE rightM h1 h2 h3 h4 h5 h6 h7 h8).symm.trans h)
  have H1 := Aside0.mk h1
  have H2 := Aside0.mk h2
  have H3 := Aside0.mk h3
  have H4 := Aside0.mk h4
  have H5 := Aside0.mk h5
  have H6 := Aside0.mk h6
  have H7 := Aside0.mk h7
  have H8 := Aside0.mk h8
  have HC0 := Aside0.mk (Kd.C_alloc hr0 (.cells #[.int .i64 0, .int .i64 0, .int .i64 0, .int .i64 0, .int .i64 0, .int .i64 0, .int .i64 0, .slice none 0 0] 40))
  have hm0 : l0.length ≤ 9223372036854775807 := hr0.2.1
  clear h hr0 h1 h2 h3 h4 h5 h6 h7 h8
  go_enter Try.func26, Try.ntmps26
  go_wp2_with (fail)
  with_reducible refine (wire_NewReader.calls A0 c0 l0 _ HC0.out hc0 (by omega) HBB.out).mono ?_
  rintro en w2 ⟨g, rfl, hd2, hg2, hB2⟩
  have hsz1 : (w.alloc (.cells #[.int .i64 0, .int .i64 0, .int .i64 0, .int .i64 0, .int .i64 0, .int .i64 0, .int .i64 0, .slice none 0 0] 40)).heap.size = w.heap.size + 1 := by simp
  have HO2 := Aside0.mk (show Or (w.alloc (.cells #[.int .i64 0, .int .i64 0, .int .i64 0, .int .i64 0, .int .i64 0, .int .i64 0, .int .i64 0, .slice none 0 0] 40)) w2 w2.heap.size g l0 0 from ⟨_, hd2, fun k hk => hk, Nat.le_refl _, hB2⟩)
  have HZ2 := Aside0.mk ((Blk.new w 40 #[.int .i64 0, .int .i64 0, .int .i64 0, .int .i64 0, .int .i64 0, .int .i64 0, .int .i64 0, .slice none 0 0]).after hB2)
  have HBw := Aside0.mk (((Below.refl w.heap.size w).alloc (Nat.le_refl _) (.cells #[.int .i64 0, .int .i64 0, .int .i64 0, .int .i64 0, .int .i64 0, .int .i64 0, .int .i64 0, .slice none 0 0] 40)))
  rw [hsz1] at hg2
  clear hd2 hB2
  go_wp2_with (fail)
  with_reducible refine (byteQ HO2.out H1.out).mono ?_
  rintro en w3 ⟨rfl, hO3, hF3⟩
  have HO3 := Aside0.mk hO3
  have hg3 : g < w2.heap.size := hO3.g_in.2
  have HZ3 := Aside0.mk (show Blk w3 w.heap.size 40 #[.int .i64 0, .int .i64 0, .int .i64 0, .int .i64 0, .int .i64 0, .int .i64 0, .int .i64 0, .slice none 0 0] from blk_kept HZ2.out hF3.2 (fun h => by omega))
  clear hO3 hF3
  go_wp2_with (fail)
  with_reducible refine (byteQ HO3.out H2.out).mono ?_
  rintro en w4 ⟨rfl, hO4, hF4⟩
  have HO4 := Aside0.mk hO4
  skip
  have HZ4 := Aside0.mk (show Blk w4 w.heap.size 40 #[.int .i64 0, .int .i64 0, .int .i64 0, .int .i64 0, .int .i64 0, .int .i64 0, .int .i64 0, .slice none 0 0] from blk_kept HZ3.out hF4.2 (fun h => by omega))
  clear hO4 hF4
  go_wp2_with (fail)
  with_reducible refine (byteQ HO4.out H3.out).mono ?_
  rintro en w5 ⟨rfl, hO5, hF5⟩
  have HO5 := Aside0.mk hO5
  skip
  have HZ5 := Aside0.mk (show Blk w5 w.heap.size 40 #[.int .i64 0, .int .i64 0, .int .i64 0, .int .i64 0, .int .i64 0, .int .i64 0, .int .i64 0, .slice none 0 0] from blk_kept HZ4.out hF5.2 (fun h => by omega))
  clear hO5 hF5
  go_wp2_with (fail)
  with_reducible refine (intQ HO5.out H4.out).mono ?_
  rintro en w6 ⟨rfl, hO6, hF6⟩
  have HO6 := Aside0.mk hO6
  skip
  have HZ6 := Aside0.mk (show Blk w6 w.heap.size 40 #[.int .i64 0, .int .i64 0, .int .i64 0, .int .i64 0, .int .i64 0, .int .i64 0, .int .i64 0, .slice none 0 0] from blk_kept HZ5.out hF6.2 (fun h => by omega))
  clear hO6 hF6
  go_wp2_with (fail)
  with_reducible refine (intQ HO6.out H5.out).mono ?_
  rintro en w7 ⟨rfl, hO7, hF7⟩
  have HO7 := Aside0.mk hO7
  skip
  have HZ7 := Aside0.mk (show Blk w7 w.heap.size 40 #[.int .i64 0, .int .i64 0, .int .i64 0, .int .i64 0, .int .i64 0, .int .i64 0, .int .i64 0, .slice none 0 0] from blk_kept HZ6.out hF7.2 (fun h => by omega))
  clear hO7 hF7
  go_wp2_with (fail)
  with_reducible refine (intQ HO7.out H6.out).mono ?_
  rintro en w8 ⟨rfl, hO8, hF8⟩
  have HO8 := Aside0.mk hO8
  skip
  have HZ8 := Aside0.mk (show Blk w8 w.heap.size 40 #[.int .i64 0, .int .i64 0, .int .i64 0, .int .i64 0, .int .i64 0, .int .i64 0, .int .i64 0, .slice none 0 0] from blk_kept HZ7.out hF8.2 (fun h => by omega))
  clear hO8 hF8
  go_wp2_with (fail)
  with_reducible refine (intQ HO8.out H7.out).mono ?_
  rintro en w9 ⟨rfl, hO9, hF9⟩
  have HO9 := Aside0.mk hO9
  skip
  have HZ9 := Aside0.mk (show Blk w9 w.heap.size 40 #[.int .i64 0, .int .i64 0, .int .i64 0, .int .i64 0, .int .i64 0, .int .i64 0, .int .i64 0, .slice none 0 0] from blk_kept HZ8.out hF9.2 (fun h => by omega))
  clear hO9 hF9
  have hle9 : w2.heap.size ≤ w9.heap.size := HO9.out.le
  have hmz : w.heap.size < w9.heap.size := by omega
  have HM := Aside0.mk (Blk.new w9 40 #[.int .i64 v1, .int .i64 v2, .int .i64 v3, .int .i64 v4, .int .i64 v5, .int .i64 v6, .int .i64 v7, .slice none 0 0])
  have HO9a := Aside0.mk (HO9.out.below ((Below.refl _ _).alloc hle9 (.cells #[.int .i64 v1, .int .i64 v2, .int .i64 v3, .int .i64 v4, .int .i64 v5, .int .i64 v6, .int .i64 v7, .slice none 0 0] 40)))
  have HZ9a := Aside0.mk (HZ9.out.alloc (.cells #[.int .i64 v1, .int .i64 v2, .int .i64 v3, .int .i64 v4, .int .i64 v5, .int .i64 v6, .int .i64 v7, .slice none 0 0] 40))
  have hszm : (w9.alloc (.cells #[.int .i64 v1, .int .i64 v2, .int .i64 v3, .int .i64 v4, .int .i64 v5, .int .i64 v6, .int .i64 v7, .slice none 0 0] 40)).heap.size = w9.heap.size + 1 := by simp
  go_wp2_with (fail)
  with_reducible refine (message_log.calls _ _ _ g _ _ ls x8 e8 HO9a.out H8.out).mono ?_
  rintro en wl ⟨vl, rfl, hRl, hOl, hKl⟩
  obtain ⟨A8, c8, rfl, hc8, _⟩ := Kd.R_reads hRl
  have hRl := Kd.R_mono (ok' := fun k => w9.heap.size < k) hRl (fun k hk => by omega)
  have hMl : Blk wl w9.heap.size 40 #[.int .i64 v1, .int .i64 v2, .int .i64 v3, .int .i64 v4, .int .i64 v5, .int .i64 v6, .int .i64 v7, .slice none 0 0] := blk_kept HM.out hKl (fun h => by omega)
  have HZl := Aside0.mk ((show Blk wl w.heap.size 40 #[.int .i64 0, .int .i64 0, .int .i64 0, .int .i64 0, .int .i64 0, .int .i64 0, .int .i64 0, .slice none 0 0] from blk_kept HZ9a.out hKl (fun h => by omega)).far (p := ⟨w9.heap.size, 7, none⟩) (show w.heap.size ≠ w9.heap.size by omega) (.slice A8 ls.length c8))
  have ql : wl.cell? ⟨w9.heap.size, 7, none⟩ = some (.slice none 0 0) := hMl.cell 7
  have fl : wl.frozen? ⟨w9.heap.size, 7, none⟩ = false := hMl.frozen 7
  have HM9 := Aside0.mk (show Blk (wl.setCell ⟨w9.heap.size, 7, none⟩ (.slice A8 ls.length c8)) w9.heap.size 40 #[.int .i64 v1, .int .i64 v2, .int .i64 v3, .int .i64 v4, .int .i64 v5, .int .i64 v6, .int .i64 v7, .slice A8 ls.length c8] from by simpa using hMl.set_ 7 (.slice A8 ls.length c8))
  have HO9 := Aside0.mk (hOl.kept (S2 := fun k => k = w9.heap.size) (Kept.setCell (S := fun k => k = w9.heap.size) (p := ⟨w9.heap.size, 7, none⟩) (Kept.refl wl _) (.inl rfl) (.slice A8 ls.length c8)) (fun k hk => by omega) ((Below.refl _ _).setCell (show (w.alloc (.cells #[.int .i64 0, .int .i64 0, .int .i64 0, .int .i64 0, .int .i64 0, .int .i64 0, .int .i64 0, .slice none 0 0] 40)).heap.size ≤ w9.heap.size by omega) _))
  have HR9 := Aside0.mk (Kd.R_far hRl (p := ⟨w9.heap.size, 7, none⟩) (fun k hk => show k ≠ w9.heap.size by omega) (.slice A8 ls.length c8))
  have m0 : (wl.setCell ⟨w9.heap.size, 7, none⟩ (.slice A8 ls.length c8)).cell? ⟨w9.heap.size, 0, none⟩ = some (.int .i64 v1) := HM9.out.cell 0
  have m1 : (wl.setCell ⟨w9.heap.size, 7, none⟩ (.slice A8 ls.length c8)).cell? ⟨w9.heap.size, 1, none⟩ = some (.int .i64 v2) := HM9.out.cell 1
  have m2 : (wl.setCell ⟨w9.heap.size, 7, none⟩ (.slice A8 ls.length c8)).cell? ⟨w9.heap.size, 2, none⟩ = some (.int .i64 v3) := HM9.out.cell 2
  have m3 : (wl.setCell ⟨w9.heap.size, 7, none⟩ (.slice A8 ls.length c8)).cell? ⟨w9.heap.size, 3, none⟩ = some (.int .i64 v4) := HM9.out.cell 3
  have m4 : (wl.setCell ⟨w9.heap.size, 7, none⟩ (.slice A8 ls.length c8)).cell? ⟨w9.heap.size, 4, none⟩ = some (.int .i64 v5) := HM9.out.cell 4
  have m5 : (wl.setCell ⟨w9.heap.size, 7, none⟩ (.slice A8 ls.length c8)).cell? ⟨w9.heap.size, 5, none⟩ = some (.int .i64 v6) := HM9.out.cell 5
  have m6 : (wl.setCell ⟨w9.heap.size, 7, none⟩ (.slice A8 ls.length c8)).cell? ⟨w9.heap.size, 6, none⟩ = some (.int .i64 v7) := HM9.out.cell 6
  have m7 : (wl.setCell ⟨w9.heap.size, 7, none⟩ (.slice A8 ls.length c8)).cell? ⟨w9.heap.size, 7, none⟩ = some (.slice A8 ls.length c8) := HM9.out.cell 7
  clear hRl hOl hKl hMl
  by_cases hdn : rDone x8 e8 = 0
  rotate_left
  · have hX := HX.out
    rw [if_neg (fun h => hdn h.1)] at hX
    obtain ⟨rfl, rfl, rfl, rfl, rfl, rfl, rfl, rfl, rfl⟩ : 0 = r1 ∧ 0 = r2 ∧ 0 = r3 ∧ 0 = r4 ∧ 0 = r5 ∧ 0 = r6 ∧ 0 = r7 ∧ [] = r8 ∧ 21 = r9 := by simpa using hX
    have hdb : (rDone x8 e8 != 0) = true := by simp [hdn]
    have hdc : (rDone x8 e8 == 0) = false := by simp [hdn]
    clear hX HX hdn
    go_wp2_with (fail)
    with_reducible refine (doneQ HO9.out).mono ?_
    rintro en wd ⟨rfl, hwd⟩
    subst hwd
    have z0 : (wl.setCell ⟨w9.heap.size, 7, none⟩ (.slice A8 ls.length c8)).cell? ⟨w.heap.size, 0, none⟩ = some (.int .i64 0) := HZl.out.cell 0
    have z1 : (wl.setCell ⟨w9.heap.size, 7, none⟩ (.slice A8 ls.length c8)).cell? ⟨w.heap.size, 1, none⟩ = some (.int .i64 0) := HZl.out.cell 1
    have z2 : (wl.setCell ⟨w9.heap.size, 7, none⟩ (.slice A8 ls.length c8)).cell? ⟨w.heap.size, 2, none⟩ = some (.int .i64 0) := HZl.out.cell 2
    have z3 : (wl.setCell ⟨w9.heap.size, 7, none⟩ (.slice A8 ls.length c8)).cell? ⟨w.heap.size, 3, none⟩ = some (.int .i64 0) := HZl.out.cell 3
    have z4 : (wl.setCell ⟨w9.heap.size, 7, none⟩ (.slice A8 ls.length c8)).cell? ⟨w.heap.size, 4, none⟩ = some (.int .i64 0) := HZl.out.cell 4
    have z5 : (wl.setCell ⟨w9.heap.size, 7, none⟩ (.slice A8 ls.length c8)).cell? ⟨w.heap.size, 5, none⟩ = some (.int .i64 0) := HZl.out.cell 5
    have z6 : (wl.setCell ⟨w9.heap.size, 7, none⟩ (.slice A8 ls.length c8)).cell? ⟨w.heap.size, 6, none⟩ = some (.int .i64 0) := HZl.out.cell 6
    have z7 : (wl.setCell ⟨w9.heap.size, 7, none⟩ (.slice A8 ls.length c8)).cell? ⟨w.heap.size, 7, none⟩ = some (.slice none 0 0) := HZl.out.cell 7
    have g0 : (wl.setCell ⟨w9.heap.size, 7, none⟩ (.slice A8 ls.length c8)).frozen? ⟨w.heap.size, 0, none⟩ = false := HZl.out.frozen 0
    have g1 : (wl.setCell ⟨w9.heap.size, 7, none⟩ (.slice A8 ls.length c8)).frozen? ⟨w.heap.size, 1, none⟩ = false := HZl.out.frozen 1
    have g2 : (wl.setCell ⟨w9.heap.size, 7, none⟩ (.slice A8 ls.length c8)).frozen? ⟨w.heap.size, 2, none⟩ = false := HZl.out.frozen 2
    have g3 : (wl.setCell ⟨w9.heap.size, 7, none⟩ (.slice A8 ls.length c8)).frozen? ⟨w.heap.size, 3, none⟩ = false := HZl.out.frozen 3
    have g4 : (wl.setCell ⟨w9.heap.size, 7, none⟩ (.slice A8 ls.length c8)).frozen? ⟨w.heap.size, 4, none⟩ = false := HZl.out.frozen 4
    have g5 : (wl.setCell ⟨w9.heap.size, 7, none⟩ (.slice A8 ls.length c8)).frozen? ⟨w.heap.size, 5, none⟩ = false := HZl.out.frozen 5
    have g6 : (wl.setCell ⟨w9.heap.size, 7, none⟩ (.slice A8 ls.length c8)).frozen? ⟨w.heap.size, 6, none⟩ = false := HZl.out.frozen 6
    have g7 : (wl.setCell ⟨w9.heap.size, 7, none⟩ (.slice A8 ls.length c8)).frozen? ⟨w.heap.size, 7, none⟩ = false := HZl.out.frozen 7
    clear m0 m1 m2 m3 m4 m5 m6 m7
    go_wp2
    with_reducible refine message_Get.ret_ (g := w.heap.size) (e := 21) ((((((((HZl.out.set_ 0 _).set_ 1 _).set_ 2 _).set_ 3 _).set_ 4 _).set_ 5 _).set_ 6 _).set_ 7 _) ?_ ?_ ?_ ?_
    · rfl
    · rfl
    · rfl
    · exact ⟨_, rfl, Kd.R_nil _ _ _ _ _, (((((((((HBw.out.trans (HO9.out.bel.mono HBw.out.size)).setCell (Nat.le_refl _) _).setCell (Nat.le_refl _) _).setCell (Nat.le_refl _) _).setCell (Nat.le_refl _) _).setCell (Nat.le_refl _) _).setCell (Nat.le_refl _) _).setCell (Nat.le_refl _) _).setCell (Nat.le_refl _) _)⟩
  have hdb : (rDone x8 e8 != 0) = false := by simp [hdn]
  have hdc : (rDone x8 e8 == 0) = true := by simp [hdn]
  cases hrt : rightM v1 v2 v3 v4 v5 v6 v7 ls with
  | false =>
    have HF := Aside0.mk (show message_Right.f v1 v2 v3 v4 v5 v6 v7 ls = some false by simp only [message_Right.f, hrt])
    have hX := HX.out
    rw [if_neg (fun h => by have := h.2.1; rw [hrt] at this; cases this)] at hX
    obtain ⟨rfl, rfl, rfl, rfl, rfl, rfl, rfl, rfl, rfl⟩ : 0 = r1 ∧ 0 = r2 ∧ 0 = r3 ∧ 0 = r4 ∧ 0 = r5 ∧ 0 = r6 ∧ 0 = r7 ∧ [] = r8 ∧ 21 = r9 := by simpa using hX
    clear hX HX hdn hrt
    go_wp2_with (fail)
    with_reducible refine (doneQ HO9.out).mono ?_
    rintro en wd ⟨rfl, hwd⟩
    subst hwd
    go_wp2_with (fail)
    with_reducible refine (message_Right.calls v1 v2 v3 v4 v5 v6 v7 A8 c8 ls false _ (Kd.R_reads' HR9.out).2.2 hc8 HF.out).mono ?_
    rintro en wr ⟨rfl, hbr⟩
    have HBr := Aside0.mk ((HBw.out.trans (HO9.out.bel.mono HBw.out.size)).trans (hbr.mono (HBw.out.trans (HO9.out.bel.mono HBw.out.size)).size))
    have HZr := Aside0.mk (HZl.out.after hbr)
    clear hbr m0 m1 m2 m3 m4 m5 m6 m7
    have z0 : wr.cell? ⟨w.heap.size, 0, none⟩ = some (.int .i64 0) := HZr.out.cell 0
    have z1 : wr.cell? ⟨w.heap.size, 1, none⟩ = some (.int .i64 0) := HZr.out.cell 1
    have z2 : wr.cell? ⟨w.heap.size, 2, none⟩ = some (.int .i64 0) := HZr.out.cell 2
    have z3 : wr.cell? ⟨w.heap.size, 3, none⟩ = some (.int .i64 0) := HZr.out.cell 3
    have z4 : wr.cell? ⟨w.heap.size, 4, none⟩ = some (.int .i64 0) := HZr.out.cell 4
    have z5 : wr.cell? ⟨w.heap.size, 5, none⟩ = some (.int .i64 0) := HZr.out.cell 5
    have z6 : wr.cell? ⟨w.heap.size, 6, none⟩ = some (.int .i64 0) := HZr.out.cell 6
    have z7 : wr.cell? ⟨w.heap.size, 7, none⟩ = some (.slice none 0 0) := HZr.out.cell 7
    have g0 : wr.frozen? ⟨w.heap.size, 0, none⟩ = false := HZr.out.frozen 0
    have g1 : wr.frozen? ⟨w.heap.size, 1, none⟩ = false := HZr.out.frozen 1
    have g2 : wr.frozen? ⟨w.heap.size, 2, none⟩ = false := HZr.out.frozen 2
    have g3 : wr.frozen? ⟨w.heap.size, 3, none⟩ = false := HZr.out.frozen 3
    have g4 : wr.frozen? ⟨w.heap.size, 4, none⟩ = false := HZr.out.frozen 4
    have g5 : wr.frozen? ⟨w.heap.size, 5, none⟩ = false := HZr.out.frozen 5
    have g6 : wr.frozen? ⟨w.heap.size, 6, none⟩ = false := HZr.out.frozen 6
    have g7 : wr.frozen? ⟨w.heap.size, 7, none⟩ = false := HZr.out.frozen 7
    go_wp2
    with_reducible refine message_Get.ret_ (g := w.heap.size) (e := 21) ((((((((HZr.out.set_ 0 _).set_ 1 _).set_ 2 _).set_ 3 _).set_ 4 _).set_ 5 _).set_ 6 _).set_ 7 _) ?_ ?_ ?_ ?_
    · rfl
    · rfl
    · rfl
    · exact ⟨_, rfl, Kd.R_nil _ _ _ _ _, ((((((((HBr.out.setCell (Nat.le_refl _) _).setCell (Nat.le_refl _) _).setCell (Nat.le_refl _) _).setCell (Nat.le_refl _) _).setCell (Nat.le_refl _) _).setCell (Nat.le_refl _) _).setCell (Nat.le_refl _) _).setCell (Nat.le_refl _) _)⟩
  | true =>
    have HF := Aside0.mk (show message_Right.f v1 v2 v3 v4 v5 v6 v7 ls = some true by simp only [message_Right.f, hrt])
    by_cases hlen : l0.length ≤ 1048576
    rotate_left
    · have hX := HX.out
      rw [if_neg (fun h => hlen h.2.2)] at hX
      obtain ⟨rfl, rfl, rfl, rfl, rfl, rfl, rfl, rfl, rfl⟩ : 0 = r1 ∧ 0 = r2 ∧ 0 = r3 ∧ 0 = r4 ∧ 0 = r5 ∧ 0 = r6 ∧ 0 = r7 ∧ [] = r8 ∧ 21 = r9 := by simpa using hX
      have hl2 : (1048576 : Int) < (l0.length : Int) := by omega
      clear hX HX hdn hrt hlen
      go_wp2_with (fail)
      with_reducible refine (doneQ HO9.out).mono ?_
      rintro en wd ⟨rfl, hwd⟩
      subst hwd
      go_wp2_with (fail)
      with_reducible refine (message_Right.calls v1 v2 v3 v4 v5 v6 v7 A8 c8 ls true _ (Kd.R_reads' HR9.out).2.2 hc8 HF.out).mono ?_
      rintro en wr ⟨rfl, hbr⟩
      have HBr := Aside0.mk ((HBw.out.trans (HO9.out.bel.mono HBw.out.size)).trans (hbr.mono (HBw.out.trans (HO9.out.bel.mono HBw.out.size)).size))
      have HZr := Aside0.mk (HZl.out.after hbr)
      clear hbr m0 m1 m2 m3 m4 m5 m6 m7
      have z0 : wr.cell? ⟨w.heap.size, 0, none⟩ = some (.int .i64 0) := HZr.out.cell 0
      have z1 : wr.cell? ⟨w.heap.size, 1, none⟩ = some (.int .i64 0) := HZr.out.cell 1
      have z2 : wr.cell? ⟨w.heap.size, 2, none⟩ = some (.int .i64 0) := HZr.out.cell 2
      have z3 : wr.cell? ⟨w.heap.size, 3, none⟩ = some (.int .i64 0) := HZr.out.cell 3
      have z4 : wr.cell? ⟨w.heap.size, 4, none⟩ = some (.int .i64 0) := HZr.out.cell 4
      have z5 : wr.cell? ⟨w.heap.size, 5, none⟩ = some (.int .i64 0) := HZr.out.cell 5
      have z6 : wr.cell? ⟨w.heap.size, 6, none⟩ = some (.int .i64 0) := HZr.out.cell 6
      have z7 : wr.cell? ⟨w.heap.size, 7, none⟩ = some (.slice none 0 0) := HZr.out.cell 7
      have g0 : wr.frozen? ⟨w.heap.size, 0, none⟩ = false := HZr.out.frozen 0
      have g1 : wr.frozen? ⟨w.heap.size, 1, none⟩ = false := HZr.out.frozen 1
      have g2 : wr.frozen? ⟨w.heap.size, 2, none⟩ = false := HZr.out.frozen 2
      have g3 : wr.frozen? ⟨w.heap.size, 3, none⟩ = false := HZr.out.frozen 3
      have g4 : wr.frozen? ⟨w.heap.size, 4, none⟩ = false := HZr.out.frozen 4
      have g5 : wr.frozen? ⟨w.heap.size, 5, none⟩ = false := HZr.out.frozen 5
      have g6 : wr.frozen? ⟨w.heap.size, 6, none⟩ = false := HZr.out.frozen 6
      have g7 : wr.frozen? ⟨w.heap.size, 7, none⟩ = false := HZr.out.frozen 7
      go_wp2
      with_reducible refine message_Get.ret_ (g := w.heap.size) (e := 21) ((((((((HZr.out.set_ 0 _).set_ 1 _).set_ 2 _).set_ 3 _).set_ 4 _).set_ 5 _).set_ 6 _).set_ 7 _) ?_ ?_ ?_ ?_
      · rfl
      · rfl
      · rfl
      · exact ⟨_, rfl, Kd.R_nil _ _ _ _ _, ((((((((HBr.out.setCell (Nat.le_refl _) _).setCell (Nat.le_refl _) _).setCell (Nat.le_refl _) _).setCell (Nat.le_refl _) _).setCell (Nat.le_refl _) _).setCell (Nat.le_refl _) _).setCell (Nat.le_refl _) _).setCell (Nat.le_refl _) _)⟩
    · have hX := HX.out
      rw [if_pos ⟨hdn, hrt, hlen⟩] at hX
      have HE := Aside0.mk (show v1 = r1 ∧ v2 = r2 ∧ v3 = r3 ∧ v4 = r4 ∧ v5 = r5 ∧ v6 = r6 ∧ v7 = r7 ∧ ls = r8 ∧ (0 : Int) = r9 from by simpa using hX)
      have hl2 : ¬ (1048576 : Int) < (l0.length : Int) := by omega
      clear hX HX hdn hrt hlen
      go_wp2_with (fail)
      with_reducible refine (doneQ HO9.out).mono ?_
      rintro en wd ⟨rfl, hwd⟩
      subst hwd
      go_wp2_with (fail)
      with_reducible refine (message_Right.calls v1 v2 v3 v4 v5 v6 v7 A8 c8 ls true _ (Kd.R_reads' HR9.out).2.2 hc8 HF.out).mono ?_
      rintro en wr ⟨rfl, hbr⟩
      have HBr := Aside0.mk ((HBw.out.trans (HO9.out.bel.mono HBw.out.size)).trans (hbr.mono (HBw.out.trans (HO9.out.bel.mono HBw.out.size)).size))
      have HZr := Aside0.mk (HZl.out.after hbr)
      have HMr := Aside0.mk (HM9.out.after hbr)
      have HRr := Aside0.mk (Kd.R_below HR9.out hbr)
      clear hbr m0 m1 m2 m3 m4 m5 m6 m7
      have z0 : wr.cell? ⟨w.heap.size, 0, none⟩ = some (.int .i64 0) := HZr.out.cell 0
      have z1 : wr.cell? ⟨w.heap.size, 1, none⟩ = some (.int .i64 0) := HZr.out.cell 1
      have z2 : wr.cell? ⟨w.heap.size, 2, none⟩ = some (.int .i64 0) := HZr.out.cell 2
      have z3 : wr.cell? ⟨w.heap.size, 3, none⟩ = some (.int .i64 0) := HZr.out.cell 3
      have z4 : wr.cell? ⟨w.heap.size, 4, none⟩ = some (.int .i64 0) := HZr.out.cell 4
      have z5 : wr.cell? ⟨w.heap.size, 5, none⟩ = some (.int .i64 0) := HZr.out.cell 5
      have z6 : wr.cell? ⟨w.heap.size, 6, none⟩ = some (.int .i64 0) := HZr.out.cell 6
      have z7 : wr.cell? ⟨w.heap.size, 7, none⟩ = some (.slice none 0 0) := HZr.out.cell 7
      have g0 : wr.frozen? ⟨w.heap.size, 0, none⟩ = false := HZr.out.frozen 0
      have g1 : wr.frozen? ⟨w.heap.size, 1, none⟩ = false := HZr.out.frozen 1
      have g2 : wr.frozen? ⟨w.heap.size, 2, none⟩ = false := HZr.out.frozen 2
      have g3 : wr.frozen? ⟨w.heap.size, 3, none⟩ = false := HZr.out.frozen 3
      have g4 : wr.frozen? ⟨w.heap.size, 4, none⟩ = false := HZr.out.frozen 4
      have g5 : wr.frozen? ⟨w.heap.size, 5, none⟩ = false := HZr.out.frozen 5
      have g6 : wr.frozen? ⟨w.heap.size, 6, none⟩ = false := HZr.out.frozen 6
      have g7 : wr.frozen? ⟨w.heap.size, 7, none⟩ = false := HZr.out.frozen 7
      have m0 : wr.cell? ⟨w9.heap.size, 0, none⟩ = some (.int .i64 v1) := HMr.out.cell 0
      have m1 : wr.cell? ⟨w9.heap.size, 1, none⟩ = some (.int .i64 v2) := HMr.out.cell 1
      have m2 : wr.cell? ⟨w9.heap.size, 2, none⟩ = some (.int .i64 v3) := HMr.out.cell 2
      have m3 : wr.cell? ⟨w9.heap.size, 3, none⟩ = some (.int .i64 v4) := HMr.out.cell 3
      have m4 : wr.cell? ⟨w9.heap.size, 4, none⟩ = some (.int .i64 v5) := HMr.out.cell 4
      have m5 : wr.cell? ⟨w9.heap.size, 5, none⟩ = some (.int .i64 v6) := HMr.out.cell 5
      have m6 : wr.cell? ⟨w9.heap.size, 6, none⟩ = some (.int .i64 v7) := HMr.out.cell 6
      have m7 : wr.cell? ⟨w9.heap.size, 7, none⟩ = some (.slice A8 ls.length c8) := HMr.out.cell 7
      go_wp2
      with_reducible refine message_Get.ret_ (g := w.heap.size) (e := 0) ((((((((HZr.out.set_ 0 _).set_ 1 _).set_ 2 _).set_ 3 _).set_ 4 _).set_ 5 _).set_ 6 _).set_ 7 _) ?_ ?_ ?_ ?_
      · rfl
      · rfl
      · rfl
      · obtain ⟨rfl, rfl, rfl, rfl, rfl, rfl, rfl, rfl, rfl⟩ := HE.out
        exact ⟨_, rfl, Kd.R_lower (Kd.R_mono (Kd.R_far (Kd.R_far (Kd.R_far (Kd.R_far (Kd.R_far (Kd.R_far (Kd.R_far (Kd.R_far HRr.out (p := ⟨w.heap.size, 0, none⟩) (fun k hk => show k ≠ w.heap.size by omega) _) (p := ⟨w.heap.size, 1, none⟩) (fun k hk => show k ≠ w.heap.size by omega) _) (p := ⟨w.heap.size, 2, none⟩) (fun k hk => show k ≠ w.heap.size by omega) _) (p := ⟨w.heap.size, 3, none⟩) (fun k hk => show k ≠ w.heap.size by omega) _) (p := ⟨w.heap.size, 4, none⟩) (fun k hk => show k ≠ w.heap.size by omega) _) (p := ⟨w.heap.size, 5, none⟩) (fun k hk => show k ≠ w.heap.size by omega) _) (p := ⟨w.heap.size, 6, none⟩) (fun k hk => show k ≠ w.heap.size by omega) _) (p := ⟨w.heap.size, 7, none⟩) (fun k hk => show k ≠ w.heap.size by omega) _) (fun _ _ => trivial)) (by omega), ((((((((HBr.out.setCell (Nat.le_refl _) _).setCell (Nat.le_refl _) _).setCell (Nat.le_refl _) _).setCell (Nat.le_refl _) _).setCell (Nat.le_refl _) _).setCell (Nat.le_refl _) _).setCell (Nat.le_refl _) _).setCell (Nat.le_refl _) _)⟩


end Go.Proofs.Ytlmlkcobkmhmbaa.Q
end

section
-- written by hprint.py (a program of these sessions) out of the translation; Lean checks it
namespace Go.Proofs.Ytlmlkcobkmhmbaa.Q
open Go.RowKit Go.Proofs.YtlmlkcobkmhmbaaW.Hb Go.Proofs.YtlmlkcobkmhmbaaW.PrintWords Go.Proofs.YtlmlkcobkmhmbaaW.PrintLast Go.Proofs.YtlmlkcobkmhmbaaW.PrintMore
attribute [local go_sem] max2_int min2_int max_two min_two max_three min_three max_four min_four   -- for this text's walks alone
set_option linter.unusedVariables false
set_option linter.unusedSimpArgs false

/-! ### message_GetRecord: function 19, by hand -/
theorem message_GetRecord.ret_ {R : Ending → World → Prop} {a : Act} {W : World} {g : Nat} {c0 c1 c2 c3 c4 : Value} {e : Int} (hB : Blk W g 49 #[c0, c1, c2, c3, c4]) (h2 : a.tmps[2]? = some (.pointer (some ⟨g, 0, none⟩))) (h3 : a.tmps[3]? = some (.int .i64 e)) (hd : a.defers = []) (hR : R (.returned (.tuple #[.agg #[c0, c1, c2, c3, c4], .int .i64 e])) W) :
    bodyPost Try.prog Try.f19 R Exit.ret a W := by
  have q0 : W.cell? ⟨g, 0, none⟩ = some c0 := hB.cell 0
  have q1 : W.cell? ⟨g, 1, none⟩ = some c1 := hB.cell 1
  have q2 : W.cell? ⟨g, 2, none⟩ = some c2 := hB.cell 2
  have q3 : W.cell? ⟨g, 3, none⟩ = some c3 := hB.cell 3
  have q4 : W.cell? ⟨g, 4, none⟩ = some c4 := hB.cell 4
  exact bodyPost_ret (v := .tuple #[.agg #[c0, c1, c2, c3, c4], .int .i64 e]) (by simp [results, Try.results19, go_sem, q0, q1, q2, q3, q4, h2, h3]) hd hR
def message_GetRecord.f (l0 : List Int) : Option (Int × Int × Int × Int × List S74 × Int) := if (l0.all isBb && decide (l0.length ≤ 140737488351232)) = true then some (getR mkE (fun a b c d l => rightR ⟨a, b, c, d, l⟩) l0) else none
set_option maxRecDepth 100000 in
set_option maxHeartbeats 4000000 in
theorem message_GetRecord.calls (A0 : Option Addr) (c0 : Nat) (l0 : List Int) (r1 : Int) (r2 : Int) (r3 : Int) (r4 : Int) (r5 : List S74) (r6 : Int) (w : World) (hr0 : Kd.C (Kd.int .u8) w A0 l0.length l0) (hc0 : l0.length ≤ c0) (h : message_GetRecord.f l0 = some (r1, r2, r3, r4, r5, r6)) :
    Calls Try.prog 19 #[.slice A0 l0.length c0] w fun en w' => ∃ v4_ : Value, en = .returned (.tuple #[.agg #[.int .i64 r1, .int .i64 r2, .int .i64 r3, .int .i64 r4, v4_], .int .i64 r6]) ∧ Kd.R k74 74 w' w.heap.size (fun _ => True) v4_ r5 ∧ Below w.heap.size w w' := by
  unfold message_GetRecord.f at h
  split at h
  rotate_left
  · cases h
  rename_i hall
  have h := Option.some.inj h
  simp only [Bool.and_eq_true, decide_eq_true_eq] at hall
  have HBB := Aside0.mk (isBb_all hall.1)
  have hll := hall.2
  clear hall
  obtain ⟨v1, x1, e1, h1⟩ : ∃ v x e, rByte l0 0 = (v, x, e) := ⟨_, _, _, rfl⟩
  obtain ⟨v2, x2, e2, h2⟩ : ∃ v x e, rInt x1 e1 = (v, x, e) := ⟨_, _, _, rfl⟩
  obtain ⟨v3, x3, e3, h3⟩ : ∃ v x e, rInt x2 e2 = (v, x, e) := ⟨_, _, _, rfl⟩
  obtain ⟨v4, x4, e4, h4⟩ : ∃ v x e, rInt x3 e3 = (v, x, e) := ⟨_, _, _, rfl⟩
  obtain ⟨ls, x8, e8, h8⟩ : ∃ v x e, rdLog mkE x4 e4 = (v, x, e) := ⟨_, _, _, rfl⟩
  have HX := Aside0.mk ((getR_is mkE (fun a b c d l => rightR ⟨a, b, c, d, l⟩) h1 h2 h3 h4 h8).symm.trans h)
  have H1 := Aside0.mk h1
  have H2 := Aside0.mk h2
  have H3 := Aside0.mk h3
  have H4 := Aside0.mk h4
  have H8 := Aside0.mk h8
  have HC0 := Aside0.mk (Kd.C_alloc hr0 (.cells #[.int .i64 0, .int .i64 0, .int .i64 0, .int .i64 0, .slice none 0 0] 49))
  have hm0 : l0.length ≤ 9223372036854775807 := hr0.2.1
  clear h hr0 h1 h2 h3 h4 h8
  go_enter Try.func19, Try.ntmps19
  go_wp2_with (fail)
  with_reducible refine (wire_NewReader.calls A0 c0 l0 _ HC0.out hc0 (by omega) HBB.out).mono ?_
  rintro en w2 ⟨g, rfl, hd2, hg2, hB2⟩
  have hsz1 : (w.alloc (.cells #[.int .i64 0, .int .i64 0, .int .i64 0, .int .i64 0, .slice none 0 0] 49)).heap.size = w.heap.size + 1 := by simp
  have HO2 := Aside0.mk (show Or (w.alloc (.cells #[.int .i64 0, .int .i64 0, .int .i64 0, .int .i64 0, .slice none 0 0] 49)) w2 w2.heap.size g l0 0 from ⟨_, hd2, fun k hk => hk, Nat.le_refl _, hB2⟩)
  have HZ2 := Aside0.mk ((Blk.new w 49 #[.int .i64 0, .int .i64 0, .int .i64 0, .int .i64 0, .slice none 0 0]).after hB2)
  have HBw := Aside0.mk (((Below.refl w.heap.size w).alloc (Nat.le_refl _) (.cells #[.int .i64 0, .int .i64 0, .int .i64 0, .int .i64 0, .slice none 0 0] 49)))
  rw [hsz1] at hg2
  clear hd2 hB2
  go_wp2_with (fail)
  with_reducible refine (byteQ HO2.out H1.out).mono ?_
  rintro en w3 ⟨rfl, hO3, hF3⟩
  have HO3 := Aside0.mk hO3
  have hg3 : g < w2.heap.size := hO3.g_in.2
  have HZ3 := Aside0.mk (show Blk w3 w.heap.size 49 #[.int .i64 0, .int .i64 0, .int .i64 0, .int .i64 0, .slice none 0 0] from blk_kept HZ2.out hF3.2 (fun h => by omega))
  clear hO3 hF3
  go_wp2_with (fail)
  with_reducible refine (intQ HO3.out H2.out).mono ?_
  rintro en w4 ⟨rfl, hO4, hF4⟩
  have HO4 := Aside0.mk hO4
  skip
  have HZ4 := Aside0.mk (show Blk w4 w.heap.size 49 #[.int .i64 0, .int .i64 0, .int .i64 0, .int .i64 0, .slice none 0 0] from blk_kept HZ3.out hF4.2 (fun h => by omega))
  clear hO4 hF4
  go_wp2_with (fail)
  with_reducible refine (intQ HO4.out H3.out).mono ?_
  rintro en w5 ⟨rfl, hO5, hF5⟩
  have HO5 := Aside0.mk hO5
  skip
  have HZ5 := Aside0.mk (show Blk w5 w.heap.size 49 #[.int .i64 0, .int .i64 0, .int .i64 0, .int .i64 0, .slice none 0 0] from blk_kept HZ4.out hF5.2 (fun h => by omega))
  clear hO5 hF5
  go_wp2_with (fail)
  with_reducible refine (intQ HO5.out H4.out).mono ?_
  rintro en w6 ⟨rfl, hO6, hF6⟩
  have HO6 := Aside0.mk hO6
  skip
  have HZ6 := Aside0.mk (show Blk w6 w.heap.size 49 #[.int .i64 0, .int .i64 0, .int .i64 0, .int .i64 0, .slice none 0 0] from blk_kept HZ5.out hF6.2 (fun h => by omega))
  clear hO6 hF6
  have hle6 : w2.heap.size ≤ w6.heap.size := HO6.out.le
  have hmz : w.heap.size < w6.heap.size := by omega
  have HM := Aside0.mk (Blk.new w6 49 #[.int .i64 v1, .int .i64 v2, .int .i64 v3, .int .i64 v4, .slice none 0 0])
  have HO6a := Aside0.mk (HO6.out.below ((Below.refl _ _).alloc hle6 (.cells #[.int .i64 v1, .int .i64 v2, .int .i64 v3, .int .i64 v4, .slice none 0 0] 49)))
  have HZ6a := Aside0.mk (HZ6.out.alloc (.cells #[.int .i64 v1, .int .i64 v2, .int .i64 v3, .int .i64 v4, .slice none 0 0] 49))
  have hszm : (w6.alloc (.cells #[.int .i64 v1, .int .i64 v2, .int .i64 v3, .int .i64 v4, .slice none 0 0] 49)).heap.size = w6.heap.size + 1 := by simp
  go_wp2_with (fail)
  with_reducible refine (message_log.calls _ _ _ g _ _ ls x8 e8 HO6a.out H8.out).mono ?_
  rintro en wl ⟨vl, rfl, hRl, hOl, hKl⟩
  obtain ⟨A8, c8, rfl, hc8, _⟩ := Kd.R_reads hRl
  have hRl := Kd.R_mono (ok' := fun k => w6.heap.size < k) hRl (fun k hk => by omega)
  have hMl : Blk wl w6.heap.size 49 #[.int .i64 v1, .int .i64 v2, .int .i64 v3, .int .i64 v4, .slice none 0 0] := blk_kept HM.out hKl (fun h => by omega)
  have HZl := Aside0.mk ((show Blk wl w.heap.size 49 #[.int .i64 0, .int .i64 0, .int .i64 0, .int .i64 0, .slice none 0 0] from blk_kept HZ6a.out hKl (fun h => by omega)).far (p := ⟨w6.heap.size, 4, none⟩) (show w.heap.size ≠ w6.heap.size by omega) (.slice A8 ls.length c8))
  have ql : wl.cell? ⟨w6.heap.size, 4, none⟩ = some (.slice none 0 0) := hMl.cell 4
  have fl : wl.frozen? ⟨w6.heap.size, 4, none⟩ = false := hMl.frozen 4
  have HM9 := Aside0.mk (show Blk (wl.setCell ⟨w6.heap.size, 4, none⟩ (.slice A8 ls.length c8)) w6.heap.size 49 #[.int .i64 v1, .int .i64 v2, .int .i64 v3, .int .i64 v4, .slice A8 ls.length c8] from by simpa using hMl.set_ 4 (.slice A8 ls.length c8))
  have HO9 := Aside0.mk (hOl.kept (S2 := fun k => k = w6.heap.size) (Kept.setCell (S := fun k => k = w6.heap.size) (p := ⟨w6.heap.size, 4, none⟩) (Kept.refl wl _) (.inl rfl) (.slice A8 ls.length c8)) (fun k hk => by omega) ((Below.refl _ _).setCell (show (w.alloc (.cells #[.int .i64 0, .int .i64 0, .int .i64 0, .int .i64 0, .slice none 0 0] 49)).heap.size ≤ w6.heap.size by omega) _))
  have HR9 := Aside0.mk (Kd.R_far hRl (p := ⟨w6.heap.size, 4, none⟩) (fun k hk => show k ≠ w6.heap.size by omega) (.slice A8 ls.length c8))
  have m0 : (wl.setCell ⟨w6.heap.size, 4, none⟩ (.slice A8 ls.length c8)).cell? ⟨w6.heap.size, 0, none⟩ = some (.int .i64 v1) := HM9.out.cell 0
  have m1 : (wl.setCell ⟨w6.heap.size, 4, none⟩ (.slice A8 ls.length c8)).cell? ⟨w6.heap.size, 1, none⟩ = some (.int .i64 v2) := HM9.out.cell 1
  have m2 : (wl.setCell ⟨w6.heap.size, 4, none⟩ (.slice A8 ls.length c8)).cell? ⟨w6.heap.size, 2, none⟩ = some (.int .i64 v3) := HM9.out.cell 2
  have m3 : (wl.setCell ⟨w6.heap.size, 4, none⟩ (.slice A8 ls.length c8)).cell? ⟨w6.heap.size, 3, none⟩ = some (.int .i64 v4) := HM9.out.cell 3
  have m4 : (wl.setCell ⟨w6.heap.size, 4, none⟩ (.slice A8 ls.length c8)).cell? ⟨w6.heap.size, 4, none⟩ = some (.slice A8 ls.length c8) := HM9.out.cell 4
  clear hRl hOl hKl hMl
  by_cases hdn : rDone x8 e8 = 0
  rotate_left
  · have hX := HX.out
    rw [if_neg (fun h => hdn h.1)] at hX
    obtain ⟨rfl, rfl, rfl, rfl, rfl, rfl⟩ : 0 = r1 ∧ 0 = r2 ∧ 0 = r3 ∧ 0 = r4 ∧ [] = r5 ∧ 21 = r6 := by simpa using hX
    have hdb : (rDone x8 e8 != 0) = true := by simp [hdn]
    have hdc : (rDone x8 e8 == 0) = false := by simp [hdn]
    clear hX HX hdn
    go_wp2_with (fail)
    with_reducible refine (doneQ HO9.out).mono ?_
    rintro en wd ⟨rfl, hwd⟩
    subst hwd
    have z0 : (wl.setCell ⟨w6.heap.size, 4, none⟩ (.slice A8 ls.length c8)).cell? ⟨w.heap.size, 0, none⟩ = some (.int .i64 0) := HZl.out.cell 0
    have z1 : (wl.setCell ⟨w6.heap.size, 4, none⟩ (.slice A8 ls.length c8)).cell? ⟨w.heap.size, 1, none⟩ = some (.int .i64 0) := HZl.out.cell 1
    have z2 : (wl.setCell ⟨w6.heap.size, 4, none⟩ (.slice A8 ls.length c8)).cell? ⟨w.heap.size, 2, none⟩ = some (.int .i64 0) := HZl.out.cell 2
    have z3 : (wl.setCell ⟨w6.heap.size, 4, none⟩ (.slice A8 ls.length c8)).cell? ⟨w.heap.size, 3, none⟩ = some (.int .i64 0) := HZl.out.cell 3
    have z4 : (wl.setCell ⟨w6.heap.size, 4, none⟩ (.slice A8 ls.length c8)).cell? ⟨w.heap.size, 4, none⟩ = some (.slice none 0 0) := HZl.out.cell 4
    have g0 : (wl.setCell ⟨w6.heap.size, 4, none⟩ (.slice A8 ls.length c8)).frozen? ⟨w.heap.size, 0, none⟩ = false := HZl.out.frozen 0
    have g1 : (wl.setCell ⟨w6.heap.size, 4, none⟩ (.slice A8 ls.length c8)).frozen? ⟨w.heap.size, 1, none⟩ = false := HZl.out.frozen 1
    have g2 : (wl.setCell ⟨w6.heap.size, 4, none⟩ (.slice A8 ls.length c8)).frozen? ⟨w.heap.size, 2, none⟩ = false := HZl.out.frozen 2
    have g3 : (wl.setCell ⟨w6.heap.size, 4, none⟩ (.slice A8 ls.length c8)).frozen? ⟨w.heap.size, 3, none⟩ = false := HZl.out.frozen 3
    have g4 : (wl.setCell ⟨w6.heap.size, 4, none⟩ (.slice A8 ls.length c8)).frozen? ⟨w.heap.size, 4, none⟩ = false := HZl.out.frozen 4
    clear m0 m1 m2 m3 m4
    go_wp2
    with_reducible refine message_GetRecord.ret_ (g := w.heap.size) (e := 21) (((((HZl.out.set_ 0 _).set_ 1 _).set_ 2 _).set_ 3 _).set_ 4 _) ?_ ?_ ?_ ?_
    · rfl
    · rfl
    · rfl
    · exact ⟨_, rfl, Kd.R_nil _ _ _ _ _, ((((((HBw.out.trans (HO9.out.bel.mono HBw.out.size)).setCell (Nat.le_refl _) _).setCell (Nat.le_refl _) _).setCell (Nat.le_refl _) _).setCell (Nat.le_refl _) _).setCell (Nat.le_refl _) _)⟩
  have hdb : (rDone x8 e8 != 0) = false := by simp [hdn]
  have hdc : (rDone x8 e8 == 0) = true := by simp [hdn]
  cases hrt : rightR ⟨v1, v2, v3, v4, ls⟩ with
  | false =>
    have HF := Aside0.mk (show message_RightRecord.f v1 v2 v3 v4 ls = some false by rw [← hrt]; exact rightR_f ⟨v1, v2, v3, v4, ls⟩)
    have hX := HX.out
    rw [if_neg (fun h => by have := h.2.1; rw [hrt] at this; cases this)] at hX
    obtain ⟨rfl, rfl, rfl, rfl, rfl, rfl⟩ : 0 = r1 ∧ 0 = r2 ∧ 0 = r3 ∧ 0 = r4 ∧ [] = r5 ∧ 21 = r6 := by simpa using hX
    clear hX HX hdn hrt
    go_wp2_with (fail)
    with_reducible refine (doneQ HO9.out).mono ?_
    rintro en wd ⟨rfl, hwd⟩
    subst hwd
    go_wp2_with (fail)
    with_reducible refine (message_RightRecord.calls v1 v2 v3 v4 A8 c8 ls false _ (Kd.R_reads' HR9.out).2.2 hc8 HF.out).mono ?_
    rintro en wr ⟨rfl, hbr⟩
    have HBr := Aside0.mk ((HBw.out.trans (HO9.out.bel.mono HBw.out.size)).trans (hbr.mono (HBw.out.trans (HO9.out.bel.mono HBw.out.size)).size))
    have HZr := Aside0.mk (HZl.out.after hbr)
    clear hbr m0 m1 m2 m3 m4
    have z0 : wr.cell? ⟨w.heap.size, 0, none⟩ = some (.int .i64 0) := HZr.out.cell 0
    have z1 : wr.cell? ⟨w.heap.size, 1, none⟩ = some (.int .i64 0) := HZr.out.cell 1
    have z2 : wr.cell? ⟨w.heap.size, 2, none⟩ = some (.int .i64 0) := HZr.out.cell 2
    have z3 : wr.cell? ⟨w.heap.size, 3, none⟩ = some (.int .i64 0) := HZr.out.cell 3
    have z4 : wr.cell? ⟨w.heap.size, 4, none⟩ = some (.slice none 0 0) := HZr.out.cell 4
    have g0 : wr.frozen? ⟨w.heap.size, 0, none⟩ = false := HZr.out.frozen 0
    have g1 : wr.frozen? ⟨w.heap.size, 1, none⟩ = false := HZr.out.frozen 1
    have g2 : wr.frozen? ⟨w.heap.size, 2, none⟩ = false := HZr.out.frozen 2
    have g3 : wr.frozen? ⟨w.heap.size, 3, none⟩ = false := HZr.out.frozen 3
    have g4 : wr.frozen? ⟨w.heap.size, 4, none⟩ = false := HZr.out.frozen 4
    go_wp2
    with_reducible refine message_GetRecord.ret_ (g := w.heap.size) (e := 21) (((((HZr.out.set_ 0 _).set_ 1 _).set_ 2 _).set_ 3 _).set_ 4 _) ?_ ?_ ?_ ?_
    · rfl
    · rfl
    · rfl
    · exact ⟨_, rfl, Kd.R_nil _ _ _ _ _, (((((HBr.out.setCell (Nat.le_refl _) _).setCell (Nat.le_refl _) _).setCell (Nat.le_refl _) _).setCell (Nat.le_refl _) _).setCell (Nat.le_refl _) _)⟩
  | true =>
    have HF := Aside0.mk (show message_RightRecord.f v1 v2 v3 v4 ls = some true by rw [← hrt]; exact rightR_f ⟨v1, v2, v3, v4, ls⟩)
    by_cases hlen : l0.length ≤ 1048576
    rotate_left
    · have hX := HX.out
      rw [if_neg (fun h => hlen h.2.2)] at hX
      obtain ⟨rfl, rfl, rfl, rfl, rfl, rfl⟩ : 0 = r1 ∧ 0 = r2 ∧ 0 = r3 ∧ 0 = r4 ∧ [] = r5 ∧ 21 = r6 := by simpa using hX
      have hl2 : (1048576 : Int) < (l0.length : Int) := by omega
      clear hX HX hdn hrt hlen
      go_wp2_with (fail)
      with_reducible refine (doneQ HO9.out).mono ?_
      rintro en wd ⟨rfl, hwd⟩
      subst hwd
      go_wp2_with (fail)
      with_reducible refine (message_RightRecord.calls v1 v2 v3 v4 A8 c8 ls true _ (Kd.R_reads' HR9.out).2.2 hc8 HF.out).mono ?_
      rintro en wr ⟨rfl, hbr⟩
      have HBr := Aside0.mk ((HBw.out.trans (HO9.out.bel.mono HBw.out.size)).trans (hbr.mono (HBw.out.trans (HO9.out.bel.mono HBw.out.size)).size))
      have HZr := Aside0.mk (HZl.out.after hbr)
      clear hbr m0 m1 m2 m3 m4
      have z0 : wr.cell? ⟨w.heap.size, 0, none⟩ = some (.int .i64 0) := HZr.out.cell 0
      have z1 : wr.cell? ⟨w.heap.size, 1, none⟩ = some (.int .i64 0) := HZr.out.cell 1
      have z2 : wr.cell? ⟨w.heap.size, 2, none⟩ = some (.int .i64 0) := HZr.out.cell 2
      have z3 : wr.cell? ⟨w.heap.size, 3, none⟩ = some (.int .i64 0) := HZr.out.cell 3
      have z4 : wr.cell? ⟨w.heap.size, 4, none⟩ = some (.slice none 0 0) := HZr.out.cell 4
      have g0 : wr.frozen? ⟨w.heap.size, 0, none⟩ = false := HZr.out.frozen 0
      have g1 : wr.frozen? ⟨w.heap.size, 1, none⟩ = false := HZr.out.frozen 1
      have g2 : wr.frozen? ⟨w.heap.size, 2, none⟩ = false := HZr.out.frozen 2
      have g3 : wr.frozen? ⟨w.heap.size, 3, none⟩ = false := HZr.out.frozen 3
      have g4 : wr.frozen? ⟨w.heap.size, 4, none⟩ = false := HZr.out.frozen 4
      go_wp2
      with_reducible refine message_GetRecord.ret_ (g := w.heap.size) (e := 21) (((((HZr.out.set_ 0 _).set_ 1 _).set_ 2 _).set_ 3 _).set_ 4 _) ?_ ?_ ?_ ?_
      · rfl
      · rfl
      · rfl
      · exact ⟨_, rfl, Kd.R_nil _ _ _ _ _, (((((HBr.out.setCell (Nat.le_refl _) _).setCell (Nat.le_refl _) _).setCell (Nat.le_refl _) _).setCell (Nat.le_refl _) _).setCell (Nat.le_refl _) _)⟩
    · have hX := HX.out
      rw [if_pos ⟨hdn, hrt, hlen⟩] at hX
      have HE := Aside0.mk (show v1 = r1 ∧ v2 = r2 ∧ v3 = r3 ∧ v4 = r4 ∧ ls = r5 ∧ (0 : Int) = r6 from by simpa using hX)
      have hl2 : ¬ (1048576 : Int) < (l0.length : Int) := by omega
      clear hX HX hdn hrt hlen
      go_wp2_with (fail)
      with_reducible refine (doneQ HO9.out).mono ?_
      rintro en wd ⟨rfl, hwd⟩
      subst hwd
      go_wp2_with (fail)
      with_reducible refine (message_RightRecord.calls v1 v2 v3 v4 A8 c8 ls true _ (Kd.R_reads' HR9.out).2.2 hc8 HF.out).mono ?_
      rintro en wr ⟨rfl, hbr⟩
      have HBr := Aside0.mk ((HBw.out.trans (HO9.out.bel.mono HBw.out.size)).trans (hbr.mono (HBw.out.trans (HO9.out.bel.mono HBw.out.size)).size))
      have HZr := Aside0.mk (HZl.out.after hbr)
      have HMr := Aside0.mk (HM9.out.after hbr)
      have HRr := Aside0.mk (Kd.R_below HR9.out hbr)
      clear hbr m0 m1 m2 m3 m4
      have z0 : wr.cell? ⟨w.heap.size, 0, none⟩ = some (.int .i64 0) := HZr.out.cell 0
      have z1 : wr.cell? ⟨w.heap.size, 1, none⟩ = some (.int .i64 0) := HZr.out.cell 1
      have z2 : wr.cell? ⟨w.heap.size, 2, none⟩ = some (.int .i64 0) := HZr.out.cell 2
      have z3 : wr.cell? ⟨w.heap.size, 3, none⟩ = some (.int .i64 0) := HZr.out.cell 3
      have z4 : wr.cell? ⟨w.heap.size, 4, none⟩ = some (.slice none 0 0) := HZr.out.cell 4
      have g0 : wr.frozen? ⟨w.heap.size, 0, none⟩ = false := HZr.out.frozen 0
      have g1 : wr.frozen? ⟨w.heap.size, 1, none⟩ = false := HZr.out.frozen 1
      have g2 : wr.frozen? ⟨w.heap.size, 2, none⟩ = false := HZr.out.frozen 2
      have g3 : wr.frozen? ⟨w.heap.size, 3, none⟩ = false := HZr.out.frozen 3
      have g4 : wr.frozen? ⟨w.heap.size, 4, none⟩ = false := HZr.out.frozen 4
      have m0 : wr.cell? ⟨w6.heap.size, 0, none⟩ = some (.int .i64 v1) := HMr.out.cell 0
      have m1 : wr.cell? ⟨w6.heap.size, 1, none⟩ = some (.int .i64 v2) := HMr.out.cell 1
      have m2 : wr.cell? ⟨w6.heap.size, 2, none⟩ = some (.int .i64 v3) := HMr.out.cell 2
      have m3 : wr.cell? ⟨w6.heap.size, 3, none⟩ = some (.int .i64 v4) := HMr.out.cell 3
      have m4 : wr.cell? ⟨w6.heap.size, 4, none⟩ = some (.slice A8 ls.length c8) := HMr.out.cell 4
      go_wp2
      with_reducible refine message_GetRecord.ret_ (g := w.heap.size) (e := 0) (((((HZr.out.set_ 0 _).set_ 1 _).set_ 2 _).set_ 3 _).set_ 4 _) ?_ ?_ ?_ ?_
      · rfl
      · rfl
      · rfl
      · obtain ⟨rfl, rfl, rfl, rfl, rfl, rfl⟩ := HE.out
        exact ⟨_, rfl, Kd.R_lower (Kd.R_mono (Kd.R_far (Kd.R_far (Kd.R_far (Kd.R_far (Kd.R_far HRr.out (p := ⟨w.heap.size, 0, none⟩) (fun k hk => show k ≠ w.heap.size by omega) _) (p := ⟨w.heap.size, 1, none⟩) (fun k hk => show k ≠ w.heap.size by omega) _) (p := ⟨w.heap.size, 2, none⟩) (fun k hk => show k ≠ w.heap.size by omega) _) (p := ⟨w.heap.size, 3, none⟩) (fun k hk => show k ≠ w.heap.size by omega) _) (p := ⟨w.heap.size, 4, none⟩) (fun k hk => show k ≠ w.heap.size by omega) _) (fun _ _ => trivial)) (by omega), (((((HBr.out.setCell (Nat.le_refl _) _).setCell (Nat.le_refl _) _).setCell (Nat.le_refl _) _).setCell (Nat.le_refl _) _).setCell (Nat.le_refl _) _)⟩


end Go.Proofs.Ytlmlkcobkmhmbaa.Q
end

section
-- written by hprint.py (a program of these sessions) out of the translation; Lean checks it
namespace Go.Proofs.Ytlmlkcobkmhmbaa.Q
open Go.RowKit Go.Proofs.YtlmlkcobkmhmbaaW.Hb Go.Proofs.YtlmlkcobkmhmbaaW.PrintWords Go.Proofs.YtlmlkcobkmhmbaaW.PrintLast Go.Proofs.YtlmlkcobkmhmbaaW.PrintMore
attribute [local go_sem] max2_int min2_int max_two min_two max_three min_three max_four min_four   -- for this text's walks alone
set_option linter.unusedVariables false
set_option linter.unusedSimpArgs false

/-! ### weighhouselaw17_SameRecord: function 23 -/
def weighhouselaw17_SameRecord.f (k : Nat) (a0_0 : Int) (a0_1 : Int) (a0_2 : Int) (a0_3 : Int) (l0_4 : List (S74)) (a1_0 : Int) (a1_1 : Int) (a1_2 : Int) (a1_3 : Int) (l1_4 : List (S74)) : Option (Bool) := if a0_0 = a1_0 then (if a0_1 = a1_1 then (if a0_2 = a1_2 then (if a0_3 = a1_3 then ((weighhouselaw17_SameLog.f k l0_4 l1_4).bind fun t309 => (some t309)) else (some false)) else (some false)) else (some false)) else (some false)
theorem weighhouselaw17_SameRecord.mono : ∀ a0 a1 a2 a3 a4 a5 a6 a7 a8 a9 k, LeO (weighhouselaw17_SameRecord.f k a0 a1 a2 a3 a4 a5 a6 a7 a8 a9) (weighhouselaw17_SameRecord.f (k + 1) a0 a1 a2 a3 a4 a5 a6 a7 a8 a9) := by
  intro a0 a1 a2 a3 a4 a5 a6 a7 a8 a9 k
  unfold weighhouselaw17_SameRecord.f
  repeat' first
      | (with_reducible exact weighhouselaw17_SameLog.mono _ _ _)
      | (with_reducible exact LeO.refl _)
      | (with_reducible exact LeO.none _)
      | (with_reducible refine LeO.ite ?_ ?_)
      | (with_reducible refine LeO.bind ?_ (fun _ => ?_))
      | exact weighhouselaw17_SameLog.mono _ _ _
      | exact LeO.none _
      | refine LeO.ite ?_ ?_
      | refine LeO.bind ?_ (fun _ => ?_)
set_option maxHeartbeats 8000000 in
set_option maxRecDepth 100000 in
theorem weighhouselaw17_SameRecord.calls (k : Nat) (a0_0 : Int) (a0_1 : Int) (a0_2 : Int) (a0_3 : Int) (A0_4 : Option Addr) (c0_4 : Nat) (l0_4 : List (S74)) (a1_0 : Int) (a1_1 : Int) (a1_2 : Int) (a1_3 : Int) (A1_4 : Option Addr) (c1_4 : Nat) (l1_4 : List (S74)) (r : Bool) (w : World) (hr0_4 : Kd.C k74 w A0_4 l0_4.length l0_4) (hc0_4 : l0_4.length ≤ c0_4) (hr1_4 : Kd.C k74 w A1_4 l1_4.length l1_4) (hc1_4 : l1_4.length ≤ c1_4) (h : weighhouselaw17_SameRecord.f k a0_0 a0_1 a0_2 a0_3 l0_4 a1_0 a1_1 a1_2 a1_3 l1_4 = some r) :
    Calls Try.prog 23 #[.agg #[.int .i64 a0_0, .int .i64 a0_1, .int .i64 a0_2, .int .i64 a0_3, .slice A0_4 l0_4.length c0_4], .agg #[.int .i64 a1_0, .int .i64 a1_1, .int .i64 a1_2, .int .i64 a1_3, .slice A1_4 l1_4.length c1_4]] w fun e w' => e = .returned (.bool r) ∧ Below w.heap.size w w' := by
  have hu49 := Try.underlying49
  have HR0_4 := Aside0.mk hr0_4
  have HC0_4 := Aside0.mk hc0_4
  clear hr0_4 hc0_4
  have HR1_4 := Aside0.mk hr1_4
  have HC1_4 := Aside0.mk hc1_4
  clear hr1_4 hc1_4
  have HB := Aside0.mk (Below.refl w.heap.size w)
  have H : (if a0_0 = a1_0 then (if a0_1 = a1_1 then (if a0_2 = a1_2 then (if a0_3 = a1_3 then ((weighhouselaw17_SameLog.f k l0_4 l1_4).bind fun t309 => (some t309)) else (some false)) else (some false)) else (some false)) else (some false)) = some r := h
  clear h
  by_cases c3 : a0_0 = a1_0
  · rw [if_pos c3] at H
    have c3b0 : (a0_0 == a1_0) = true := beq_iff_eq.mpr c3
    have c3b1 : (a0_0 != a1_0) = false := bne_eq_false_iff_eq.mpr c3
    clear c3
    by_cases c4 : a0_1 = a1_1
    · rw [if_pos c4] at H
      have c4b0 : (a0_1 == a1_1) = true := beq_iff_eq.mpr c4
      have c4b1 : (a0_1 != a1_1) = false := bne_eq_false_iff_eq.mpr c4
      clear c4
      by_cases c5 : a0_2 = a1_2
      · rw [if_pos c5] at H
        have c5b0 : (a0_2 == a1_2) = true := beq_iff_eq.mpr c5
        have c5b1 : (a0_2 != a1_2) = false := bne_eq_false_iff_eq.mpr c5
        clear c5
        by_cases c6 : a0_3 = a1_3
        · rw [if_pos c6] at H
          have c6b0 : (a0_3 == a1_3) = true := beq_iff_eq.mpr c6
          have c6b1 : (a0_3 != a1_3) = false := bne_eq_false_iff_eq.mpr c6
          clear c6
          replace H := Option.bind_eq_some_iff.mp H
          obtain ⟨t309, A70, H⟩ := H
          replace H : (some t309) = some r := H
          have A7 := Aside0.mk A70
          clear A70
          obtain rfl := Option.some.inj H
          go_enter Try.func23, Try.ntmps23
          go_wp2_with (first | ((with_reducible refine gate_dst (N := 2) rfl ?_); refine box_event ?hg (N := 2) ?hd (cs := #[.int .i64 a0_0, .int .i64 a0_1, .int .i64 a0_2, .int .i64 a0_3, .slice A0_4 l0_4.length c0_4]) (t := 49) ?hr ?_; (case hd => rfl); (case hg => rfl); (case hr => first | (go_simp; done) | (go_simp; rfl)); intro gb307 hg w8 hbox hb; have n0_ := Aside0.mk (below_step (by repeat (first | (with_reducible first | exact HB.out | apply below_alloc | apply pw_below_drewN | apply below_drew1) | exact HB.out)) hb); have n1_ := Aside0.mk (hbox); have n2_ := Aside0.mk ((by rw [hg]; exact (below_size (by repeat (first | (with_reducible first | exact HB.out | apply below_alloc | apply pw_below_drewN | apply below_drew1) | exact HB.out))) : w.heap.size ≤ gb307)); have n3_ := Aside0.mk ((by rw [hg]; exact (below_size (by repeat (first | (with_reducible first | exact HB.out | apply below_alloc | apply pw_below_drewN | apply below_drew1) | exact HB.out))) : w.heap.size ≤ gb307)); clear HB; have HB := n0_; have BK307 := n1_; have GW307 := n2_; have GE307 := n3_; clear n0_ n1_ n2_ n3_; clear hb hbox hg) | ((with_reducible refine gate_dst (N := 3) rfl ?_); refine box_event ?hg (N := 3) ?hd (cs := #[.int .i64 a1_0, .int .i64 a1_1, .int .i64 a1_2, .int .i64 a1_3, .slice A1_4 l1_4.length c1_4]) (t := 49) ?hr ?_; (case hd => rfl); (case hg => rfl); (case hr => first | (go_simp; done) | (go_simp; rfl)); intro gb308 hg w9 hbox hb; have n0_ := Aside0.mk (blk_below (g := gb307) (o := .cells #[.int .i64 a0_0, .int .i64 a0_1, .int .i64 a0_2, .int .i64 a0_3, .slice A0_4 l0_4.length c0_4] 49 (0, 0)) (by (with_reducible repeat (first | refine blk_drewN ?_ _ | refine blk_drew ?_ | refine blk_alloc ?_ _)); exact BK307.out) hb); have n1_ := Aside0.mk (below_step (by repeat (first | (with_reducible first | exact HB.out | apply below_alloc | apply pw_below_drewN | apply below_drew1 | refine below_set ?_ GE307.out) | exact HB.out)) hb); have n2_ := Aside0.mk (hbox); have n3_ := Aside0.mk ((by rw [hg]; exact (below_size (by repeat (first | (with_reducible first | exact HB.out | apply below_alloc | apply pw_below_drewN | apply below_drew1 | refine below_set ?_ GE307.out) | exact HB.out))) : w.heap.size ≤ gb308)); have n4_ := Aside0.mk ((by rw [hg]; exact (below_size (by repeat (first | (with_reducible first | exact HB.out | apply below_alloc | apply pw_below_drewN | apply below_drew1 | refine below_set ?_ GE307.out) | exact HB.out))) : w.heap.size ≤ gb308)); have n5_ := Aside0.mk ((by rw [hg]; exact Nat.ne_of_lt (blk_lt (g := gb307) (o := .cells #[.int .i64 a0_0, .int .i64 a0_1, .int .i64 a0_2, .int .i64 a0_3, .slice A0_4 l0_4.length c0_4] 49 (0, 0)) (by (with_reducible repeat (first | refine blk_drewN ?_ _ | refine blk_drew ?_ | refine blk_alloc ?_ _)); exact BK307.out)) : gb307 ≠ gb308)); have n6_ := Aside0.mk ((by rw [hg]; exact Nat.ne_of_gt (blk_lt (g := gb307) (o := .cells #[.int .i64 a0_0, .int .i64 a0_1, .int .i64 a0_2, .int .i64 a0_3, .slice A0_4 l0_4.length c0_4] 49 (0, 0)) (by (with_reducible repeat (first | refine blk_drewN ?_ _ | refine blk_drew ?_ | refine blk_alloc ?_ _)); exact BK307.out)) : gb308 ≠ gb307)); clear BK307; clear HB; have BK307 := n0_; have HB := n1_; have BK308 := n2_; have GW308 := n3_; have GE308 := n4_; have NB307_308 := n5_; have NB308_307 := n6_; clear n0_ n1_ n2_ n3_ n4_ n5_ n6_; clear hb hbox hg; have hnb10 := NB307_308.out; have hnc10 := NB308_307.out; have hcz11_0 : w9.cell? ⟨gb307, 0, none⟩ = some (.int .i64 a0_0) := (blk_cell BK307.out 0).trans rfl; have hcz11_1 : w9.cell? ⟨gb307, 1, none⟩ = some (.int .i64 a0_1) := (blk_cell BK307.out 1).trans rfl; have hcz11_2 : w9.cell? ⟨gb307, 2, none⟩ = some (.int .i64 a0_2) := (blk_cell BK307.out 2).trans rfl; have hcz11_3 : w9.cell? ⟨gb307, 3, none⟩ = some (.int .i64 a0_3) := (blk_cell BK307.out 3).trans rfl; have hcz11_4 : w9.cell? ⟨gb307, 4, none⟩ = some (.slice A0_4 l0_4.length c0_4) := (blk_cell BK307.out 4).trans rfl; have hfz11_0 := blk_frozen BK307.out 0; have hfz11_1 := blk_frozen BK307.out 1; have hfz11_2 := blk_frozen BK307.out 2; have hfz11_3 := blk_frozen BK307.out 3; have hfz11_4 := blk_frozen BK307.out 4; have hcz12_0 : w9.cell? ⟨gb308, 0, none⟩ = some (.int .i64 a1_0) := (blk_cell BK308.out 0).trans rfl; have hcz12_1 : w9.cell? ⟨gb308, 1, none⟩ = some (.int .i64 a1_1) := (blk_cell BK308.out 1).trans rfl; have hcz12_2 : w9.cell? ⟨gb308, 2, none⟩ = some (.int .i64 a1_2) := (blk_cell BK308.out 2).trans rfl; have hcz12_3 : w9.cell? ⟨gb308, 3, none⟩ = some (.int .i64 a1_3) := (blk_cell BK308.out 3).trans rfl; have hcz12_4 : w9.cell? ⟨gb308, 4, none⟩ = some (.slice A1_4 l1_4.length c1_4) := (blk_cell BK308.out 4).trans rfl; have hfz12_0 := blk_frozen BK308.out 0; have hfz12_1 := blk_frozen BK308.out 1; have hfz12_2 := blk_frozen BK308.out 2; have hfz12_3 := blk_frozen BK308.out 3; have hfz12_4 := blk_frozen BK308.out 4) | (go_at_call 38; (with_reducible refine (weighhouselaw17_SameLog.calls k _ _ l0_4 _ _ l1_4 t309 _ ?side1 ?side2 ?side3 ?side4 A7.out).mono ?_); (case side1 => repeat (first | exact (Kd.C_below HR0_4.out HB.out) | (with_reducible refine Kd.C_alloc ?_ _) | (with_reducible refine Kd.C_drewN ?_ _) | (with_reducible refine Kd.C_drew ?_))); (case side2 => exact HC0_4.out); (case side3 => repeat (first | exact (Kd.C_below HR1_4.out HB.out) | (with_reducible refine Kd.C_alloc ?_ _) | (with_reducible refine Kd.C_drewN ?_ _) | (with_reducible refine Kd.C_drew ?_))); (case side4 => exact HC1_4.out); rintro e w' ⟨rfl, ⟨nd, rfl⟩⟩))
          go_ret
          exact ⟨by first | rfl | (simp [errW_none, errW_some] <;> rfl) | (simp [*, errW_none, errW_some] <;> rfl), by repeat (first | (with_reducible first | exact HB.out | apply below_alloc | apply pw_below_drewN | apply below_drew1 | refine below_set ?_ GE307.out | refine below_set ?_ GE308.out) | exact HB.out)⟩
        · rw [if_neg c6] at H
          have c6b0 : (a0_3 == a1_3) = false := beq_eq_false_iff_ne.mpr c6
          have c6b1 : (a0_3 != a1_3) = true := bne_iff_ne.mpr c6
          obtain rfl := Option.some.inj H
          go_enter Try.func23, Try.ntmps23
          go_wp2_with (first | ((with_reducible refine gate_dst (N := 2) rfl ?_); refine box_event ?hg (N := 2) ?hd (cs := #[.int .i64 a0_0, .int .i64 a0_1, .int .i64 a0_2, .int .i64 a0_3, .slice A0_4 l0_4.length c0_4]) (t := 49) ?hr ?_; (case hd => rfl); (case hg => rfl); (case hr => first | (go_simp; done) | (go_simp; rfl)); intro gb307 hg w13 hbox hb; have n0_ := Aside0.mk (below_step (by repeat (first | (with_reducible first | exact HB.out | apply below_alloc | apply pw_below_drewN | apply below_drew1) | exact HB.out)) hb); have n1_ := Aside0.mk (hbox); have n2_ := Aside0.mk ((by rw [hg]; exact (below_size (by repeat (first | (with_reducible first | exact HB.out | apply below_alloc | apply pw_below_drewN | apply below_drew1) | exact HB.out))) : w.heap.size ≤ gb307)); have n3_ := Aside0.mk ((by rw [hg]; exact (below_size (by repeat (first | (with_reducible first | exact HB.out | apply below_alloc | apply pw_below_drewN | apply below_drew1) | exact HB.out))) : w.heap.size ≤ gb307)); clear HB; have HB := n0_; have BK307 := n1_; have GW307 := n2_; have GE307 := n3_; clear n0_ n1_ n2_ n3_; clear hb hbox hg) | ((with_reducible refine gate_dst (N := 3) rfl ?_); refine box_event ?hg (N := 3) ?hd (cs := #[.int .i64 a1_0, .int .i64 a1_1, .int .i64 a1_2, .int .i64 a1_3, .slice A1_4 l1_4.length c1_4]) (t := 49) ?hr ?_; (case hd => rfl); (case hg => rfl); (case hr => first | (go_simp; done) | (go_simp; rfl)); intro gb308 hg w14 hbox hb; have n0_ := Aside0.mk (blk_below (g := gb307) (o := .cells #[.int .i64 a0_0, .int .i64 a0_1, .int .i64 a0_2, .int .i64 a0_3, .slice A0_4 l0_4.length c0_4] 49 (0, 0)) (by (with_reducible repeat (first | refine blk_drewN ?_ _ | refine blk_drew ?_ | refine blk_alloc ?_ _)); exact BK307.out) hb); have n1_ := Aside0.mk (below_step (by repeat (first | (with_reducible first | exact HB.out | apply below_alloc | apply pw_below_drewN | apply below_drew1 | refine below_set ?_ GE307.out) | exact HB.out)) hb); have n2_ := Aside0.mk (hbox); have n3_ := Aside0.mk ((by rw [hg]; exact (below_size (by repeat (first | (with_reducible first | exact HB.out | apply below_alloc | apply pw_below_drewN | apply below_drew1 | refine below_set ?_ GE307.out) | exact HB.out))) : w.heap.size ≤ gb308)); have n4_ := Aside0.mk ((by rw [hg]; exact (below_size (by repeat (first | (with_reducible first | exact HB.out | apply below_alloc | apply pw_below_drewN | apply below_drew1 | refine below_set ?_ GE307.out) | exact HB.out))) : w.heap.size ≤ gb308)); have n5_ := Aside0.mk ((by rw [hg]; exact Nat.ne_of_lt (blk_lt (g := gb307) (o := .cells #[.int .i64 a0_0, .int .i64 a0_1, .int .i64 a0_2, .int .i64 a0_3, .slice A0_4 l0_4.length c0_4] 49 (0, 0)) (by (with_reducible repeat (first | refine blk_drewN ?_ _ | refine blk_drew ?_ | refine blk_alloc ?_ _)); exact BK307.out)) : gb307 ≠ gb308)); have n6_ := Aside0.mk ((by rw [hg]; exact Nat.ne_of_gt (blk_lt (g := gb307) (o := .cells #[.int .i64 a0_0, .int .i64 a0_1, .int .i64 a0_2, .int .i64 a0_3, .slice A0_4 l0_4.length c0_4] 49 (0, 0)) (by (with_reducible repeat (first | refine blk_drewN ?_ _ | refine blk_drew ?_ | refine blk_alloc ?_ _)); exact BK307.out)) : gb308 ≠ gb307)); clear BK307; clear HB; have BK307 := n0_; have HB := n1_; have BK308 := n2_; have GW308 := n3_; have GE308 := n4_; have NB307_308 := n5_; have NB308_307 := n6_; clear n0_ n1_ n2_ n3_ n4_ n5_ n6_; clear hb hbox hg; have hnb15 := NB307_308.out; have hnc15 := NB308_307.out; have hcz16_0 : w14.cell? ⟨gb307, 0, none⟩ = some (.int .i64 a0_0) := (blk_cell BK307.out 0).trans rfl; have hcz16_1 : w14.cell? ⟨gb307, 1, none⟩ = some (.int .i64 a0_1) := (blk_cell BK307.out 1).trans rfl; have hcz16_2 : w14.cell? ⟨gb307, 2, none⟩ = some (.int .i64 a0_2) := (blk_cell BK307.out 2).trans rfl; have hcz16_3 : w14.cell? ⟨gb307, 3, none⟩ = some (.int .i64 a0_3) := (blk_cell BK307.out 3).trans rfl; have hcz16_4 : w14.cell? ⟨gb307, 4, none⟩ = some (.slice A0_4 l0_4.length c0_4) := (blk_cell BK307.out 4).trans rfl; have hfz16_0 := blk_frozen BK307.out 0; have hfz16_1 := blk_frozen BK307.out 1; have hfz16_2 := blk_frozen BK307.out 2; have hfz16_3 := blk_frozen BK307.out 3; have hfz16_4 := blk_frozen BK307.out 4; have hcz17_0 : w14.cell? ⟨gb308, 0, none⟩ = some (.int .i64 a1_0) := (blk_cell BK308.out 0).trans rfl; have hcz17_1 : w14.cell? ⟨gb308, 1, none⟩ = some (.int .i64 a1_1) := (blk_cell BK308.out 1).trans rfl; have hcz17_2 : w14.cell? ⟨gb308, 2, none⟩ = some (.int .i64 a1_2) := (blk_cell BK308.out 2).trans rfl; have hcz17_3 : w14.cell? ⟨gb308, 3, none⟩ = some (.int .i64 a1_3) := (blk_cell BK308.out 3).trans rfl; have hcz17_4 : w14.cell? ⟨gb308, 4, none⟩ = some (.slice A1_4 l1_4.length c1_4) := (blk_cell BK308.out 4).trans rfl; have hfz17_0 := blk_frozen BK308.out 0; have hfz17_1 := blk_frozen BK308.out 1; have hfz17_2 := blk_frozen BK308.out 2; have hfz17_3 := blk_frozen BK308.out 3; have hfz17_4 := blk_frozen BK308.out 4))
          go_ret
          exact ⟨by first | rfl | (simp [errW_none, errW_some] <;> rfl) | (simp [*, errW_none, errW_some] <;> rfl), by repeat (first | (with_reducible first | exact HB.out | apply below_alloc | apply pw_below_drewN | apply below_drew1 | refine below_set ?_ GE307.out | refine below_set ?_ GE308.out) | exact HB.out)⟩
      · rw [if_neg c5] at H
        have c5b0 : (a0_2 == a1_2) = false := beq_eq_false_iff_ne.mpr c5
        have c5b1 : (a0_2 != a1_2) = true := bne_iff_ne.mpr c5
        obtain rfl := Option.some.inj H
        go_enter Try.func23, Try.ntmps23
        go_wp2_with (first | ((with_reducible refine gate_dst (N := 2) rfl ?_); refine box_event ?hg (N := 2) ?hd (cs := #[.int .i64 a0_0, .int .i64 a0_1, .int .i64 a0_2, .int .i64 a0_3, .slice A0_4 l0_4.length c0_4]) (t := 49) ?hr ?_; (case hd => rfl); (case hg => rfl); (case hr => first | (go_simp; done) | (go_simp; rfl)); intro gb307 hg w18 hbox hb; have n0_ := Aside0.mk (below_step (by repeat (first | (with_reducible first | exact HB.out | apply below_alloc | apply pw_below_drewN | apply below_drew1) | exact HB.out)) hb); have n1_ := Aside0.mk (hbox); have n2_ := Aside0.mk ((by rw [hg]; exact (below_size (by repeat (first | (with_reducible first | exact HB.out | apply below_alloc | apply pw_below_drewN | apply below_drew1) | exact HB.out))) : w.heap.size ≤ gb307)); have n3_ := Aside0.mk ((by rw [hg]; exact (below_size (by repeat (first | (with_reducible first | exact HB.out | apply below_alloc | apply pw_below_drewN | apply below_drew1) | exact HB.out))) : w.heap.size ≤ gb307)); clear HB; have HB := n0_; have BK307 := n1_; have GW307 := n2_; have GE307 := n3_; clear n0_ n1_ n2_ n3_; clear hb hbox hg) | ((with_reducible refine gate_dst (N := 3) rfl ?_); refine box_event ?hg (N := 3) ?hd (cs := #[.int .i64 a1_0, .int .i64 a1_1, .int .i64 a1_2, .int .i64 a1_3, .slice A1_4 l1_4.length c1_4]) (t := 49) ?hr ?_; (case hd => rfl); (case hg => rfl); (case hr => first | (go_simp; done) | (go_simp; rfl)); intro gb308 hg w19 hbox hb; have n0_ := Aside0.mk (blk_below (g := gb307) (o := .cells #[.int .i64 a0_0, .int .i64 a0_1, .int .i64 a0_2, .int .i64 a0_3, .slice A0_4 l0_4.length c0_4] 49 (0, 0)) (by (with_reducible repeat (first | refine blk_drewN ?_ _ | refine blk_drew ?_ | refine blk_alloc ?_ _)); exact BK307.out) hb); have n1_ := Aside0.mk (below_step (by repeat (first | (with_reducible first | exact HB.out | apply below_alloc | apply pw_below_drewN | apply below_drew1 | refine below_set ?_ GE307.out) | exact HB.out)) hb); have n2_ := Aside0.mk (hbox); have n3_ := Aside0.mk ((by rw [hg]; exact (below_size (by repeat (first | (with_reducible first | exact HB.out | apply below_alloc | apply pw_below_drewN | apply below_drew1 | refine below_set ?_ GE307.out) | exact HB.out))) : w.heap.size ≤ gb308)); have n4_ := Aside0.mk ((by rw [hg]; exact (below_size (by repeat (first | (with_reducible first | exact HB.out | apply below_alloc | apply pw_below_drewN | apply below_drew1 | refine below_set ?_ GE307.out) | exact HB.out))) : w.heap.size ≤ gb308)); have n5_ := Aside0.mk ((by rw [hg]; exact Nat.ne_of_lt (blk_lt (g := gb307) (o := .cells #[.int .i64 a0_0, .int .i64 a0_1, .int .i64 a0_2, .int .i64 a0_3, .slice A0_4 l0_4.length c0_4] 49 (0, 0)) (by (with_reducible repeat (first | refine blk_drewN ?_ _ | refine blk_drew ?_ | refine blk_alloc ?_ _)); exact BK307.out)) : gb307 ≠ gb308)); have n6_ := Aside0.mk ((by rw [hg]; exact Nat.ne_of_gt (blk_lt (g := gb307) (o := .cells #[.int .i64 a0_0, .int .i64 a0_1, .int .i64 a0_2, .int .i64 a0_3, .slice A0_4 l0_4.length c0_4] 49 (0, 0)) (by (with_reducible repeat (first | refine blk_drewN ?_ _ | refine blk_drew ?_ | refine blk_alloc ?_ _)); exact BK307.out)) : gb308 ≠ gb307)); clear BK307; clear HB; have BK307 := n0_; have HB := n1_; have BK308 := n2_; have GW308 := n3_; have GE308 := n4_; have NB307_308 := n5_; have NB308_307 := n6_; clear n0_ n1_ n2_ n3_ n4_ n5_ n6_; clear hb hbox hg; have hnb20 := NB307_308.out; have hnc20 := NB308_307.out; have hcz21_0 : w19.cell? ⟨gb307, 0, none⟩ = some (.int .i64 a0_0) := (blk_cell BK307.out 0).trans rfl; have hcz21_1 : w19.cell? ⟨gb307, 1, none⟩ = some (.int .i64 a0_1) := (blk_cell BK307.out 1).trans rfl; have hcz21_2 : w19.cell? ⟨gb307, 2, none⟩ = some (.int .i64 a0_2) := (blk_cell BK307.out 2).trans rfl; have hcz21_3 : w19.cell? ⟨gb307, 3, none⟩ = some (.int .i64 a0_3) := (blk_cell BK307.out 3).trans rfl; have hcz21_4 : w19.cell? ⟨gb307, 4, none⟩ = some (.slice A0_4 l0_4.length c0_4) := (blk_cell BK307.out 4).trans rfl; have hfz21_0 := blk_frozen BK307.out 0; have hfz21_1 := blk_frozen BK307.out 1; have hfz21_2 := blk_frozen BK307.out 2; have hfz21_3 := blk_frozen BK307.out 3; have hfz21_4 := blk_frozen BK307.out 4; have hcz22_0 : w19.cell? ⟨gb308, 0, none⟩ = some (.int .i64 a1_0) := (blk_cell BK308.out 0).trans rfl; have hcz22_1 : w19.cell? ⟨gb308, 1, none⟩ = some (.int .i64 a1_1) := (blk_cell BK308.out 1).trans rfl; have hcz22_2 : w19.cell? ⟨gb308, 2, none⟩ = some (.int .i64 a1_2) := (blk_cell BK308.out 2).trans rfl; have hcz22_3 : w19.cell? ⟨gb308, 3, none⟩ = some (.int .i64 a1_3) := (blk_cell BK308.out 3).trans rfl; have hcz22_4 : w19.cell? ⟨gb308, 4, none⟩ = some (.slice A1_4 l1_4.length c1_4) := (blk_cell BK308.out 4).trans rfl; have hfz22_0 := blk_frozen BK308.out 0; have hfz22_1 := blk_frozen BK308.out 1; have hfz22_2 := blk_frozen BK308.out 2; have hfz22_3 := blk_frozen BK308.out 3; have hfz22_4 := blk_frozen BK308.out 4))
        go_ret
        exact ⟨by first | rfl | (simp [errW_none, errW_some] <;> rfl) | (simp [*, errW_none, errW_some] <;> rfl), by repeat (first | (with_reducible first | exact HB.out | apply below_alloc | apply pw_below_drewN | apply below_drew1 | refine below_set ?_ GE307.out | refine below_set ?_ GE308.out) | exact HB.out)⟩
    · rw [if_neg c4] at H
      have c4b0 : (a0_1 == a1_1) = false := beq_eq_false_iff_ne.mpr c4
      have c4b1 : (a0_1 != a1_1) = true := bne_iff_ne.mpr c4
      obtain rfl := Option.some.inj H
      go_enter Try.func23, Try.ntmps23
      go_wp2_with (first | ((with_reducible refine gate_dst (N := 2) rfl ?_); refine box_event ?hg (N := 2) ?hd (cs := #[.int .i64 a0_0, .int .i64 a0_1, .int .i64 a0_2, .int .i64 a0_3, .slice A0_4 l0_4.length c0_4]) (t := 49) ?hr ?_; (case hd => rfl); (case hg => rfl); (case hr => first | (go_simp; done) | (go_simp; rfl)); intro gb307 hg w23 hbox hb; have n0_ := Aside0.mk (below_step (by repeat (first | (with_reducible first | exact HB.out | apply below_alloc | apply pw_below_drewN | apply below_drew1) | exact HB.out)) hb); have n1_ := Aside0.mk (hbox); have n2_ := Aside0.mk ((by rw [hg]; exact (below_size (by repeat (first | (with_reducible first | exact HB.out | apply below_alloc | apply pw_below_drewN | apply below_drew1) | exact HB.out))) : w.heap.size ≤ gb307)); have n3_ := Aside0.mk ((by rw [hg]; exact (below_size (by repeat (first | (with_reducible first | exact HB.out | apply below_alloc | apply pw_below_drewN | apply below_drew1) | exact HB.out))) : w.heap.size ≤ gb307)); clear HB; have HB := n0_; have BK307 := n1_; have GW307 := n2_; have GE307 := n3_; clear n0_ n1_ n2_ n3_; clear hb hbox hg) | ((with_reducible refine gate_dst (N := 3) rfl ?_); refine box_event ?hg (N := 3) ?hd (cs := #[.int .i64 a1_0, .int .i64 a1_1, .int .i64 a1_2, .int .i64 a1_3, .slice A1_4 l1_4.length c1_4]) (t := 49) ?hr ?_; (case hd => rfl); (case hg => rfl); (case hr => first | (go_simp; done) | (go_simp; rfl)); intro gb308 hg w24 hbox hb; have n0_ := Aside0.mk (blk_below (g := gb307) (o := .cells #[.int .i64 a0_0, .int .i64 a0_1, .int .i64 a0_2, .int .i64 a0_3, .slice A0_4 l0_4.length c0_4] 49 (0, 0)) (by (with_reducible repeat (first | refine blk_drewN ?_ _ | refine blk_drew ?_ | refine blk_alloc ?_ _)); exact BK307.out) hb); have n1_ := Aside0.mk (below_step (by repeat (first | (with_reducible first | exact HB.out | apply below_alloc | apply pw_below_drewN | apply below_drew1 | refine below_set ?_ GE307.out) | exact HB.out)) hb); have n2_ := Aside0.mk (hbox); have n3_ := Aside0.mk ((by rw [hg]; exact (below_size (by repeat (first | (with_reducible first | exact HB.out | apply below_alloc | apply pw_below_drewN | apply below_drew1 | refine below_set ?_ GE307.out) | exact HB.out))) : w.heap.size ≤ gb308)); have n4_ := Aside0.mk ((by rw [hg]; exact (below_size (by repeat (first | (with_reducible first | exact HB.out | apply below_alloc | apply pw_below_drewN | apply below_drew1 | refine below_set ?_ GE307.out) | exact HB.out))) : w.heap.size ≤ gb308)); have n5_ := Aside0.mk ((by rw [hg]; exact Nat.ne_of_lt (blk_lt (g := gb307) (o := .cells #[.int .i64 a0_0, .int .i64 a0_1, .int .i64 a0_2, .int .i64 a0_3, .slice A0_4 l0_4.length c0_4] 49 (0, 0)) (by (with_reducible repeat (first | refine blk_drewN ?_ _ | refine blk_drew ?_ | refine blk_alloc ?_ _)); exact BK307.out)) : gb307 ≠ gb308)); have n6_ := Aside0.mk ((by rw [hg]; exact Nat.ne_of_gt (blk_lt (g := gb307) (o := .cells #[.int .i64 a0_0, .int .i64 a0_1, .int .i64 a0_2, .int .i64 a0_3, .slice A0_4 l0_4.length c0_4] 49 (0, 0)) (by (with_reducible repeat (first | refine blk_drewN ?_ _ | refine blk_drew ?_ | refine blk_alloc ?_ _)); exact BK307.out)) : gb308 ≠ gb307)); clear BK307; clear HB; have BK307 := n0_; have HB := n1_; have BK308 := n2_; have GW308 := n3_; have GE308 := n4_; have NB307_308 := n5_; have NB308_307 := n6_; clear n0_ n1_ n2_ n3_ n4_ n5_ n6_; clear hb hbox hg; have hnb25 := NB307_308.out; have hnc25 := NB308_307.out; have hcz26_0 : w24.cell? ⟨gb307, 0, none⟩ = some (.int .i64 a0_0) := (blk_cell BK307.out 0).trans rfl; have hcz26_1 : w24.cell? ⟨gb307, 1, none⟩ = some (.int .i64 a0_1) := (blk_cell BK307.out 1).trans rfl; have hcz26_2 : w24.cell? ⟨gb307, 2, none⟩ = some (.int .i64 a0_2) := (blk_cell BK307.out 2).trans rfl; have hcz26_3 : w24.cell? ⟨gb307, 3, none⟩ = some (.int .i64 a0_3) := (blk_cell BK307.out 3).trans rfl; have hcz26_4 : w24.cell? ⟨gb307, 4, none⟩ = some (.slice A0_4 l0_4.length c0_4) := (blk_cell BK307.out 4).trans rfl; have hfz26_0 := blk_frozen BK307.out 0; have hfz26_1 := blk_frozen BK307.out 1; have hfz26_2 := blk_frozen BK307.out 2; have hfz26_3 := blk_frozen BK307.out 3; have hfz26_4 := blk_frozen BK307.out 4; have hcz27_0 : w24.cell? ⟨gb308, 0, none⟩ = some (.int .i64 a1_0) := (blk_cell BK308.out 0).trans rfl; have hcz27_1 : w24.cell? ⟨gb308, 1, none⟩ = some (.int .i64 a1_1) := (blk_cell BK308.out 1).trans rfl; have hcz27_2 : w24.cell? ⟨gb308, 2, none⟩ = some (.int .i64 a1_2) := (blk_cell BK308.out 2).trans rfl; have hcz27_3 : w24.cell? ⟨gb308, 3, none⟩ = some (.int .i64 a1_3) := (blk_cell BK308.out 3).trans rfl; have hcz27_4 : w24.cell? ⟨gb308, 4, none⟩ = some (.slice A1_4 l1_4.length c1_4) := (blk_cell BK308.out 4).trans rfl; have hfz27_0 := blk_frozen BK308.out 0; have hfz27_1 := blk_frozen BK308.out 1; have hfz27_2 := blk_frozen BK308.out 2; have hfz27_3 := blk_frozen BK308.out 3; have hfz27_4 := blk_frozen BK308.out 4))
      go_ret
      exact ⟨by first | rfl | (simp [errW_none, errW_some] <;> rfl) | (simp [*, errW_none, errW_some] <;> rfl), by repeat (first | (with_reducible first | exact HB.out | apply below_alloc | apply pw_below_drewN | apply below_drew1 | refine below_set ?_ GE307.out | refine below_set ?_ GE308.out) | exact HB.out)⟩
  · rw [if_neg c3] at H
    have c3b0 : (a0_0 == a1_0) = false := beq_eq_false_iff_ne.mpr c3
    have c3b1 : (a0_0 != a1_0) = true := bne_iff_ne.mpr c3
    obtain rfl := Option.some.inj H
    go_enter Try.func23, Try.ntmps23
    go_wp2_with (first | ((with_reducible refine gate_dst (N := 2) rfl ?_); refine box_event ?hg (N := 2) ?hd (cs := #[.int .i64 a0_0, .int .i64 a0_1, .int .i64 a0_2, .int .i64 a0_3, .slice A0_4 l0_4.length c0_4]) (t := 49) ?hr ?_; (case hd => rfl); (case hg => rfl); (case hr => first | (go_simp; done) | (go_simp; rfl)); intro gb307 hg w28 hbox hb; have n0_ := Aside0.mk (below_step (by repeat (first | (with_reducible first | exact HB.out | apply below_alloc | apply pw_below_drewN | apply below_drew1) | exact HB.out)) hb); have n1_ := Aside0.mk (hbox); have n2_ := Aside0.mk ((by rw [hg]; exact (below_size (by repeat (first | (with_reducible first | exact HB.out | apply below_alloc | apply pw_below_drewN | apply below_drew1) | exact HB.out))) : w.heap.size ≤ gb307)); have n3_ := Aside0.mk ((by rw [hg]; exact (below_size (by repeat (first | (with_reducible first | exact HB.out | apply below_alloc | apply pw_below_drewN | apply below_drew1) | exact HB.out))) : w.heap.size ≤ gb307)); clear HB; have HB := n0_; have BK307 := n1_; have GW307 := n2_; have GE307 := n3_; clear n0_ n1_ n2_ n3_; clear hb hbox hg) | ((with_reducible refine gate_dst (N := 3) rfl ?_); refine box_event ?hg (N := 3) ?hd (cs := #[.int .i64 a1_0, .int .i64 a1_1, .int .i64 a1_2, .int .i64 a1_3, .slice A1_4 l1_4.length c1_4]) (t := 49) ?hr ?_; (case hd => rfl); (case hg => rfl); (case hr => first | (go_simp; done) | (go_simp; rfl)); intro gb308 hg w29 hbox hb; have n0_ := Aside0.mk (blk_below (g := gb307) (o := .cells #[.int .i64 a0_0, .int .i64 a0_1, .int .i64 a0_2, .int .i64 a0_3, .slice A0_4 l0_4.length c0_4] 49 (0, 0)) (by (with_reducible repeat (first | refine blk_drewN ?_ _ | refine blk_drew ?_ | refine blk_alloc ?_ _)); exact BK307.out) hb); have n1_ := Aside0.mk (below_step (by repeat (first | (with_reducible first | exact HB.out | apply below_alloc | apply pw_below_drewN | apply below_drew1 | refine below_set ?_ GE307.out) | exact HB.out)) hb); have n2_ := Aside0.mk (hbox); have n3_ := Aside0.mk ((by rw [hg]; exact (below_size (by repeat (first | (with_reducible first | exact HB.out | apply below_alloc | apply pw_below_drewN | apply below_drew1 | refine below_set ?_ GE307.out) | exact HB.out))) : w.heap.size ≤ gb308)); have n4_ := Aside0.mk ((by rw [hg]; exact (below_size (by repeat (first | (with_reducible first | exact HB.out | apply below_alloc | apply pw_below_drewN | apply below_drew1 | refine below_set ?_ GE307.out) | exact HB.out))) : w.heap.size ≤ gb308)); have n5_ := Aside0.mk ((by rw [hg]; exact Nat.ne_of_lt (blk_lt (g := gb307) (o := .cells #[.int .i64 a0_0, .int .i64 a0_1, .int .i64 a0_2, .int .i64 a0_3, .slice A0_4 l0_4.length c0_4] 49 (0, 0)) (by (with_reducible repeat (first | refine blk_drewN ?_ _ | refine blk_drew ?_ | refine blk_alloc ?_ _)); exact BK307.out)) : gb307 ≠ gb308)); have n6_ := Aside0.mk ((by rw [hg]; exact Nat.ne_of_gt (blk_lt (g := gb307) (o := .cells #[.int .i64 a0_0, .int .i64 a0_1, .int .i64 a0_2, .int .i64 a0_3, .slice A0_4 l0_4.length c0_4] 49 (0, 0)) (by (with_reducible repeat (first | refine blk_drewN ?_ _ | refine blk_drew ?_ | refine blk_alloc ?_ _)); exact BK307.out)) : gb308 ≠ gb307)); clear BK307; clear HB; have BK307 := n0_; have HB := n1_; have BK308 := n2_; have GW308 := n3_; have GE308 := n4_; have NB307_308 := n5_; have NB308_307 := n6_; clear n0_ n1_ n2_ n3_ n4_ n5_ n6_; clear hb hbox hg; have hnb30 := NB307_308.out; have hnc30 := NB308_307.out; have hcz31_0 : w29.cell? ⟨gb307, 0, none⟩ = some (.int .i64 a0_0) := (blk_cell BK307.out 0).trans rfl; have hcz31_1 : w29.cell? ⟨gb307, 1, none⟩ = some (.int .i64 a0_1) := (blk_cell BK307.out 1).trans rfl; have hcz31_2 : w29.cell? ⟨gb307, 2, none⟩ = some (.int .i64 a0_2) := (blk_cell BK307.out 2).trans rfl; have hcz31_3 : w29.cell? ⟨gb307, 3, none⟩ = some (.int .i64 a0_3) := (blk_cell BK307.out 3).trans rfl; have hcz31_4 : w29.cell? ⟨gb307, 4, none⟩ = some (.slice A0_4 l0_4.length c0_4) := (blk_cell BK307.out 4).trans rfl; have hfz31_0 := blk_frozen BK307.out 0; have hfz31_1 := blk_frozen BK307.out 1; have hfz31_2 := blk_frozen BK307.out 2; have hfz31_3 := blk_frozen BK307.out 3; have hfz31_4 := blk_frozen BK307.out 4; have hcz32_0 : w29.cell? ⟨gb308, 0, none⟩ = some (.int .i64 a1_0) := (blk_cell BK308.out 0).trans rfl; have hcz32_1 : w29.cell? ⟨gb308, 1, none⟩ = some (.int .i64 a1_1) := (blk_cell BK308.out 1).trans rfl; have hcz32_2 : w29.cell? ⟨gb308, 2, none⟩ = some (.int .i64 a1_2) := (blk_cell BK308.out 2).trans rfl; have hcz32_3 : w29.cell? ⟨gb308, 3, none⟩ = some (.int .i64 a1_3) := (blk_cell BK308.out 3).trans rfl; have hcz32_4 : w29.cell? ⟨gb308, 4, none⟩ = some (.slice A1_4 l1_4.length c1_4) := (blk_cell BK308.out 4).trans rfl; have hfz32_0 := blk_frozen BK308.out 0; have hfz32_1 := blk_frozen BK308.out 1; have hfz32_2 := blk_frozen BK308.out 2; have hfz32_3 := blk_frozen BK308.out 3; have hfz32_4 := blk_frozen BK308.out 4))
    go_ret
    exact ⟨by first | rfl | (simp [errW_none, errW_some] <;> rfl) | (simp [*, errW_none, errW_some] <;> rfl), by repeat (first | (with_reducible first | exact HB.out | apply below_alloc | apply pw_below_drewN | apply below_drew1 | refine below_set ?_ GE307.out | refine below_set ?_ GE308.out) | exact HB.out)⟩

end Go.Proofs.Ytlmlkcobkmhmbaa.Q
end

section
-- written by hprint.py (a program of these sessions) out of the translation; Lean checks it
namespace Go.Proofs.Ytlmlkcobkmhmbaa.Q
open Go.RowKit Go.Proofs.YtlmlkcobkmhmbaaW.Hb Go.Proofs.YtlmlkcobkmhmbaaW.PrintWords Go.Proofs.YtlmlkcobkmhmbaaW.PrintLast Go.Proofs.YtlmlkcobkmhmbaaW.PrintMore
attribute [local go_sem] max2_int min2_int max_two min_two max_three min_three max_four min_four   -- for this text's walks alone
set_option linter.unusedVariables false
set_option linter.unusedSimpArgs false

/-! ### weighhouselaw17_MessageBack: function 7, by hand -/
def OkM (x0 x1 x2 x3 x4 x5 x6 : Int) (l : List S74) (more : Int) : Prop := ∀ b e, message_Put.f x0 x1 x2 x3 x4 x5 x6 l = some (b, e) → e = 0 → (message_Get.f b = some (x0, x1, x2, x3, x4, x5, x6, l, 0) ∧ message_Get.f (b ++ [more]) = some (0, 0, 0, 0, 0, 0, 0, [], 21) ∧ message_Get.f (b.take (b.length - 1)) = some (0, 0, 0, 0, 0, 0, 0, [], 21) ∧ 0 < b.length ∧ b.length ≤ 1048576)
def OkR (x0 x1 x2 x3 : Int) (l : List S74) (more : Int) : Prop := ∀ b e, message_PutRecord.f x0 x1 x2 x3 l = some (b, e) → e = 0 → (message_GetRecord.f b = some (x0, x1, x2, x3, l, 0) ∧ message_GetRecord.f (b ++ [more]) = some (0, 0, 0, 0, [], 21) ∧ message_GetRecord.f (b.take (b.length - 1)) = some (0, 0, 0, 0, [], 21) ∧ 0 < b.length ∧ b.length ≤ 1048576)
open Classical in
noncomputable def weighhouselaw17_MessageBack.f (k : Nat) (a0_0 a0_1 a0_2 a0_3 a0_4 a0_5 a0_6 : Int) (l0_7 : List S113) (a1_0 a1_1 a1_2 a1_3 : Int) (l1_4 : List S113) (a2 : Int) : Option Bool := (weighhouselaw17_Message.f k a0_0 a0_1 a0_2 a0_3 a0_4 a0_5 a0_6 l0_7).bind fun x => (weighhouselaw17_Record.f k a1_0 a1_1 a1_2 a1_3 l1_4).bind fun y => (weighhouselaw17_Same.f k x.1 x.2.1 x.2.2.1 x.2.2.2.1 x.2.2.2.2.1 x.2.2.2.2.2.1 x.2.2.2.2.2.2.1 x.2.2.2.2.2.2.2 x.1 x.2.1 x.2.2.1 x.2.2.2.1 x.2.2.2.2.1 x.2.2.2.2.2.1 x.2.2.2.2.2.2.1 x.2.2.2.2.2.2.2).bind fun s => (weighhouselaw17_SameRecord.f k y.1 y.2.1 y.2.2.1 y.2.2.2.1 y.2.2.2.2 y.1 y.2.1 y.2.2.1 y.2.2.2.1 y.2.2.2.2).bind fun t => if s = true ∧ t = true ∧ OkM x.1 x.2.1 x.2.2.1 x.2.2.2.1 x.2.2.2.2.1 x.2.2.2.2.2.1 x.2.2.2.2.2.2.1 x.2.2.2.2.2.2.2 a2 ∧ OkR y.1 y.2.1 y.2.2.1 y.2.2.2.1 y.2.2.2.2 a2 then some true else none
set_option maxRecDepth 100000 in
set_option maxHeartbeats 8000000 in
theorem weighhouselaw17_MessageBack.calls (k : Nat) (a0_0 a0_1 a0_2 a0_3 a0_4 a0_5 a0_6 : Int) (A0_7 : Option Addr) (c0_7 : Nat) (l0_7 : List S113) (a1_0 a1_1 a1_2 a1_3 : Int) (A1_4 : Option Addr) (c1_4 : Nat) (l1_4 : List S113) (a2 : Int) (r : Bool) (w : World) (hr0_7 : Kd.C k113 w A0_7 l0_7.length l0_7) (hc0_7 : l0_7.length ≤ c0_7) (hr1_4 : Kd.C k113 w A1_4 l1_4.length l1_4) (hc1_4 : l1_4.length ≤ c1_4) (h : weighhouselaw17_MessageBack.f k a0_0 a0_1 a0_2 a0_3 a0_4 a0_5 a0_6 l0_7 a1_0 a1_1 a1_2 a1_3 l1_4 a2 = some r) :
    Calls Try.prog 7 #[.agg #[.int .i64 a0_0, .int .i64 a0_1, .int .i64 a0_2, .int .i64 a0_3, .int .i64 a0_4, .int .i64 a0_5, .int .i64 a0_6, .slice A0_7 l0_7.length c0_7], .agg #[.int .i64 a1_0, .int .i64 a1_1, .int .i64 a1_2, .int .i64 a1_3, .slice A1_4 l1_4.length c1_4], .int .u8 a2] w fun e w' => e = .returned (.bool r) ∧ Below w.heap.size w w' := by
  unfold weighhouselaw17_MessageBack.f at h
  obtain ⟨⟨x0, x1, x2, x3, x4, x5, x6, xl⟩, hm, h⟩ := Option.bind_eq_some_iff.mp h
  obtain ⟨⟨y0, y1, y2, y3, yl⟩, hrr, h⟩ := Option.bind_eq_some_iff.mp h
  obtain ⟨s, hs, h⟩ := Option.bind_eq_some_iff.mp h
  obtain ⟨t, ht, h⟩ := Option.bind_eq_some_iff.mp h
  simp only at hs ht h
  split at h
  rotate_left
  · cases h
  rename_i hcond
  obtain rfl := Option.some.inj h
  obtain ⟨rfl, rfl, hokm, hokr⟩ := hcond
  have HM := Aside0.mk hm
  have HRR := Aside0.mk hrr
  have HS := Aside0.mk hs
  have HT := Aside0.mk ht
  have HOKM := Aside0.mk hokm
  have HOKR := Aside0.mk hokr
  have hm0 : l0_7.length ≤ 9223372036854775807 := hr0_7.2.1
  have hm1 : l1_4.length ≤ 9223372036854775807 := hr1_4.2.1
  have HB := Aside0.mk (((Below.refl w.heap.size w).alloc (Nat.le_refl _) (.cells #[.int .i64 a0_0, .int .i64 a0_1, .int .i64 a0_2, .int .i64 a0_3, .int .i64 a0_4, .int .i64 a0_5, .int .i64 a0_6, .slice A0_7 l0_7.length c0_7] 34)).alloc (by simp) (.cells #[.int .i64 a1_0, .int .i64 a1_1, .int .i64 a1_2, .int .i64 a1_3, .slice A1_4 l1_4.length c1_4] 46))
  have CM := Aside0.mk (Kd.C_alloc (Kd.C_alloc hr0_7 (.cells #[.int .i64 a0_0, .int .i64 a0_1, .int .i64 a0_2, .int .i64 a0_3, .int .i64 a0_4, .int .i64 a0_5, .int .i64 a0_6, .slice A0_7 l0_7.length c0_7] 34)) (.cells #[.int .i64 a1_0, .int .i64 a1_1, .int .i64 a1_2, .int .i64 a1_3, .slice A1_4 l1_4.length c1_4] 46))
  have CR := Aside0.mk (Kd.C_alloc (Kd.C_alloc hr1_4 (.cells #[.int .i64 a0_0, .int .i64 a0_1, .int .i64 a0_2, .int .i64 a0_3, .int .i64 a0_4, .int .i64 a0_5, .int .i64 a0_6, .slice A0_7 l0_7.length c0_7] 34)) (.cells #[.int .i64 a1_0, .int .i64 a1_1, .int .i64 a1_2, .int .i64 a1_3, .slice A1_4 l1_4.length c1_4] 46))
  have BM := Aside0.mk ((Blk.new w 34 #[.int .i64 a0_0, .int .i64 a0_1, .int .i64 a0_2, .int .i64 a0_3, .int .i64 a0_4, .int .i64 a0_5, .int .i64 a0_6, .slice A0_7 l0_7.length c0_7]).alloc (.cells #[.int .i64 a1_0, .int .i64 a1_1, .int .i64 a1_2, .int .i64 a1_3, .slice A1_4 l1_4.length c1_4] 46))
  have hBR := Blk.new (w.alloc (.cells #[.int .i64 a0_0, .int .i64 a0_1, .int .i64 a0_2, .int .i64 a0_3, .int .i64 a0_4, .int .i64 a0_5, .int .i64 a0_6, .slice A0_7 l0_7.length c0_7] 34)) 46 #[.int .i64 a1_0, .int .i64 a1_1, .int .i64 a1_2, .int .i64 a1_3, .slice A1_4 l1_4.length c1_4]
  rw [show (w.alloc (.cells #[.int .i64 a0_0, .int .i64 a0_1, .int .i64 a0_2, .int .i64 a0_3, .int .i64 a0_4, .int .i64 a0_5, .int .i64 a0_6, .slice A0_7 l0_7.length c0_7] 34)).heap.size = w.heap.size + 1 from by simp] at hBR
  have BR := Aside0.mk (hBR)
  clear hm hrr hs ht h hokm hokr hr0_7 hr1_4 hBR
  go_enter Try.func7, Try.ntmps7
  go_wp2_with (fail)
  with_reducible refine (weighhouselaw17_Message.calls k a0_0 a0_1 a0_2 a0_3 a0_4 a0_5 a0_6 A0_7 c0_7 l0_7 x0 x1 x2 x3 x4 x5 x6 xl _ CM.out hc0_7 HM.out).mono ?_
  rintro en w3 ⟨v3, rfl, hR3, hb⟩
  replace HB := Aside0.mk (HB.out.trans ((hb).mono HB.out.size))
  replace CM := Aside0.mk (Kd.C_below CM.out hb)
  replace CR := Aside0.mk (Kd.C_below CR.out hb)
  replace BM := Aside0.mk (BM.out.after hb)
  replace BR := Aside0.mk (BR.out.after hb)
  obtain ⟨A3, c3, rfl, hc3, hC3⟩ := Kd.R_reads hR3
  have CX := Aside0.mk (hC3)
  clear hR3 hC3 hb
  go_wp2_with (fail)
  obtain ⟨⟨b, e⟩, hput⟩ : ∃ p, message_Put.f x0 x1 x2 x3 x4 x5 x6 xl = some p := ⟨_, rfl⟩
  have HPUT := Aside0.mk hput
  clear hput
  with_reducible refine (message_Put.calls x0 x1 x2 x3 x4 x5 x6 A3 c3 xl b e _ CX.out hc3 HPUT.out).mono ?_
  rintro en w4 ⟨v4, rfl, hR4, hb⟩
  replace HB := Aside0.mk (HB.out.trans ((hb).mono HB.out.size))
  replace CM := Aside0.mk (Kd.C_below CM.out hb)
  replace CR := Aside0.mk (Kd.C_below CR.out hb)
  replace BM := Aside0.mk (BM.out.after hb)
  replace BR := Aside0.mk (BR.out.after hb)
  replace CX := Aside0.mk (Kd.C_below CX.out hb)
  obtain ⟨A4, c4, rfl, hc4, hC4⟩ := Kd.R_reads hR4
  have hmb : b.length ≤ 9223372036854775807 := hC4.2.1
  have CB := Aside0.mk (hC4)
  clear hR4 hC4 hb
  go_wp2_with (fail)
  with_reducible refine (weighhouselaw17_num.calls e e _ rfl).mono ?_
  rintro en w5 ⟨rfl, hd⟩
  replace HB := Aside0.mk (HB.out.trans ((hd.below).mono HB.out.size))
  replace CM := Aside0.mk (Kd.C_below CM.out hd.below)
  replace CR := Aside0.mk (Kd.C_below CR.out hd.below)
  replace BM := Aside0.mk (BM.out.after hd.below)
  replace BR := Aside0.mk (BR.out.after hd.below)
  replace CX := Aside0.mk (Kd.C_below CX.out hd.below)
  replace CB := Aside0.mk (Kd.C_below CB.out hd.below)
  clear hd
  by_cases he : e = 0
  · subst he
    obtain ⟨g1, g2, g3, g4, g5⟩ := HOKM.out b 0 HPUT.out rfl
    have HG1 := Aside0.mk g1
    have HG2 := Aside0.mk g2
    have HG3 := Aside0.mk g3
    have hpos : 0 < (b.length : Int) := by omega
    clear g1 g2 g3
    have hsub : wrap64 ((b.length : Int) - 1) = (b.length : Int) - 1 := wrapI (by omega) (by omega)
    obtain ⟨ii, hii, his⟩ : ∃ ii, Try.prog.info? 5 = some ii ∧ ii.size = 1 := by
      obtain ⟨ii, h1, h2⟩ := Option.map_eq_some_iff.1 info5
      exact ⟨ii, h1, congrArg (fun p => p.2.1) h2⟩
    obtain ⟨ys, hys⟩ : ∃ ys, ys = b.take (b.length - 1) := ⟨_, rfl⟩
    obtain ⟨hcut, hyc, hCy⟩ := ct_to (P := Try.prog) 35 5 Try.underlying35 hii A4 c4 b ((b.length : Int) - 1) (by omega) (by omega) hc4 ys (by rw [hys]; congr 1; omega)
    rw [← hys] at HG3
    have HCY := Aside0.mk hCy
    clear hys hii his hCy
    go_wp2_with (fail)
    with_reducible refine (message_Get.calls A4 c4 b x0 x1 x2 x3 x4 x5 x6 xl 0 _ CB.out hc4 HG1.out).mono ?_
    rintro en w6 ⟨v6, rfl, hR6, hb⟩
    replace HB := Aside0.mk (HB.out.trans ((hb).mono HB.out.size))
    replace CM := Aside0.mk (Kd.C_below CM.out hb)
    replace CR := Aside0.mk (Kd.C_below CR.out hb)
    replace BM := Aside0.mk (BM.out.after hb)
    replace BR := Aside0.mk (BR.out.after hb)
    replace CX := Aside0.mk (Kd.C_below CX.out hb)
    replace CB := Aside0.mk (Kd.C_below CB.out hb)
    obtain ⟨A6, c6, rfl, hc6, hC6⟩ := Kd.R_reads hR6
    have CG := Aside0.mk (hC6)
    clear hR6 hC6 hb
    go_upto_region 4 with (fail)
    replace HB := Aside0.mk (HB.out.alloc HB.out.size (.cells #[.int .i64 x0, .int .i64 x1, .int .i64 x2, .int .i64 x3, .int .i64 x4, .int .i64 x5, .int .i64 x6, .slice A6 xl.length c6] 40))
    replace CM := Aside0.mk (Kd.C_alloc CM.out (.cells #[.int .i64 x0, .int .i64 x1, .int .i64 x2, .int .i64 x3, .int .i64 x4, .int .i64 x5, .int .i64 x6, .slice A6 xl.length c6] 40))
    replace CR := Aside0.mk (Kd.C_alloc CR.out (.cells #[.int .i64 x0, .int .i64 x1, .int .i64 x2, .int .i64 x3, .int .i64 x4, .int .i64 x5, .int .i64 x6, .slice A6 xl.length c6] 40))
    replace BM := Aside0.mk (BM.out.alloc (.cells #[.int .i64 x0, .int .i64 x1, .int .i64 x2, .int .i64 x3, .int .i64 x4, .int .i64 x5, .int .i64 x6, .slice A6 xl.length c6] 40))
    replace BR := Aside0.mk (BR.out.alloc (.cells #[.int .i64 x0, .int .i64 x1, .int .i64 x2, .int .i64 x3, .int .i64 x4, .int .i64 x5, .int .i64 x6, .slice A6 xl.length c6] 40))
    replace CX := Aside0.mk (Kd.C_alloc CX.out (.cells #[.int .i64 x0, .int .i64 x1, .int .i64 x2, .int .i64 x3, .int .i64 x4, .int .i64 x5, .int .i64 x6, .slice A6 xl.length c6] 40))
    replace CB := Aside0.mk (Kd.C_alloc CB.out (.cells #[.int .i64 x0, .int .i64 x1, .int .i64 x2, .int .i64 x3, .int .i64 x4, .int .i64 x5, .int .i64 x6, .slice A6 xl.length c6] 40))
    replace CG := Aside0.mk (Kd.C_alloc CG.out (.cells #[.int .i64 x0, .int .i64 x1, .int .i64 x2, .int .i64 x3, .int .i64 x4, .int .i64 x5, .int .i64 x6, .slice A6 xl.length c6] 40))
    have BX := Aside0.mk (Blk.new w6 40 #[.int .i64 x0, .int .i64 x1, .int .i64 x2, .int .i64 x3, .int .i64 x4, .int .i64 x5, .int .i64 x6, .slice A6 xl.length c6])
    generalize w6.alloc (.cells #[.int .i64 x0, .int .i64 x1, .int .i64 x2, .int .i64 x3, .int .i64 x4, .int .i64 x5, .int .i64 x6, .slice A6 xl.length c6] 40) = w7 at HB CM CR BM BR CX CB CG BX ⊢
    generalize w6.heap.size = xb at BX ⊢
    have HO := Aside0.mk (show (Kd.int .u8).R 5 (w7.alloc (.cells #[] 5)) w7.heap.size (fun _ => True) (.slice (some ⟨w7.heap.size, 0, none⟩) 0 0) [] from Kd.R_of_own (own_lit w7 w7.heap.size 5 .u8 [] (Nat.le_refl _) (by simp)) (fun _ _ => trivial))
    have HA := Aside0.mk ((Below.refl w7.heap.size w7).alloc (Nat.le_refl _) (.cells #[] 5))
    have HL := Aside0.mk (show (([] : List Int).length + b.length) * 1 ≤ 140737488355328 by simp only [List.length_nil]; omega)
    have HCA := Aside0.mk (Kd.C_alloc CB.out (.cells #[] 5))
    obtain ⟨bm, hbm⟩ : ∃ bm, b ++ [a2] = bm := ⟨_, rfl⟩
    rw [hbm] at HG2
    have HBM := Aside0.mk hbm
    have HL2 := Aside0.mk (show (b.length + ([a2] : List Int).length) * 1 ≤ 140737488355328 by simp only [List.length_singleton]; omega)
    clear hbm
    go_wp2_with (first | ((with_reducible refine gate_builtin (b := .append) (xs := #[.tmp 42, .tmp 43]) rfl ?_); at_builtin; refine Kd.R_append_rows (Kd.int .u8) (w0 := w7) (Rr := (Kd.int .u8).K (w7.alloc (.cells #[] 5))) w7.heap.size rfl (.tmp 42) (.tmp 43) 35 5 (.int .u8 0) 1 rfl Try.underlying35 info5 rfl (by decide) (by omega) (.slice (some ⟨w7.heap.size, 0, none⟩) 0 0) [] b A4 b.length c4 (fun _ => True) (fun _ => False) rfl rfl HO.out HCA.out (fun x cs hK => hK) (fun _ hk => hk.elim) (fun _ _ => trivial) HA.out HA.out.size HL.out ?_; intro v8 w8 hR8 hB8 _ _; rw [List.nil_append] at hR8; have HB9 := Aside0.mk (hB8.alloc hB8.size (.cells #[.int .u8 a2] 5)); have HO9 := Aside0.mk (Kd.R_alloc hR8 (.cells #[.int .u8 a2] 5)); have HC9 := Aside0.mk (C_lit_int w8 w8.heap.size rfl .u8 [a2] #[.int .u8 a2] rfl 5 (by simp)); clear hR8 hB8) | ((with_reducible refine gate_builtin (b := .append) (xs := #[.tmp 44, .tmp 46]) rfl ?_); at_builtin; refine Kd.R_append_rows (Kd.int .u8) (w0 := w7) (Rr := (Kd.int .u8).K (w8.alloc (.cells #[.int .u8 a2] 5))) w7.heap.size rfl (.tmp 44) (.tmp 46) 35 5 (.int .u8 0) 1 rfl Try.underlying35 info5 rfl (by decide) (by omega) v8 b [a2] (some ⟨w8.heap.size, 0, none⟩) 1 1 (fun _ => True) (fun _ => False) rfl rfl HO9.out HC9.out (fun x cs hK => hK) (fun _ hk => hk.elim) (fun _ _ => trivial) HB9.out HB9.out.size HL2.out ?_; intro v9 w9 hR9 hB9 _ _; rw [HBM.out] at hR9; obtain ⟨A9, c9, rfl, hc9, hC9⟩ := Kd.R_reads hR9; have HB10 := Aside0.mk hB9; have HC10 := Aside0.mk hC9; clear hR9 hB9 hC9))
    replace HB := Aside0.mk (HB.out.trans ((HB10.out).mono HB.out.size))
    replace CM := Aside0.mk (Kd.C_below CM.out HB10.out)
    replace CR := Aside0.mk (Kd.C_below CR.out HB10.out)
    replace BM := Aside0.mk (BM.out.after HB10.out)
    replace BR := Aside0.mk (BR.out.after HB10.out)
    replace CX := Aside0.mk (Kd.C_below CX.out HB10.out)
    replace CB := Aside0.mk (Kd.C_below CB.out HB10.out)
    replace CG := Aside0.mk (Kd.C_below CG.out HB10.out)
    replace BX := Aside0.mk (BX.out.after HB10.out)
    clear HO HA HL HCA HBM HL2 HB9 HO9 HC9 HB10
    with_reducible refine (message_Get.calls A9 c9 bm 0 0 0 0 0 0 0 [] 21 _ HC10.out hc9 HG2.out).mono ?_
    rintro en w11 ⟨v11, rfl, hR11, hb⟩
    replace HB := Aside0.mk (HB.out.trans ((hb).mono HB.out.size))
    replace CM := Aside0.mk (Kd.C_below CM.out hb)
    replace CR := Aside0.mk (Kd.C_below CR.out hb)
    replace BM := Aside0.mk (BM.out.after hb)
    replace BR := Aside0.mk (BR.out.after hb)
    replace CX := Aside0.mk (Kd.C_below CX.out hb)
    replace CB := Aside0.mk (Kd.C_below CB.out hb)
    replace CG := Aside0.mk (Kd.C_below CG.out hb)
    replace BX := Aside0.mk (BX.out.after hb)
    obtain ⟨A11, c11, rfl, hc11, _⟩ := Kd.R_reads hR11
    clear hR11 hb HC10
    go_upto_region 5 with (fail)
    replace HB := Aside0.mk (HB.out.alloc HB.out.size (.cells #[.int .i64 0, .int .i64 0, .int .i64 0, .int .i64 0, .int .i64 0, .int .i64 0, .int .i64 0, .slice A11 0 c11] 40))
    replace CM := Aside0.mk (Kd.C_alloc CM.out (.cells #[.int .i64 0, .int .i64 0, .int .i64 0, .int .i64 0, .int .i64 0, .int .i64 0, .int .i64 0, .slice A11 0 c11] 40))
    replace CR := Aside0.mk (Kd.C_alloc CR.out (.cells #[.int .i64 0, .int .i64 0, .int .i64 0, .int .i64 0, .int .i64 0, .int .i64 0, .int .i64 0, .slice A11 0 c11] 40))
    replace BM := Aside0.mk (BM.out.alloc (.cells #[.int .i64 0, .int .i64 0, .int .i64 0, .int .i64 0, .int .i64 0, .int .i64 0, .int .i64 0, .slice A11 0 c11] 40))
    replace BR := Aside0.mk (BR.out.alloc (.cells #[.int .i64 0, .int .i64 0, .int .i64 0, .int .i64 0, .int .i64 0, .int .i64 0, .int .i64 0, .slice A11 0 c11] 40))
    replace CX := Aside0.mk (Kd.C_alloc CX.out (.cells #[.int .i64 0, .int .i64 0, .int .i64 0, .int .i64 0, .int .i64 0, .int .i64 0, .int .i64 0, .slice A11 0 c11] 40))
    replace CB := Aside0.mk (Kd.C_alloc CB.out (.cells #[.int .i64 0, .int .i64 0, .int .i64 0, .int .i64 0, .int .i64 0, .int .i64 0, .int .i64 0, .slice A11 0 c11] 40))
    replace CG := Aside0.mk (Kd.C_alloc CG.out (.cells #[.int .i64 0, .int .i64 0, .int .i64 0, .int .i64 0, .int .i64 0, .int .i64 0, .int .i64 0, .slice A11 0 c11] 40))
    replace BX := Aside0.mk (BX.out.alloc (.cells #[.int .i64 0, .int .i64 0, .int .i64 0, .int .i64 0, .int .i64 0, .int .i64 0, .int .i64 0, .slice A11 0 c11] 40))
    generalize w11.alloc (.cells #[.int .i64 0, .int .i64 0, .int .i64 0, .int .i64 0, .int .i64 0, .int .i64 0, .int .i64 0, .slice A11 0 c11] 40) = w12 at HB CM CR BM BR CX CB CG BX ⊢
    generalize w11.heap.size = zb1
    go_wp2_with (fail)
    with_reducible refine (message_Get.calls A4 c4 ys 0 0 0 0 0 0 0 [] 21 _ (HCY.out _ .u8 CB.out) hyc HG3.out).mono ?_
    rintro en w13 ⟨v13, rfl, hR13, hb⟩
    replace HB := Aside0.mk (HB.out.trans ((hb).mono HB.out.size))
    replace CM := Aside0.mk (Kd.C_below CM.out hb)
    replace CR := Aside0.mk (Kd.C_below CR.out hb)
    replace BM := Aside0.mk (BM.out.after hb)
    replace BR := Aside0.mk (BR.out.after hb)
    replace CX := Aside0.mk (Kd.C_below CX.out hb)
    replace CB := Aside0.mk (Kd.C_below CB.out hb)
    replace CG := Aside0.mk (Kd.C_below CG.out hb)
    replace BX := Aside0.mk (BX.out.after hb)
    obtain ⟨A13, c13, rfl, hc13, _⟩ := Kd.R_reads hR13
    clear hR13 hb hcut HCY HG1 HG2 HG3 hsub
    go_upto_region 6 with (fail)
    replace HB := Aside0.mk (HB.out.alloc HB.out.size (.cells #[.int .i64 0, .int .i64 0, .int .i64 0, .int .i64 0, .int .i64 0, .int .i64 0, .int .i64 0, .slice A13 0 c13] 40))
    replace CM := Aside0.mk (Kd.C_alloc CM.out (.cells #[.int .i64 0, .int .i64 0, .int .i64 0, .int .i64 0, .int .i64 0, .int .i64 0, .int .i64 0, .slice A13 0 c13] 40))
    replace CR := Aside0.mk (Kd.C_alloc CR.out (.cells #[.int .i64 0, .int .i64 0, .int .i64 0, .int .i64 0, .int .i64 0, .int .i64 0, .int .i64 0, .slice A13 0 c13] 40))
    replace BM := Aside0.mk (BM.out.alloc (.cells #[.int .i64 0, .int .i64 0, .int .i64 0, .int .i64 0, .int .i64 0, .int .i64 0, .int .i64 0, .slice A13 0 c13] 40))
    replace BR := Aside0.mk (BR.out.alloc (.cells #[.int .i64 0, .int .i64 0, .int .i64 0, .int .i64 0, .int .i64 0, .int .i64 0, .int .i64 0, .slice A13 0 c13] 40))
    replace CX := Aside0.mk (Kd.C_alloc CX.out (.cells #[.int .i64 0, .int .i64 0, .int .i64 0, .int .i64 0, .int .i64 0, .int .i64 0, .int .i64 0, .slice A13 0 c13] 40))
    replace CB := Aside0.mk (Kd.C_alloc CB.out (.cells #[.int .i64 0, .int .i64 0, .int .i64 0, .int .i64 0, .int .i64 0, .int .i64 0, .int .i64 0, .slice A13 0 c13] 40))
    replace CG := Aside0.mk (Kd.C_alloc CG.out (.cells #[.int .i64 0, .int .i64 0, .int .i64 0, .int .i64 0, .int .i64 0, .int .i64 0, .int .i64 0, .slice A13 0 c13] 40))
    replace BX := Aside0.mk (BX.out.alloc (.cells #[.int .i64 0, .int .i64 0, .int .i64 0, .int .i64 0, .int .i64 0, .int .i64 0, .int .i64 0, .slice A13 0 c13] 40))
    generalize w13.alloc (.cells #[.int .i64 0, .int .i64 0, .int .i64 0, .int .i64 0, .int .i64 0, .int .i64 0, .int .i64 0, .slice A13 0 c13] 40) = w14 at HB CM CR BM BR CX CB CG BX ⊢
    generalize w13.heap.size = zb2
    replace HB := Aside0.mk (HB.out.trans ((((Below.refl _ w14).drew)).mono HB.out.size))
    replace CM := Aside0.mk (Kd.C_below CM.out ((Below.refl _ w14).drew))
    replace CR := Aside0.mk (Kd.C_below CR.out ((Below.refl _ w14).drew))
    replace BM := Aside0.mk (BM.out.after ((Below.refl _ w14).drew))
    replace BR := Aside0.mk (BR.out.after ((Below.refl _ w14).drew))
    replace CX := Aside0.mk (Kd.C_below CX.out ((Below.refl _ w14).drew))
    replace CB := Aside0.mk (Kd.C_below CB.out ((Below.refl _ w14).drew))
    replace CG := Aside0.mk (Kd.C_below CG.out ((Below.refl _ w14).drew))
    replace BX := Aside0.mk (BX.out.after ((Below.refl _ w14).drew))
    refine start_ (n := 20) (S := fun w' => w'.cell? ⟨xb, 0, none⟩ = some (.int .i64 x0) ∧ w'.cell? ⟨xb, 1, none⟩ = some (.int .i64 x1) ∧ w'.cell? ⟨xb, 2, none⟩ = some (.int .i64 x2) ∧ w'.cell? ⟨xb, 3, none⟩ = some (.int .i64 x3) ∧ w'.cell? ⟨xb, 4, none⟩ = some (.int .i64 x4) ∧ w'.cell? ⟨xb, 5, none⟩ = some (.int .i64 x5) ∧ w'.cell? ⟨xb, 6, none⟩ = some (.int .i64 x6) ∧ w'.cell? ⟨xb, 7, none⟩ = some (.slice A6 xl.length c6) ∧ w'.cell? ⟨w.heap.size, 0, none⟩ = some (.int .i64 a0_0) ∧ w'.cell? ⟨w.heap.size, 1, none⟩ = some (.int .i64 a0_1) ∧ w'.cell? ⟨w.heap.size, 2, none⟩ = some (.int .i64 a0_2) ∧ w'.cell? ⟨w.heap.size, 3, none⟩ = some (.int .i64 a0_3) ∧ w'.cell? ⟨w.heap.size, 4, none⟩ = some (.int .i64 a0_4) ∧ w'.cell? ⟨w.heap.size, 5, none⟩ = some (.int .i64 a0_5) ∧ w'.cell? ⟨w.heap.size, 6, none⟩ = some (.int .i64 a0_6) ∧ w'.cell? ⟨w.heap.size, 7, none⟩ = some (.slice A0_7 l0_7.length c0_7)) (ds := [7, 12, 17]) #[false, false, false, false, false, false, false, false, false, false, false, false, false, false, false, false, false, false, false, false] (by kernel_rfl) rfl rfl ⟨(BX.out.cell 0), (BX.out.cell 1), (BX.out.cell 2), (BX.out.cell 3), (BX.out.cell 4), (BX.out.cell 5), (BX.out.cell 6), (BX.out.cell 7), (BM.out.cell 0), (BM.out.cell 1), (BM.out.cell 2), (BM.out.cell 3), (BM.out.cell 4), (BM.out.cell 5), (BM.out.cell 6), (BM.out.cell 7)⟩ (fun hHeld => ?_)
    generalize w14.drew = wd at HB CM CR BM BR CX CB CG BX hHeld ⊢
    refine pure_ (i := 0) (N := some 60) (v := ?_) (a' := ?_) #[true, false, false, false, false, false, false, false, false, false, false, false, false, false, false, false, false, false, false, false] rfl rfl (by kernel_rfl) (fun _ _ _ h => h) (Or.inl ⟨by rfl, ?_⟩) ?_ ?_
    rotate_left
    · intro w'
      go_simp
      with_reducible rfl
    rotate_left
    · simp only [Act.put, List.setIfInBounds_toArray, List.set_cons_zero, List.set_cons_succ, i64_w, i32_w]
      rfl
    refine one_ (i := 1) (N := some 61) #[true, true, false, false, false, false, false, false, false, false, false, false, false, false, false, false, false, false, false, false] rfl rfl (by kernel_rfl) (by decide) (fun K hK => ?_)
    refine goes_ Try.func13 (by kernel_rfl) rfl #[.int .i64 0] (by rfl) rfl rfl (by simp only [List.map_toArray, List.map_cons, List.map_nil]; rfl) ?_
    with_reducible refine (weighhouselaw17_num.calls 0 0 _ rfl).mono ?_
    rintro en wa ⟨rfl, hd1⟩
    refine ⟨_, rfl, ?_⟩
    replace HB := Aside0.mk (HB.out.trans ((hd1.below).mono HB.out.size))
    replace CM := Aside0.mk (Kd.C_below CM.out hd1.below)
    replace CR := Aside0.mk (Kd.C_below CR.out hd1.below)
    replace BM := Aside0.mk (BM.out.after hd1.below)
    replace BR := Aside0.mk (BR.out.after hd1.below)
    replace CX := Aside0.mk (Kd.C_below CX.out hd1.below)
    replace CB := Aside0.mk (Kd.C_below CB.out hd1.below)
    replace CG := Aside0.mk (Kd.C_below CG.out hd1.below)
    replace BX := Aside0.mk (BX.out.after hd1.below)
    clear hd1
    refine hK.out _ _ ⟨(BX.out.cell 0), (BX.out.cell 1), (BX.out.cell 2), (BX.out.cell 3), (BX.out.cell 4), (BX.out.cell 5), (BX.out.cell 6), (BX.out.cell 7), (BM.out.cell 0), (BM.out.cell 1), (BM.out.cell 2), (BM.out.cell 3), (BM.out.cell 4), (BM.out.cell 5), (BM.out.cell 6), (BM.out.cell 7)⟩ (fun hHeld => ?_)
    clear hK K
    refine norm_ (a' := ?_) ?_ ?_
    rotate_left
    · show Act.put _ (some 61) _ = _
      simp only [Act.put, List.setIfInBounds_toArray, List.set_cons_zero, List.set_cons_succ, i64_w, i32_w]
      rfl
    refine pure_ (i := 2) (N := some 62) (v := ?_) (a' := ?_) #[true, true, true, false, false, false, false, false, false, false, false, false, false, false, false, false, false, false, false, false] rfl rfl (by kernel_rfl) (fun _ _ _ h => h) (Or.inl ⟨by rfl, ?_⟩) ?_ ?_
    rotate_left
    · intro w'
      go_simp
      with_reducible rfl
    rotate_left
    · simp only [Act.put, List.setIfInBounds_toArray, List.set_cons_zero, List.set_cons_succ, i64_w, i32_w]
      rfl
    refine pure_ (i := 3) (N := some 63) (v := ?_) (a' := ?_) #[true, true, true, true, false, false, false, false, false, false, false, false, false, false, false, false, false, false, false, false] rfl rfl (by kernel_rfl) (fun _ _ _ h => h) (Or.inl ⟨by rfl, ?_⟩) ?_ ?_
    rotate_left
    · intro w'
      go_simp
      with_reducible rfl
    rotate_left
    · simp only [Act.put, List.setIfInBounds_toArray, List.set_cons_zero, List.set_cons_succ, i64_w, i32_w]
      rfl
    refine take_ (i := 4) (N := some 64) (v := ?_) (a' := ?_) #[true, true, true, true, true, false, false, false, false, false, false, false, false, false, false, false, false, false, false, false] rfl rfl (by kernel_rfl) (fun _ _ _ h => h) (Or.inl ⟨by rfl, ?_⟩) hHeld ?_ ?_
    rotate_left
    · rintro w' ⟨s0, s1, s2, s3, s4, s5, s6, s7, s8, s9, s10, s11, s12, s13, s14, s15⟩
      go_simp
      with_reducible rfl
    rotate_left
    · simp only [Act.put, List.setIfInBounds_toArray, List.set_cons_zero, List.set_cons_succ, i64_w, i32_w]
      rfl
    refine take_ (i := 5) (N := some 65) (v := ?_) (a' := ?_) #[true, true, true, true, true, true, false, false, false, false, false, false, false, false, false, false, false, false, false, false] rfl rfl (by kernel_rfl) (fun _ _ _ h => h) (Or.inl ⟨by rfl, ?_⟩) hHeld ?_ ?_
    rotate_left
    · rintro w' ⟨s0, s1, s2, s3, s4, s5, s6, s7, s8, s9, s10, s11, s12, s13, s14, s15⟩
      go_simp
      with_reducible rfl
    rotate_left
    · simp only [Act.put, List.setIfInBounds_toArray, List.set_cons_zero, List.set_cons_succ, i64_w, i32_w]
      rfl
    refine one_ (i := 6) (N := some 66) #[true, true, true, true, true, true, true, false, false, false, false, false, false, false, false, false, false, false, false, false] rfl rfl (by kernel_rfl) (by decide) (fun K hK => ?_)
    refine goes_ Try.func12 (by kernel_rfl) rfl #[.agg #[.int .i64 a0_0, .int .i64 a0_1, .int .i64 a0_2, .int .i64 a0_3, .int .i64 a0_4, .int .i64 a0_5, .int .i64 a0_6, .slice A0_7 l0_7.length c0_7]] (by rfl) rfl rfl (by simp only [List.map_toArray, List.map_cons, List.map_nil]; rfl) ?_
    with_reducible refine (weighhouselaw17_Message.calls k a0_0 a0_1 a0_2 a0_3 a0_4 a0_5 a0_6 A0_7 c0_7 l0_7 x0 x1 x2 x3 x4 x5 x6 xl _ CM.out hc0_7 HM.out).mono ?_
    rintro en wb ⟨vb, rfl, hRb, hb2⟩
    refine ⟨_, rfl, ?_⟩
    replace HB := Aside0.mk (HB.out.trans ((hb2).mono HB.out.size))
    replace CM := Aside0.mk (Kd.C_below CM.out hb2)
    replace CR := Aside0.mk (Kd.C_below CR.out hb2)
    replace BM := Aside0.mk (BM.out.after hb2)
    replace BR := Aside0.mk (BR.out.after hb2)
    replace CX := Aside0.mk (Kd.C_below CX.out hb2)
    replace CB := Aside0.mk (Kd.C_below CB.out hb2)
    replace CG := Aside0.mk (Kd.C_below CG.out hb2)
    replace BX := Aside0.mk (BX.out.after hb2)
    obtain ⟨Ab, cb, rfl, hcb, hCb⟩ := Kd.R_reads hRb
    have CY := Aside0.mk (hCb)
    clear hRb hCb hb2
    refine hK.out _ _ ⟨(BX.out.cell 0), (BX.out.cell 1), (BX.out.cell 2), (BX.out.cell 3), (BX.out.cell 4), (BX.out.cell 5), (BX.out.cell 6), (BX.out.cell 7), (BM.out.cell 0), (BM.out.cell 1), (BM.out.cell 2), (BM.out.cell 3), (BM.out.cell 4), (BM.out.cell 5), (BM.out.cell 6), (BM.out.cell 7)⟩ (fun hHeld => ?_)
    clear hK K
    refine norm_ (a' := ?_) ?_ ?_
    rotate_left
    · show Act.put _ (some 66) _ = _
      simp only [Act.put, List.setIfInBounds_toArray, List.set_cons_zero, List.set_cons_succ, i64_w, i32_w]
      rfl
    refine last_ (i := 7) (N := some 67) #[true, true, true, true, true, true, true, true, false, false, false, false, false, false, false, false, false, false, false, false] rfl rfl (by kernel_rfl) (by decide) (fun K hK => ?_)
    refine goes_ Try.func14 (by kernel_rfl) rfl #[.agg #[.int .i64 x0, .int .i64 x1, .int .i64 x2, .int .i64 x3, .int .i64 x4, .int .i64 x5, .int .i64 x6, .slice A6 xl.length c6], .agg #[.int .i64 x0, .int .i64 x1, .int .i64 x2, .int .i64 x3, .int .i64 x4, .int .i64 x5, .int .i64 x6, .slice Ab xl.length cb]] (by rfl) rfl rfl (by simp only [List.map_toArray, List.map_cons, List.map_nil]; rfl) ?_
    with_reducible refine (weighhouselaw17_Same.calls k x0 x1 x2 x3 x4 x5 x6 A6 c6 xl x0 x1 x2 x3 x4 x5 x6 Ab cb xl true _ CG.out hc6 CY.out hcb HS.out).mono ?_
    rintro en wc ⟨rfl, hb3⟩
    refine ⟨_, rfl, ?_⟩
    replace HB := Aside0.mk (HB.out.trans ((hb3).mono HB.out.size))
    replace CM := Aside0.mk (Kd.C_below CM.out hb3)
    replace CR := Aside0.mk (Kd.C_below CR.out hb3)
    replace BM := Aside0.mk (BM.out.after hb3)
    replace BR := Aside0.mk (BR.out.after hb3)
    replace CX := Aside0.mk (Kd.C_below CX.out hb3)
    replace CB := Aside0.mk (Kd.C_below CB.out hb3)
    replace CG := Aside0.mk (Kd.C_below CG.out hb3)
    replace BX := Aside0.mk (BX.out.after hb3)
    replace CY := Aside0.mk (Kd.C_below CY.out hb3)
    clear hb3
    refine hK.out _ _ ?_
    clear hK K
    refine norm_ (a' := ?_) ?_ ?_
    rotate_left
    · show Act.put _ (some 67) _ = _
      simp only [Act.put, List.setIfInBounds_toArray, List.set_cons_zero, List.set_cons_succ, i64_w, i32_w]
      rfl
    refine pure_ (i := 8) (N := some 68) (v := ?_) (a' := ?_) #[true, true, true, true, true, true, true, true, true, false, false, false, false, false, false, false, false, false, false, false] rfl rfl (by kernel_rfl) (fun _ _ _ h => h) (Or.inl ⟨by rfl, ?_⟩) ?_ ?_
    rotate_left
    · intro w'
      go_simp
      with_reducible rfl
    rotate_left
    · simp only [Act.put, List.setIfInBounds_toArray, List.set_cons_zero, List.set_cons_succ, i64_w, i32_w]
      rfl
    refine pure_ (i := 9) (N := some 69) (v := ?_) (a' := ?_) #[true, true, true, true, true, true, true, true, true, true, false, false, false, false, false, false, false, false, false, false] rfl rfl (by kernel_rfl) (fun _ _ _ h => h) (Or.inl ⟨by rfl, ?_⟩) ?_ ?_
    rotate_left
    · intro w'
      go_simp
      with_reducible rfl
    rotate_left
    · simp only [Act.put, List.setIfInBounds_toArray, List.set_cons_zero, List.set_cons_succ, i64_w, i32_w]
      rfl
    refine pure_ (i := 10) (N := some 70) (v := ?_) (a' := ?_) #[true, true, true, true, true, true, true, true, true, true, true, false, false, false, false, false, false, false, false, false] rfl rfl (by kernel_rfl) (fun _ _ _ h => h) (Or.inl ⟨by rfl, ?_⟩) ?_ ?_
    rotate_left
    · intro w'
      go_simp
      with_reducible rfl
    rotate_left
    · simp only [Act.put, List.setIfInBounds_toArray, List.set_cons_zero, List.set_cons_succ, i64_w, i32_w]
      rfl
    refine pure_ (i := 11) (N := some 71) (v := ?_) (a' := ?_) #[true, true, true, true, true, true, true, true, true, true, true, true, false, false, false, false, false, false, false, false] rfl rfl (by kernel_rfl) (fun _ _ _ h => h) (Or.inl ⟨by rfl, ?_⟩) ?_ ?_
    rotate_left
    · intro w'
      go_simp
      with_reducible rfl
    rotate_left
    · simp only [Act.put, List.setIfInBounds_toArray, List.set_cons_zero, List.set_cons_succ, i64_w, i32_w]
      rfl
    refine last_ (i := 12) (N := some 72) #[true, true, true, true, true, true, true, true, true, true, true, true, true, false, false, false, false, false, false, false] rfl rfl (by kernel_rfl) (by decide) (fun K hK => ?_)
    refine goes_ Try.func13 (by kernel_rfl) rfl #[.int .i64 21] (by rfl) rfl rfl (by simp only [List.map_toArray, List.map_cons, List.map_nil]; rfl) ?_
    with_reducible refine (weighhouselaw17_num.calls 21 21 _ rfl).mono ?_
    rintro en we ⟨rfl, hd1⟩
    refine ⟨_, rfl, ?_⟩
    replace HB := Aside0.mk (HB.out.trans ((hd1.below).mono HB.out.size))
    replace CM := Aside0.mk (Kd.C_below CM.out hd1.below)
    replace CR := Aside0.mk (Kd.C_below CR.out hd1.below)
    replace BM := Aside0.mk (BM.out.after hd1.below)
    replace BR := Aside0.mk (BR.out.after hd1.below)
    replace CX := Aside0.mk (Kd.C_below CX.out hd1.below)
    replace CB := Aside0.mk (Kd.C_below CB.out hd1.below)
    replace CG := Aside0.mk (Kd.C_below CG.out hd1.below)
    replace BX := Aside0.mk (BX.out.after hd1.below)
    replace CY := Aside0.mk (Kd.C_below CY.out hd1.below)
    clear hd1
    refine hK.out _ _ ?_
    clear hK K
    refine norm_ (a' := ?_) ?_ ?_
    rotate_left
    · show Act.put _ (some 72) _ = _
      simp only [Act.put, List.setIfInBounds_toArray, List.set_cons_zero, List.set_cons_succ, i64_w, i32_w]
      rfl
    refine pure_ (i := 13) (N := some 73) (v := ?_) (a' := ?_) #[true, true, true, true, true, true, true, true, true, true, true, true, true, true, false, false, false, false, false, false] rfl rfl (by kernel_rfl) (fun _ _ _ h => h) (Or.inl ⟨by rfl, ?_⟩) ?_ ?_
    rotate_left
    · intro w'
      go_simp
      with_reducible rfl
    rotate_left
    · simp only [Act.put, List.setIfInBounds_toArray, List.set_cons_zero, List.set_cons_succ, i64_w, i32_w]
      rfl
    refine pure_ (i := 14) (N := some 74) (v := ?_) (a' := ?_) #[true, true, true, true, true, true, true, true, true, true, true, true, true, true, true, false, false, false, false, false] rfl rfl (by kernel_rfl) (fun _ _ _ h => h) (Or.inl ⟨by rfl, ?_⟩) ?_ ?_
    rotate_left
    · intro w'
      go_simp
      with_reducible rfl
    rotate_left
    · simp only [Act.put, List.setIfInBounds_toArray, List.set_cons_zero, List.set_cons_succ, i64_w, i32_w]
      rfl
    refine pure_ (i := 15) (N := some 75) (v := ?_) (a' := ?_) #[true, true, true, true, true, true, true, true, true, true, true, true, true, true, true, true, false, false, false, false] rfl rfl (by kernel_rfl) (fun _ _ _ h => h) (Or.inl ⟨by rfl, ?_⟩) ?_ ?_
    rotate_left
    · intro w'
      go_simp
      with_reducible rfl
    rotate_left
    · simp only [Act.put, List.setIfInBounds_toArray, List.set_cons_zero, List.set_cons_succ, i64_w, i32_w]
      rfl
    refine pure_ (i := 16) (N := some 76) (v := ?_) (a' := ?_) #[true, true, true, true, true, true, true, true, true, true, true, true, true, true, true, true, true, false, false, false] rfl rfl (by kernel_rfl) (fun _ _ _ h => h) (Or.inl ⟨by rfl, ?_⟩) ?_ ?_
    rotate_left
    · intro w'
      go_simp
      with_reducible rfl
    rotate_left
    · simp only [Act.put, List.setIfInBounds_toArray, List.set_cons_zero, List.set_cons_succ, i64_w, i32_w]
      rfl
    refine last_ (i := 17) (N := some 77) #[true, true, true, true, true, true, true, true, true, true, true, true, true, true, true, true, true, true, false, false] rfl rfl (by kernel_rfl) (by decide) (fun K hK => ?_)
    refine goes_ Try.func13 (by kernel_rfl) rfl #[.int .i64 21] (by rfl) rfl rfl (by simp only [List.map_toArray, List.map_cons, List.map_nil]; rfl) ?_
    with_reducible refine (weighhouselaw17_num.calls 21 21 _ rfl).mono ?_
    rintro en wf ⟨rfl, hd1⟩
    refine ⟨_, rfl, ?_⟩
    replace HB := Aside0.mk (HB.out.trans ((hd1.below).mono HB.out.size))
    replace CM := Aside0.mk (Kd.C_below CM.out hd1.below)
    replace CR := Aside0.mk (Kd.C_below CR.out hd1.below)
    replace BM := Aside0.mk (BM.out.after hd1.below)
    replace BR := Aside0.mk (BR.out.after hd1.below)
    replace CX := Aside0.mk (Kd.C_below CX.out hd1.below)
    replace CB := Aside0.mk (Kd.C_below CB.out hd1.below)
    replace CG := Aside0.mk (Kd.C_below CG.out hd1.below)
    replace BX := Aside0.mk (BX.out.after hd1.below)
    replace CY := Aside0.mk (Kd.C_below CY.out hd1.below)
    clear hd1
    refine hK.out _ _ ?_
    clear hK K
    refine norm_ (a' := ?_) ?_ ?_
    rotate_left
    · show Act.put _ (some 77) _ = _
      simp only [Act.put, List.setIfInBounds_toArray, List.set_cons_zero, List.set_cons_succ, i64_w, i32_w]
      rfl
    refine pure_ (i := 18) (N := some 78) (v := ?_) (a' := ?_) #[true, true, true, true, true, true, true, true, true, true, true, true, true, true, true, true, true, true, true, false] rfl rfl (by kernel_rfl) (fun _ _ _ h => h) (Or.inl ⟨by rfl, ?_⟩) ?_ ?_
    rotate_left
    · intro w'
      go_simp
      with_reducible rfl
    rotate_left
    · simp only [Act.put, List.setIfInBounds_toArray, List.set_cons_zero, List.set_cons_succ, i64_w, i32_w]
      rfl
    refine pure_ (i := 19) (N := some 79) (v := ?_) (a' := ?_) #[true, true, true, true, true, true, true, true, true, true, true, true, true, true, true, true, true, true, true, true] rfl rfl (by kernel_rfl) (fun _ _ _ h => h) (Or.inl ⟨by rfl, ?_⟩) ?_ ?_
    rotate_left
    · intro w'
      go_simp
      with_reducible rfl
    rotate_left
    · simp only [Act.put, List.setIfInBounds_toArray, List.set_cons_zero, List.set_cons_succ, i64_w, i32_w]
      rfl
    refine done_ (by kernel_rfl) ?_
    clear hHeld
    clear BX CG CY CB CX HPUT
    have k0 : wf.cell? ⟨w.heap.size + 1, 0, none⟩ = some (.int .i64 a1_0) := BR.out.cell 0
    have k1 : wf.cell? ⟨w.heap.size + 1, 1, none⟩ = some (.int .i64 a1_1) := BR.out.cell 1
    have k2 : wf.cell? ⟨w.heap.size + 1, 2, none⟩ = some (.int .i64 a1_2) := BR.out.cell 2
    have k3 : wf.cell? ⟨w.heap.size + 1, 3, none⟩ = some (.int .i64 a1_3) := BR.out.cell 3
    have k4 : wf.cell? ⟨w.heap.size + 1, 4, none⟩ = some (.slice A1_4 l1_4.length c1_4) := BR.out.cell 4
    go_wp2_with (fail)
    clear k0 k1 k2 k3 k4
    with_reducible refine (weighhouselaw17_Record.calls k a1_0 a1_1 a1_2 a1_3 A1_4 c1_4 l1_4 y0 y1 y2 y3 yl _ CR.out hc1_4 HRR.out).mono ?_
    rintro en w3 ⟨v3, rfl, hR3, hb⟩
    replace HB := Aside0.mk (HB.out.trans ((hb).mono HB.out.size))
    replace CM := Aside0.mk (Kd.C_below CM.out hb)
    replace CR := Aside0.mk (Kd.C_below CR.out hb)
    replace BM := Aside0.mk (BM.out.after hb)
    replace BR := Aside0.mk (BR.out.after hb)
    obtain ⟨A3, c3, rfl, hc3, hC3⟩ := Kd.R_reads hR3
    have CX := Aside0.mk (hC3)
    clear hR3 hC3 hb
    go_wp2_with (fail)
    obtain ⟨⟨b, e⟩, hput⟩ : ∃ p, message_PutRecord.f y0 y1 y2 y3 yl = some p := ⟨_, rfl⟩
    have HPUT := Aside0.mk hput
    clear hput
    with_reducible refine (message_PutRecord.calls y0 y1 y2 y3 A3 c3 yl b e _ CX.out hc3 HPUT.out).mono ?_
    rintro en w4 ⟨v4, rfl, hR4, hb⟩
    replace HB := Aside0.mk (HB.out.trans ((hb).mono HB.out.size))
    replace CM := Aside0.mk (Kd.C_below CM.out hb)
    replace CR := Aside0.mk (Kd.C_below CR.out hb)
    replace BM := Aside0.mk (BM.out.after hb)
    replace BR := Aside0.mk (BR.out.after hb)
    replace CX := Aside0.mk (Kd.C_below CX.out hb)
    obtain ⟨A4, c4, rfl, hc4, hC4⟩ := Kd.R_reads hR4
    have hmb : b.length ≤ 9223372036854775807 := hC4.2.1
    have CB := Aside0.mk (hC4)
    clear hR4 hC4 hb
    go_wp2_with (fail)
    with_reducible refine (weighhouselaw17_num.calls e e _ rfl).mono ?_
    rintro en w5 ⟨rfl, hd⟩
    replace HB := Aside0.mk (HB.out.trans ((hd.below).mono HB.out.size))
    replace CM := Aside0.mk (Kd.C_below CM.out hd.below)
    replace CR := Aside0.mk (Kd.C_below CR.out hd.below)
    replace BM := Aside0.mk (BM.out.after hd.below)
    replace BR := Aside0.mk (BR.out.after hd.below)
    replace CX := Aside0.mk (Kd.C_below CX.out hd.below)
    replace CB := Aside0.mk (Kd.C_below CB.out hd.below)
    clear hd
    by_cases he2 : e = 0
    · subst he2
      obtain ⟨g1, g2, g3, g4, g5⟩ := HOKR.out b 0 HPUT.out rfl
      have HG1 := Aside0.mk g1
      have HG2 := Aside0.mk g2
      have HG3 := Aside0.mk g3
      have hpos : 0 < (b.length : Int) := by omega
      clear g1 g2 g3
      have hsub : wrap64 ((b.length : Int) - 1) = (b.length : Int) - 1 := wrapI (by omega) (by omega)
      obtain ⟨ii, hii, his⟩ : ∃ ii, Try.prog.info? 5 = some ii ∧ ii.size = 1 := by
        obtain ⟨ii, h1, h2⟩ := Option.map_eq_some_iff.1 info5
        exact ⟨ii, h1, congrArg (fun p => p.2.1) h2⟩
      obtain ⟨ys, hys⟩ : ∃ ys, ys = b.take (b.length - 1) := ⟨_, rfl⟩
      obtain ⟨hcut, hyc, hCy⟩ := ct_to (P := Try.prog) 35 5 Try.underlying35 hii A4 c4 b ((b.length : Int) - 1) (by omega) (by omega) hc4 ys (by rw [hys]; congr 1; omega)
      rw [← hys] at HG3
      have HCY := Aside0.mk hCy
      clear hys hii his hCy
      go_wp2_with (fail)
      with_reducible refine (message_GetRecord.calls A4 c4 b y0 y1 y2 y3 yl 0 _ CB.out hc4 HG1.out).mono ?_
      rintro en w6 ⟨v6, rfl, hR6, hb⟩
      replace HB := Aside0.mk (HB.out.trans ((hb).mono HB.out.size))
      replace CM := Aside0.mk (Kd.C_below CM.out hb)
      replace CR := Aside0.mk (Kd.C_below CR.out hb)
      replace BM := Aside0.mk (BM.out.after hb)
      replace BR := Aside0.mk (BR.out.after hb)
      replace CX := Aside0.mk (Kd.C_below CX.out hb)
      replace CB := Aside0.mk (Kd.C_below CB.out hb)
      obtain ⟨A6, c6, rfl, hc6, hC6⟩ := Kd.R_reads hR6
      have CG := Aside0.mk (hC6)
      clear hR6 hC6 hb
      go_upto_region 11 with (fail)
      replace HB := Aside0.mk (HB.out.alloc HB.out.size (.cells #[.int .i64 y0, .int .i64 y1, .int .i64 y2, .int .i64 y3, .slice A6 yl.length c6] 49))
      replace CM := Aside0.mk (Kd.C_alloc CM.out (.cells #[.int .i64 y0, .int .i64 y1, .int .i64 y2, .int .i64 y3, .slice A6 yl.length c6] 49))
      replace CR := Aside0.mk (Kd.C_alloc CR.out (.cells #[.int .i64 y0, .int .i64 y1, .int .i64 y2, .int .i64 y3, .slice A6 yl.length c6] 49))
      replace BM := Aside0.mk (BM.out.alloc (.cells #[.int .i64 y0, .int .i64 y1, .int .i64 y2, .int .i64 y3, .slice A6 yl.length c6] 49))
      replace BR := Aside0.mk (BR.out.alloc (.cells #[.int .i64 y0, .int .i64 y1, .int .i64 y2, .int .i64 y3, .slice A6 yl.length c6] 49))
      replace CX := Aside0.mk (Kd.C_alloc CX.out (.cells #[.int .i64 y0, .int .i64 y1, .int .i64 y2, .int .i64 y3, .slice A6 yl.length c6] 49))
      replace CB := Aside0.mk (Kd.C_alloc CB.out (.cells #[.int .i64 y0, .int .i64 y1, .int .i64 y2, .int .i64 y3, .slice A6 yl.length c6] 49))
      replace CG := Aside0.mk (Kd.C_alloc CG.out (.cells #[.int .i64 y0, .int .i64 y1, .int .i64 y2, .int .i64 y3, .slice A6 yl.length c6] 49))
      have BX := Aside0.mk (Blk.new w6 49 #[.int .i64 y0, .int .i64 y1, .int .i64 y2, .int .i64 y3, .slice A6 yl.length c6])
      generalize w6.alloc (.cells #[.int .i64 y0, .int .i64 y1, .int .i64 y2, .int .i64 y3, .slice A6 yl.length c6] 49) = w7 at HB CM CR BM BR CX CB CG BX ⊢
      generalize w6.heap.size = xb at BX ⊢
      have HO := Aside0.mk (show (Kd.int .u8).R 5 (w7.alloc (.cells #[] 5)) w7.heap.size (fun _ => True) (.slice (some ⟨w7.heap.size, 0, none⟩) 0 0) [] from Kd.R_of_own (own_lit w7 w7.heap.size 5 .u8 [] (Nat.le_refl _) (by simp)) (fun _ _ => trivial))
      have HA := Aside0.mk ((Below.refl w7.heap.size w7).alloc (Nat.le_refl _) (.cells #[] 5))
      have HL := Aside0.mk (show (([] : List Int).length + b.length) * 1 ≤ 140737488355328 by simp only [List.length_nil]; omega)
      have HCA := Aside0.mk (Kd.C_alloc CB.out (.cells #[] 5))
      obtain ⟨bm, hbm⟩ : ∃ bm, b ++ [a2] = bm := ⟨_, rfl⟩
      rw [hbm] at HG2
      have HBM := Aside0.mk hbm
      have HL2 := Aside0.mk (show (b.length + ([a2] : List Int).length) * 1 ≤ 140737488355328 by simp only [List.length_singleton]; omega)
      clear hbm
      go_wp2_with (first | ((with_reducible refine gate_builtin (b := .append) (xs := #[.tmp 100, .tmp 101]) rfl ?_); at_builtin; refine Kd.R_append_rows (Kd.int .u8) (w0 := w7) (Rr := (Kd.int .u8).K (w7.alloc (.cells #[] 5))) w7.heap.size rfl (.tmp 100) (.tmp 101) 35 5 (.int .u8 0) 1 rfl Try.underlying35 info5 rfl (by decide) (by omega) (.slice (some ⟨w7.heap.size, 0, none⟩) 0 0) [] b A4 b.length c4 (fun _ => True) (fun _ => False) rfl rfl HO.out HCA.out (fun x cs hK => hK) (fun _ hk => hk.elim) (fun _ _ => trivial) HA.out HA.out.size HL.out ?_; intro v8 w8 hR8 hB8 _ _; rw [List.nil_append] at hR8; have HB9 := Aside0.mk (hB8.alloc hB8.size (.cells #[.int .u8 a2] 5)); have HO9 := Aside0.mk (Kd.R_alloc hR8 (.cells #[.int .u8 a2] 5)); have HC9 := Aside0.mk (C_lit_int w8 w8.heap.size rfl .u8 [a2] #[.int .u8 a2] rfl 5 (by simp)); clear hR8 hB8) | ((with_reducible refine gate_builtin (b := .append) (xs := #[.tmp 102, .tmp 104]) rfl ?_); at_builtin; refine Kd.R_append_rows (Kd.int .u8) (w0 := w7) (Rr := (Kd.int .u8).K (w8.alloc (.cells #[.int .u8 a2] 5))) w7.heap.size rfl (.tmp 102) (.tmp 104) 35 5 (.int .u8 0) 1 rfl Try.underlying35 info5 rfl (by decide) (by omega) v8 b [a2] (some ⟨w8.heap.size, 0, none⟩) 1 1 (fun _ => True) (fun _ => False) rfl rfl HO9.out HC9.out (fun x cs hK => hK) (fun _ hk => hk.elim) (fun _ _ => trivial) HB9.out HB9.out.size HL2.out ?_; intro v9 w9 hR9 hB9 _ _; rw [HBM.out] at hR9; obtain ⟨A9, c9, rfl, hc9, hC9⟩ := Kd.R_reads hR9; have HB10 := Aside0.mk hB9; have HC10 := Aside0.mk hC9; clear hR9 hB9 hC9))
      replace HB := Aside0.mk (HB.out.trans ((HB10.out).mono HB.out.size))
      replace CM := Aside0.mk (Kd.C_below CM.out HB10.out)
      replace CR := Aside0.mk (Kd.C_below CR.out HB10.out)
      replace BM := Aside0.mk (BM.out.after HB10.out)
      replace BR := Aside0.mk (BR.out.after HB10.out)
      replace CX := Aside0.mk (Kd.C_below CX.out HB10.out)
      replace CB := Aside0.mk (Kd.C_below CB.out HB10.out)
      replace CG := Aside0.mk (Kd.C_below CG.out HB10.out)
      replace BX := Aside0.mk (BX.out.after HB10.out)
      clear HO HA HL HCA HBM HL2 HB9 HO9 HC9 HB10
      with_reducible refine (message_GetRecord.calls A9 c9 bm 0 0 0 0 [] 21 _ HC10.out hc9 HG2.out).mono ?_
      rintro en w11 ⟨v11, rfl, hR11, hb⟩
      replace HB := Aside0.mk (HB.out.trans ((hb).mono HB.out.size))
      replace CM := Aside0.mk (Kd.C_below CM.out hb)
      replace CR := Aside0.mk (Kd.C_below CR.out hb)
      replace BM := Aside0.mk (BM.out.after hb)
      replace BR := Aside0.mk (BR.out.after hb)
      replace CX := Aside0.mk (Kd.C_below CX.out hb)
      replace CB := Aside0.mk (Kd.C_below CB.out hb)
      replace CG := Aside0.mk (Kd.C_below CG.out hb)
      replace BX := Aside0.mk (BX.out.after hb)
      obtain ⟨A11, c11, rfl, hc11, _⟩ := Kd.R_reads hR11
      clear hR11 hb HC10
      go_upto_region 12 with (fail)
      replace HB := Aside0.mk (HB.out.alloc HB.out.size (.cells #[.int .i64 0, .int .i64 0, .int .i64 0, .int .i64 0, .slice A11 0 c11] 49))
      replace CM := Aside0.mk (Kd.C_alloc CM.out (.cells #[.int .i64 0, .int .i64 0, .int .i64 0, .int .i64 0, .slice A11 0 c11] 49))
      replace CR := Aside0.mk (Kd.C_alloc CR.out (.cells #[.int .i64 0, .int .i64 0, .int .i64 0, .int .i64 0, .slice A11 0 c11] 49))
      replace BM := Aside0.mk (BM.out.alloc (.cells #[.int .i64 0, .int .i64 0, .int .i64 0, .int .i64 0, .slice A11 0 c11] 49))
      replace BR := Aside0.mk (BR.out.alloc (.cells #[.int .i64 0, .int .i64 0, .int .i64 0, .int .i64 0, .slice A11 0 c11] 49))
      replace CX := Aside0.mk (Kd.C_alloc CX.out (.cells #[.int .i64 0, .int .i64 0, .int .i64 0, .int .i64 0, .slice A11 0 c11] 49))
      replace CB := Aside0.mk (Kd.C_alloc CB.out (.cells #[.int .i64 0, .int .i64 0, .int .i64 0, .int .i64 0, .slice A11 0 c11] 49))
      replace CG := Aside0.mk (Kd.C_alloc CG.out (.cells #[.int .i64 0, .int .i64 0, .int .i64 0, .int .i64 0, .slice A11 0 c11] 49))
      replace BX := Aside0.mk (BX.out.alloc (.cells #[.int .i64 0, .int .i64 0, .int .i64 0, .int .i64 0, .slice A11 0 c11] 49))
      generalize w11.alloc (.cells #[.int .i64 0, .int .i64 0, .int .i64 0, .int .i64 0, .slice A11 0 c11] 49) = w12 at HB CM CR BM BR CX CB CG BX ⊢
      generalize w11.heap.size = zb1
      go_wp2_with (fail)
      with_reducible refine (message_GetRecord.calls A4 c4 ys 0 0 0 0 [] 21 _ (HCY.out _ .u8 CB.out) hyc HG3.out).mono ?_
      rintro en w13 ⟨v13, rfl, hR13, hb⟩
      replace HB := Aside0.mk (HB.out.trans ((hb).mono HB.out.size))
      replace CM := Aside0.mk (Kd.C_below CM.out hb)
      replace CR := Aside0.mk (Kd.C_below CR.out hb)
      replace BM := Aside0.mk (BM.out.after hb)
      replace BR := Aside0.mk (BR.out.after hb)
      replace CX := Aside0.mk (Kd.C_below CX.out hb)
      replace CB := Aside0.mk (Kd.C_below CB.out hb)
      replace CG := Aside0.mk (Kd.C_below CG.out hb)
      replace BX := Aside0.mk (BX.out.after hb)
      obtain ⟨A13, c13, rfl, hc13, _⟩ := Kd.R_reads hR13
      clear hR13 hb hcut HCY HG1 HG2 HG3 hsub
      go_upto_region 13 with (fail)
      replace HB := Aside0.mk (HB.out.alloc HB.out.size (.cells #[.int .i64 0, .int .i64 0, .int .i64 0, .int .i64 0, .slice A13 0 c13] 49))
      replace CM := Aside0.mk (Kd.C_alloc CM.out (.cells #[.int .i64 0, .int .i64 0, .int .i64 0, .int .i64 0, .slice A13 0 c13] 49))
      replace CR := Aside0.mk (Kd.C_alloc CR.out (.cells #[.int .i64 0, .int .i64 0, .int .i64 0, .int .i64 0, .slice A13 0 c13] 49))
      replace BM := Aside0.mk (BM.out.alloc (.cells #[.int .i64 0, .int .i64 0, .int .i64 0, .int .i64 0, .slice A13 0 c13] 49))
      replace BR := Aside0.mk (BR.out.alloc (.cells #[.int .i64 0, .int .i64 0, .int .i64 0, .int .i64 0, .slice A13 0 c13] 49))
      replace CX := Aside0.mk (Kd.C_alloc CX.out (.cells #[.int .i64 0, .int .i64 0, .int .i64 0, .int .i64 0, .slice A13 0 c13] 49))
      replace CB := Aside0.mk (Kd.C_alloc CB.out (.cells #[.int .i64 0, .int .i64 0, .int .i64 0, .int .i64 0, .slice A13 0 c13] 49))
      replace CG := Aside0.mk (Kd.C_alloc CG.out (.cells #[.int .i64 0, .int .i64 0, .int .i64 0, .int .i64 0, .slice A13 0 c13] 49))
      replace BX := Aside0.mk (BX.out.alloc (.cells #[.int .i64 0, .int .i64 0, .int .i64 0, .int .i64 0, .slice A13 0 c13] 49))
      generalize w13.alloc (.cells #[.int .i64 0, .int .i64 0, .int .i64 0, .int .i64 0, .slice A13 0 c13] 49) = w14 at HB CM CR BM BR CX CB CG BX ⊢
      generalize w13.heap.size = zb2
      replace HB := Aside0.mk (HB.out.trans ((((Below.refl _ w14).drew)).mono HB.out.size))
      replace CM := Aside0.mk (Kd.C_below CM.out ((Below.refl _ w14).drew))
      replace CR := Aside0.mk (Kd.C_below CR.out ((Below.refl _ w14).drew))
      replace BM := Aside0.mk (BM.out.after ((Below.refl _ w14).drew))
      replace BR := Aside0.mk (BR.out.after ((Below.refl _ w14).drew))
      replace CX := Aside0.mk (Kd.C_below CX.out ((Below.refl _ w14).drew))
      replace CB := Aside0.mk (Kd.C_below CB.out ((Below.refl _ w14).drew))
      replace CG := Aside0.mk (Kd.C_below CG.out ((Below.refl _ w14).drew))
      replace BX := Aside0.mk (BX.out.after ((Below.refl _ w14).drew))
      refine start_ (n := 20) (S := fun w' => w'.cell? ⟨xb, 0, none⟩ = some (.int .i64 y0) ∧ w'.cell? ⟨xb, 1, none⟩ = some (.int .i64 y1) ∧ w'.cell? ⟨xb, 2, none⟩ = some (.int .i64 y2) ∧ w'.cell? ⟨xb, 3, none⟩ = some (.int .i64 y3) ∧ w'.cell? ⟨xb, 4, none⟩ = some (.slice A6 yl.length c6) ∧ w'.cell? ⟨w.heap.size + 1, 0, none⟩ = some (.int .i64 a1_0) ∧ w'.cell? ⟨w.heap.size + 1, 1, none⟩ = some (.int .i64 a1_1) ∧ w'.cell? ⟨w.heap.size + 1, 2, none⟩ = some (.int .i64 a1_2) ∧ w'.cell? ⟨w.heap.size + 1, 3, none⟩ = some (.int .i64 a1_3) ∧ w'.cell? ⟨w.heap.size + 1, 4, none⟩ = some (.slice A1_4 l1_4.length c1_4)) (ds := [7, 12, 17]) #[false, false, false, false, false, false, false, false, false, false, false, false, false, false, false, false, false, false, false, false] (by kernel_rfl) rfl rfl ⟨(BX.out.cell 0), (BX.out.cell 1), (BX.out.cell 2), (BX.out.cell 3), (BX.out.cell 4), (BR.out.cell 0), (BR.out.cell 1), (BR.out.cell 2), (BR.out.cell 3), (BR.out.cell 4)⟩ (fun hHeld => ?_)
      generalize w14.drew = wd at HB CM CR BM BR CX CB CG BX hHeld ⊢
      refine pure_ (i := 0) (N := some 118) (v := ?_) (a' := ?_) #[true, false, false, false, false, false, false, false, false, false, false, false, false, false, false, false, false, false, false, false] rfl rfl (by kernel_rfl) (fun _ _ _ h => h) (Or.inl ⟨by rfl, ?_⟩) ?_ ?_
      rotate_left
      · intro w'
        go_simp
        with_reducible rfl
      rotate_left
      · simp only [Act.put, List.setIfInBounds_toArray, List.set_cons_zero, List.set_cons_succ, i64_w, i32_w]
        rfl
      refine one_ (i := 1) (N := some 119) #[true, true, false, false, false, false, false, false, false, false, false, false, false, false, false, false, false, false, false, false] rfl rfl (by kernel_rfl) (by decide) (fun K hK => ?_)
      refine goes_ Try.func13 (by kernel_rfl) rfl #[.int .i64 0] (by rfl) rfl rfl (by simp only [List.map_toArray, List.map_cons, List.map_nil]; rfl) ?_
      with_reducible refine (weighhouselaw17_num.calls 0 0 _ rfl).mono ?_
      rintro en wa ⟨rfl, hd1⟩
      refine ⟨_, rfl, ?_⟩
      replace HB := Aside0.mk (HB.out.trans ((hd1.below).mono HB.out.size))
      replace CM := Aside0.mk (Kd.C_below CM.out hd1.below)
      replace CR := Aside0.mk (Kd.C_below CR.out hd1.below)
      replace BM := Aside0.mk (BM.out.after hd1.below)
      replace BR := Aside0.mk (BR.out.after hd1.below)
      replace CX := Aside0.mk (Kd.C_below CX.out hd1.below)
      replace CB := Aside0.mk (Kd.C_below CB.out hd1.below)
      replace CG := Aside0.mk (Kd.C_below CG.out hd1.below)
      replace BX := Aside0.mk (BX.out.after hd1.below)
      clear hd1
      refine hK.out _ _ ⟨(BX.out.cell 0), (BX.out.cell 1), (BX.out.cell 2), (BX.out.cell 3), (BX.out.cell 4), (BR.out.cell 0), (BR.out.cell 1), (BR.out.cell 2), (BR.out.cell 3), (BR.out.cell 4)⟩ (fun hHeld => ?_)
      clear hK K
      refine norm_ (a' := ?_) ?_ ?_
      rotate_left
      · show Act.put _ (some 119) _ = _
        simp only [Act.put, List.setIfInBounds_toArray, List.set_cons_zero, List.set_cons_succ, i64_w, i32_w]
        rfl
      refine pure_ (i := 2) (N := some 120) (v := ?_) (a' := ?_) #[true, true, true, false, false, false, false, false, false, false, false, false, false, false, false, false, false, false, false, false] rfl rfl (by kernel_rfl) (fun _ _ _ h => h) (Or.inl ⟨by rfl, ?_⟩) ?_ ?_
      rotate_left
      · intro w'
        go_simp
        with_reducible rfl
      rotate_left
      · simp only [Act.put, List.setIfInBounds_toArray, List.set_cons_zero, List.set_cons_succ, i64_w, i32_w]
        rfl
      refine pure_ (i := 3) (N := some 121) (v := ?_) (a' := ?_) #[true, true, true, true, false, false, false, false, false, false, false, false, false, false, false, false, false, false, false, false] rfl rfl (by kernel_rfl) (fun _ _ _ h => h) (Or.inl ⟨by rfl, ?_⟩) ?_ ?_
      rotate_left
      · intro w'
        go_simp
        with_reducible rfl
      rotate_left
      · simp only [Act.put, List.setIfInBounds_toArray, List.set_cons_zero, List.set_cons_succ, i64_w, i32_w]
        rfl
      refine take_ (i := 4) (N := some 122) (v := ?_) (a' := ?_) #[true, true, true, true, true, false, false, false, false, false, false, false, false, false, false, false, false, false, false, false] rfl rfl (by kernel_rfl) (fun _ _ _ h => h) (Or.inl ⟨by rfl, ?_⟩) hHeld ?_ ?_
      rotate_left
      · rintro w' ⟨s0, s1, s2, s3, s4, s5, s6, s7, s8, s9⟩
        go_simp
        with_reducible rfl
      rotate_left
      · simp only [Act.put, List.setIfInBounds_toArray, List.set_cons_zero, List.set_cons_succ, i64_w, i32_w]
        rfl
      refine take_ (i := 5) (N := some 123) (v := ?_) (a' := ?_) #[true, true, true, true, true, true, false, false, false, false, false, false, false, false, false, false, false, false, false, false] rfl rfl (by kernel_rfl) (fun _ _ _ h => h) (Or.inl ⟨by rfl, ?_⟩) hHeld ?_ ?_
      rotate_left
      · rintro w' ⟨s0, s1, s2, s3, s4, s5, s6, s7, s8, s9⟩
        go_simp
        with_reducible rfl
      rotate_left
      · simp only [Act.put, List.setIfInBounds_toArray, List.set_cons_zero, List.set_cons_succ, i64_w, i32_w]
        rfl
      refine one_ (i := 6) (N := some 124) #[true, true, true, true, true, true, true, false, false, false, false, false, false, false, false, false, false, false, false, false] rfl rfl (by kernel_rfl) (by decide) (fun K hK => ?_)
      refine goes_ Try.func16 (by kernel_rfl) rfl #[.agg #[.int .i64 a1_0, .int .i64 a1_1, .int .i64 a1_2, .int .i64 a1_3, .slice A1_4 l1_4.length c1_4]] (by rfl) rfl rfl (by simp only [List.map_toArray, List.map_cons, List.map_nil]; rfl) ?_
      with_reducible refine (weighhouselaw17_Record.calls k a1_0 a1_1 a1_2 a1_3 A1_4 c1_4 l1_4 y0 y1 y2 y3 yl _ CR.out hc1_4 HRR.out).mono ?_
      rintro en wb ⟨vb, rfl, hRb, hb2⟩
      refine ⟨_, rfl, ?_⟩
      replace HB := Aside0.mk (HB.out.trans ((hb2).mono HB.out.size))
      replace CM := Aside0.mk (Kd.C_below CM.out hb2)
      replace CR := Aside0.mk (Kd.C_below CR.out hb2)
      replace BM := Aside0.mk (BM.out.after hb2)
      replace BR := Aside0.mk (BR.out.after hb2)
      replace CX := Aside0.mk (Kd.C_below CX.out hb2)
      replace CB := Aside0.mk (Kd.C_below CB.out hb2)
      replace CG := Aside0.mk (Kd.C_below CG.out hb2)
      replace BX := Aside0.mk (BX.out.after hb2)
      obtain ⟨Ab, cb, rfl, hcb, hCb⟩ := Kd.R_reads hRb
      have CY := Aside0.mk (hCb)
      clear hRb hCb hb2
      refine hK.out _ _ ⟨(BX.out.cell 0), (BX.out.cell 1), (BX.out.cell 2), (BX.out.cell 3), (BX.out.cell 4), (BR.out.cell 0), (BR.out.cell 1), (BR.out.cell 2), (BR.out.cell 3), (BR.out.cell 4)⟩ (fun hHeld => ?_)
      clear hK K
      refine norm_ (a' := ?_) ?_ ?_
      rotate_left
      · show Act.put _ (some 124) _ = _
        simp only [Act.put, List.setIfInBounds_toArray, List.set_cons_zero, List.set_cons_succ, i64_w, i32_w]
        rfl
      refine last_ (i := 7) (N := some 125) #[true, true, true, true, true, true, true, true, false, false, false, false, false, false, false, false, false, false, false, false] rfl rfl (by kernel_rfl) (by decide) (fun K hK => ?_)
      refine goes_ Try.func23 (by kernel_rfl) rfl #[.agg #[.int .i64 y0, .int .i64 y1, .int .i64 y2, .int .i64 y3, .slice A6 yl.length c6], .agg #[.int .i64 y0, .int .i64 y1, .int .i64 y2, .int .i64 y3, .slice Ab yl.length cb]] (by rfl) rfl rfl (by simp only [List.map_toArray, List.map_cons, List.map_nil]; rfl) ?_
      with_reducible refine (weighhouselaw17_SameRecord.calls k y0 y1 y2 y3 A6 c6 yl y0 y1 y2 y3 Ab cb yl true _ CG.out hc6 CY.out hcb HT.out).mono ?_
      rintro en wc ⟨rfl, hb3⟩
      refine ⟨_, rfl, ?_⟩
      replace HB := Aside0.mk (HB.out.trans ((hb3).mono HB.out.size))
      replace CM := Aside0.mk (Kd.C_below CM.out hb3)
      replace CR := Aside0.mk (Kd.C_below CR.out hb3)
      replace BM := Aside0.mk (BM.out.after hb3)
      replace BR := Aside0.mk (BR.out.after hb3)
      replace CX := Aside0.mk (Kd.C_below CX.out hb3)
      replace CB := Aside0.mk (Kd.C_below CB.out hb3)
      replace CG := Aside0.mk (Kd.C_below CG.out hb3)
      replace BX := Aside0.mk (BX.out.after hb3)
      replace CY := Aside0.mk (Kd.C_below CY.out hb3)
      clear hb3
      refine hK.out _ _ ?_
      clear hK K
      refine norm_ (a' := ?_) ?_ ?_
      rotate_left
      · show Act.put _ (some 125) _ = _
        simp only [Act.put, List.setIfInBounds_toArray, List.set_cons_zero, List.set_cons_succ, i64_w, i32_w]
        rfl
      refine pure_ (i := 8) (N := some 126) (v := ?_) (a' := ?_) #[true, true, true, true, true, true, true, true, true, false, false, false, false, false, false, false, false, false, false, false] rfl rfl (by kernel_rfl) (fun _ _ _ h => h) (Or.inl ⟨by rfl, ?_⟩) ?_ ?_
      rotate_left
      · intro w'
        go_simp
        with_reducible rfl
      rotate_left
      · simp only [Act.put, List.setIfInBounds_toArray, List.set_cons_zero, List.set_cons_succ, i64_w, i32_w]
        rfl
      refine pure_ (i := 9) (N := some 127) (v := ?_) (a' := ?_) #[true, true, true, true, true, true, true, true, true, true, false, false, false, false, false, false, false, false, false, false] rfl rfl (by kernel_rfl) (fun _ _ _ h => h) (Or.inl ⟨by rfl, ?_⟩) ?_ ?_
      rotate_left
      · intro w'
        go_simp
        with_reducible rfl
      rotate_left
      · simp only [Act.put, List.setIfInBounds_toArray, List.set_cons_zero, List.set_cons_succ, i64_w, i32_w]
        rfl
      refine pure_ (i := 10) (N := some 128) (v := ?_) (a' := ?_) #[true, true, true, true, true, true, true, true, true, true, true, false, false, false, false, false, false, false, false, false] rfl rfl (by kernel_rfl) (fun _ _ _ h => h) (Or.inl ⟨by rfl, ?_⟩) ?_ ?_
      rotate_left
      · intro w'
        go_simp
        with_reducible rfl
      rotate_left
      · simp only [Act.put, List.setIfInBounds_toArray, List.set_cons_zero, List.set_cons_succ, i64_w, i32_w]
        rfl
      refine pure_ (i := 11) (N := some 129) (v := ?_) (a' := ?_) #[true, true, true, true, true, true, true, true, true, true, true, true, false, false, false, false, false, false, false, false] rfl rfl (by kernel_rfl) (fun _ _ _ h => h) (Or.inl ⟨by rfl, ?_⟩) ?_ ?_
      rotate_left
      · intro w'
        go_simp
        with_reducible rfl
      rotate_left
      · simp only [Act.put, List.setIfInBounds_toArray, List.set_cons_zero, List.set_cons_succ, i64_w, i32_w]
        rfl
      refine last_ (i := 12) (N := some 130) #[true, true, true, true, true, true, true, true, true, true, true, true, true, false, false, false, false, false, false, false] rfl rfl (by kernel_rfl) (by decide) (fun K hK => ?_)
      refine goes_ Try.func13 (by kernel_rfl) rfl #[.int .i64 21] (by rfl) rfl rfl (by simp only [List.map_toArray, List.map_cons, List.map_nil]; rfl) ?_
      with_reducible refine (weighhouselaw17_num.calls 21 21 _ rfl).mono ?_
      rintro en we ⟨rfl, hd1⟩
      refine ⟨_, rfl, ?_⟩
      replace HB := Aside0.mk (HB.out.trans ((hd1.below).mono HB.out.size))
      replace CM := Aside0.mk (Kd.C_below CM.out hd1.below)
      replace CR := Aside0.mk (Kd.C_below CR.out hd1.below)
      replace BM := Aside0.mk (BM.out.after hd1.below)
      replace BR := Aside0.mk (BR.out.after hd1.below)
      replace CX := Aside0.mk (Kd.C_below CX.out hd1.below)
      replace CB := Aside0.mk (Kd.C_below CB.out hd1.below)
      replace CG := Aside0.mk (Kd.C_below CG.out hd1.below)
      replace BX := Aside0.mk (BX.out.after hd1.below)
      replace CY := Aside0.mk (Kd.C_below CY.out hd1.below)
      clear hd1
      refine hK.out _ _ ?_
      clear hK K
      refine norm_ (a' := ?_) ?_ ?_
      rotate_left
      · show Act.put _ (some 130) _ = _
        simp only [Act.put, List.setIfInBounds_toArray, List.set_cons_zero, List.set_cons_succ, i64_w, i32_w]
        rfl
      refine pure_ (i := 13) (N := some 131) (v := ?_) (a' := ?_) #[true, true, true, true, true, true, true, true, true, true, true, true, true, true, false, false, false, false, false, false] rfl rfl (by kernel_rfl) (fun _ _ _ h => h) (Or.inl ⟨by rfl, ?_⟩) ?_ ?_
      rotate_left
      · intro w'
        go_simp
        with_reducible rfl
      rotate_left
      · simp only [Act.put, List.setIfInBounds_toArray, List.set_cons_zero, List.set_cons_succ, i64_w, i32_w]
        rfl
      refine pure_ (i := 14) (N := some 132) (v := ?_) (a' := ?_) #[true, true, true, true, true, true, true, true, true, true, true, true, true, true, true, false, false, false, false, false] rfl rfl (by kernel_rfl) (fun _ _ _ h => h) (Or.inl ⟨by rfl, ?_⟩) ?_ ?_
      rotate_left
      · intro w'
        go_simp
        with_reducible rfl
      rotate_left
      · simp only [Act.put, List.setIfInBounds_toArray, List.set_cons_zero, List.set_cons_succ, i64_w, i32_w]
        rfl
      refine pure_ (i := 15) (N := some 133) (v := ?_) (a' := ?_) #[true, true, true, true, true, true, true, true, true, true, true, true, true, true, true, true, false, false, false, false] rfl rfl (by kernel_rfl) (fun _ _ _ h => h) (Or.inl ⟨by rfl, ?_⟩) ?_ ?_
      rotate_left
      · intro w'
        go_simp
        with_reducible rfl
      rotate_left
      · simp only [Act.put, List.setIfInBounds_toArray, List.set_cons_zero, List.set_cons_succ, i64_w, i32_w]
        rfl
      refine pure_ (i := 16) (N := some 134) (v := ?_) (a' := ?_) #[true, true, true, true, true, true, true, true, true, true, true, true, true, true, true, true, true, false, false, false] rfl rfl (by kernel_rfl) (fun _ _ _ h => h) (Or.inl ⟨by rfl, ?_⟩) ?_ ?_
      rotate_left
      · intro w'
        go_simp
        with_reducible rfl
      rotate_left
      · simp only [Act.put, List.setIfInBounds_toArray, List.set_cons_zero, List.set_cons_succ, i64_w, i32_w]
        rfl
      refine last_ (i := 17) (N := some 135) #[true, true, true, true, true, true, true, true, true, true, true, true, true, true, true, true, true, true, false, false] rfl rfl (by kernel_rfl) (by decide) (fun K hK => ?_)
      refine goes_ Try.func13 (by kernel_rfl) rfl #[.int .i64 21] (by rfl) rfl rfl (by simp only [List.map_toArray, List.map_cons, List.map_nil]; rfl) ?_
      with_reducible refine (weighhouselaw17_num.calls 21 21 _ rfl).mono ?_
      rintro en wf ⟨rfl, hd1⟩
      refine ⟨_, rfl, ?_⟩
      replace HB := Aside0.mk (HB.out.trans ((hd1.below).mono HB.out.size))
      replace CM := Aside0.mk (Kd.C_below CM.out hd1.below)
      replace CR := Aside0.mk (Kd.C_below CR.out hd1.below)
      replace BM := Aside0.mk (BM.out.after hd1.below)
      replace BR := Aside0.mk (BR.out.after hd1.below)
      replace CX := Aside0.mk (Kd.C_below CX.out hd1.below)
      replace CB := Aside0.mk (Kd.C_below CB.out hd1.below)
      replace CG := Aside0.mk (Kd.C_below CG.out hd1.below)
      replace BX := Aside0.mk (BX.out.after hd1.below)
      replace CY := Aside0.mk (Kd.C_below CY.out hd1.below)
      clear hd1
      refine hK.out _ _ ?_
      clear hK K
      refine norm_ (a' := ?_) ?_ ?_
      rotate_left
      · show Act.put _ (some 135) _ = _
        simp only [Act.put, List.setIfInBounds_toArray, List.set_cons_zero, List.set_cons_succ, i64_w, i32_w]
        rfl
      refine pure_ (i := 18) (N := some 136) (v := ?_) (a' := ?_) #[true, true, true, true, true, true, true, true, true, true, true, true, true, true, true, true, true, true, true, false] rfl rfl (by kernel_rfl) (fun _ _ _ h => h) (Or.inl ⟨by rfl, ?_⟩) ?_ ?_
      rotate_left
      · intro w'
        go_simp
        with_reducible rfl
      rotate_left
      · simp only [Act.put, List.setIfInBounds_toArray, List.set_cons_zero, List.set_cons_succ, i64_w, i32_w]
        rfl
      refine pure_ (i := 19) (N := some 137) (v := ?_) (a' := ?_) #[true, true, true, true, true, true, true, true, true, true, true, true, true, true, true, true, true, true, true, true] rfl rfl (by kernel_rfl) (fun _ _ _ h => h) (Or.inl ⟨by rfl, ?_⟩) ?_ ?_
      rotate_left
      · intro w'
        go_simp
        with_reducible rfl
      rotate_left
      · simp only [Act.put, List.setIfInBounds_toArray, List.set_cons_zero, List.set_cons_succ, i64_w, i32_w]
        rfl
      refine done_ (by kernel_rfl) ?_
      clear hHeld
      clear BX CG CY CB CX HPUT
      go_wp2_with (fail)
      with_reducible refine (weighhouselaw17_knows.calls true _ rfl).mono ?_
      rintro en wk ⟨rfl, hbk⟩
      replace HB := Aside0.mk (HB.out.trans ((hbk).mono HB.out.size))
      replace CM := Aside0.mk (Kd.C_below CM.out hbk)
      replace CR := Aside0.mk (Kd.C_below CR.out hbk)
      replace BM := Aside0.mk (BM.out.after hbk)
      replace BR := Aside0.mk (BR.out.after hbk)
      go_wp2
      go_ret
      exact ⟨rfl, HB.out⟩
    · have hed : (e == 0) = false := by simp [he2]
      clear he2
      go_wp2_with (fail)
      with_reducible refine (weighhouselaw17_knows.calls true _ rfl).mono ?_
      rintro en wk ⟨rfl, hbk⟩
      replace HB := Aside0.mk (HB.out.trans ((hbk).mono HB.out.size))
      replace CM := Aside0.mk (Kd.C_below CM.out hbk)
      replace CR := Aside0.mk (Kd.C_below CR.out hbk)
      replace BM := Aside0.mk (BM.out.after hbk)
      replace BR := Aside0.mk (BR.out.after hbk)
      replace CX := Aside0.mk (Kd.C_below CX.out hbk)
      replace CB := Aside0.mk (Kd.C_below CB.out hbk)
      go_wp2
      go_ret
      exact ⟨rfl, HB.out⟩
  · have hed : (e == 0) = false := by simp [he]
    clear he HPUT CB CX
    have k0 : w5.cell? ⟨w.heap.size + 1, 0, none⟩ = some (.int .i64 a1_0) := BR.out.cell 0
    have k1 : w5.cell? ⟨w.heap.size + 1, 1, none⟩ = some (.int .i64 a1_1) := BR.out.cell 1
    have k2 : w5.cell? ⟨w.heap.size + 1, 2, none⟩ = some (.int .i64 a1_2) := BR.out.cell 2
    have k3 : w5.cell? ⟨w.heap.size + 1, 3, none⟩ = some (.int .i64 a1_3) := BR.out.cell 3
    have k4 : w5.cell? ⟨w.heap.size + 1, 4, none⟩ = some (.slice A1_4 l1_4.length c1_4) := BR.out.cell 4
    go_wp2_with (fail)
    clear k0 k1 k2 k3 k4
    with_reducible refine (weighhouselaw17_Record.calls k a1_0 a1_1 a1_2 a1_3 A1_4 c1_4 l1_4 y0 y1 y2 y3 yl _ CR.out hc1_4 HRR.out).mono ?_
    rintro en w3 ⟨v3, rfl, hR3, hb⟩
    replace HB := Aside0.mk (HB.out.trans ((hb).mono HB.out.size))
    replace CM := Aside0.mk (Kd.C_below CM.out hb)
    replace CR := Aside0.mk (Kd.C_below CR.out hb)
    replace BM := Aside0.mk (BM.out.after hb)
    replace BR := Aside0.mk (BR.out.after hb)
    obtain ⟨A3, c3, rfl, hc3, hC3⟩ := Kd.R_reads hR3
    have CX := Aside0.mk (hC3)
    clear hR3 hC3 hb
    go_wp2_with (fail)
    obtain ⟨⟨b, e⟩, hput⟩ : ∃ p, message_PutRecord.f y0 y1 y2 y3 yl = some p := ⟨_, rfl⟩
    have HPUT := Aside0.mk hput
    clear hput
    with_reducible refine (message_PutRecord.calls y0 y1 y2 y3 A3 c3 yl b e _ CX.out hc3 HPUT.out).mono ?_
    rintro en w4 ⟨v4, rfl, hR4, hb⟩
    replace HB := Aside0.mk (HB.out.trans ((hb).mono HB.out.size))
    replace CM := Aside0.mk (Kd.C_below CM.out hb)
    replace CR := Aside0.mk (Kd.C_below CR.out hb)
    replace BM := Aside0.mk (BM.out.after hb)
    replace BR := Aside0.mk (BR.out.after hb)
    replace CX := Aside0.mk (Kd.C_below CX.out hb)
    obtain ⟨A4, c4, rfl, hc4, hC4⟩ := Kd.R_reads hR4
    have hmb : b.length ≤ 9223372036854775807 := hC4.2.1
    have CB := Aside0.mk (hC4)
    clear hR4 hC4 hb
    go_wp2_with (fail)
    with_reducible refine (weighhouselaw17_num.calls e e _ rfl).mono ?_
    rintro en w5 ⟨rfl, hd⟩
    replace HB := Aside0.mk (HB.out.trans ((hd.below).mono HB.out.size))
    replace CM := Aside0.mk (Kd.C_below CM.out hd.below)
    replace CR := Aside0.mk (Kd.C_below CR.out hd.below)
    replace BM := Aside0.mk (BM.out.after hd.below)
    replace BR := Aside0.mk (BR.out.after hd.below)
    replace CX := Aside0.mk (Kd.C_below CX.out hd.below)
    replace CB := Aside0.mk (Kd.C_below CB.out hd.below)
    clear hd
    by_cases he2 : e = 0
    · subst he2
      obtain ⟨g1, g2, g3, g4, g5⟩ := HOKR.out b 0 HPUT.out rfl
      have HG1 := Aside0.mk g1
      have HG2 := Aside0.mk g2
      have HG3 := Aside0.mk g3
      have hpos : 0 < (b.length : Int) := by omega
      clear g1 g2 g3
      have hsub : wrap64 ((b.length : Int) - 1) = (b.length : Int) - 1 := wrapI (by omega) (by omega)
      obtain ⟨ii, hii, his⟩ : ∃ ii, Try.prog.info? 5 = some ii ∧ ii.size = 1 := by
        obtain ⟨ii, h1, h2⟩ := Option.map_eq_some_iff.1 info5
        exact ⟨ii, h1, congrArg (fun p => p.2.1) h2⟩
      obtain ⟨ys, hys⟩ : ∃ ys, ys = b.take (b.length - 1) := ⟨_, rfl⟩
      obtain ⟨hcut, hyc, hCy⟩ := ct_to (P := Try.prog) 35 5 Try.underlying35 hii A4 c4 b ((b.length : Int) - 1) (by omega) (by omega) hc4 ys (by rw [hys]; congr 1; omega)
      rw [← hys] at HG3
      have HCY := Aside0.mk hCy
      clear hys hii his hCy
      go_wp2_with (fail)
      with_reducible refine (message_GetRecord.calls A4 c4 b y0 y1 y2 y3 yl 0 _ CB.out hc4 HG1.out).mono ?_
      rintro en w6 ⟨v6, rfl, hR6, hb⟩
      replace HB := Aside0.mk (HB.out.trans ((hb).mono HB.out.size))
      replace CM := Aside0.mk (Kd.C_below CM.out hb)
      replace CR := Aside0.mk (Kd.C_below CR.out hb)
      replace BM := Aside0.mk (BM.out.after hb)
      replace BR := Aside0.mk (BR.out.after hb)
      replace CX := Aside0.mk (Kd.C_below CX.out hb)
      replace CB := Aside0.mk (Kd.C_below CB.out hb)
      obtain ⟨A6, c6, rfl, hc6, hC6⟩ := Kd.R_reads hR6
      have CG := Aside0.mk (hC6)
      clear hR6 hC6 hb
      go_upto_region 11 with (fail)
      replace HB := Aside0.mk (HB.out.alloc HB.out.size (.cells #[.int .i64 y0, .int .i64 y1, .int .i64 y2, .int .i64 y3, .slice A6 yl.length c6] 49))
      replace CM := Aside0.mk (Kd.C_alloc CM.out (.cells #[.int .i64 y0, .int .i64 y1, .int .i64 y2, .int .i64 y3, .slice A6 yl.length c6] 49))
      replace CR := Aside0.mk (Kd.C_alloc CR.out (.cells #[.int .i64 y0, .int .i64 y1, .int .i64 y2, .int .i64 y3, .slice A6 yl.length c6] 49))
      replace BM := Aside0.mk (BM.out.alloc (.cells #[.int .i64 y0, .int .i64 y1, .int .i64 y2, .int .i64 y3, .slice A6 yl.length c6] 49))
      replace BR := Aside0.mk (BR.out.alloc (.cells #[.int .i64 y0, .int .i64 y1, .int .i64 y2, .int .i64 y3, .slice A6 yl.length c6] 49))
      replace CX := Aside0.mk (Kd.C_alloc CX.out (.cells #[.int .i64 y0, .int .i64 y1, .int .i64 y2, .int .i64 y3, .slice A6 yl.length c6] 49))
      replace CB := Aside0.mk (Kd.C_alloc CB.out (.cells #[.int .i64 y0, .int .i64 y1, .int .i64 y2, .int .i64 y3, .slice A6 yl.length c6] 49))
      replace CG := Aside0.mk (Kd.C_alloc CG.out (.cells #[.int .i64 y0, .int .i64 y1, .int .i64 y2, .int .i64 y3, .slice A6 yl.length c6] 49))
      have BX := Aside0.mk (Blk.new w6 49 #[.int .i64 y0, .int .i64 y1, .int .i64 y2, .int .i64 y3, .slice A6 yl.length c6])
      generalize w6.alloc (.cells #[.int .i64 y0, .int .i64 y1, .int .i64 y2, .int .i64 y3, .slice A6 yl.length c6] 49) = w7 at HB CM CR BM BR CX CB CG BX ⊢
      generalize w6.heap.size = xb at BX ⊢
      have HO := Aside0.mk (show (Kd.int .u8).R 5 (w7.alloc (.cells #[] 5)) w7.heap.size (fun _ => True) (.slice (some ⟨w7.heap.size, 0, none⟩) 0 0) [] from Kd.R_of_own (own_lit w7 w7.heap.size 5 .u8 [] (Nat.le_refl _) (by simp)) (fun _ _ => trivial))
      have HA := Aside0.mk ((Below.refl w7.heap.size w7).alloc (Nat.le_refl _) (.cells #[] 5))
      have HL := Aside0.mk (show (([] : List Int).length + b.length) * 1 ≤ 140737488355328 by simp only [List.length_nil]; omega)
      have HCA := Aside0.mk (Kd.C_alloc CB.out (.cells #[] 5))
      obtain ⟨bm, hbm⟩ : ∃ bm, b ++ [a2] = bm := ⟨_, rfl⟩
      rw [hbm] at HG2
      have HBM := Aside0.mk hbm
      have HL2 := Aside0.mk (show (b.length + ([a2] : List Int).length) * 1 ≤ 140737488355328 by simp only [List.length_singleton]; omega)
      clear hbm
      go_wp2_with (first | ((with_reducible refine gate_builtin (b := .append) (xs := #[.tmp 100, .tmp 101]) rfl ?_); at_builtin; refine Kd.R_append_rows (Kd.int .u8) (w0 := w7) (Rr := (Kd.int .u8).K (w7.alloc (.cells #[] 5))) w7.heap.size rfl (.tmp 100) (.tmp 101) 35 5 (.int .u8 0) 1 rfl Try.underlying35 info5 rfl (by decide) (by omega) (.slice (some ⟨w7.heap.size, 0, none⟩) 0 0) [] b A4 b.length c4 (fun _ => True) (fun _ => False) rfl rfl HO.out HCA.out (fun x cs hK => hK) (fun _ hk => hk.elim) (fun _ _ => trivial) HA.out HA.out.size HL.out ?_; intro v8 w8 hR8 hB8 _ _; rw [List.nil_append] at hR8; have HB9 := Aside0.mk (hB8.alloc hB8.size (.cells #[.int .u8 a2] 5)); have HO9 := Aside0.mk (Kd.R_alloc hR8 (.cells #[.int .u8 a2] 5)); have HC9 := Aside0.mk (C_lit_int w8 w8.heap.size rfl .u8 [a2] #[.int .u8 a2] rfl 5 (by simp)); clear hR8 hB8) | ((with_reducible refine gate_builtin (b := .append) (xs := #[.tmp 102, .tmp 104]) rfl ?_); at_builtin; refine Kd.R_append_rows (Kd.int .u8) (w0 := w7) (Rr := (Kd.int .u8).K (w8.alloc (.cells #[.int .u8 a2] 5))) w7.heap.size rfl (.tmp 102) (.tmp 104) 35 5 (.int .u8 0) 1 rfl Try.underlying35 info5 rfl (by decide) (by omega) v8 b [a2] (some ⟨w8.heap.size, 0, none⟩) 1 1 (fun _ => True) (fun _ => False) rfl rfl HO9.out HC9.out (fun x cs hK => hK) (fun _ hk => hk.elim) (fun _ _ => trivial) HB9.out HB9.out.size HL2.out ?_; intro v9 w9 hR9 hB9 _ _; rw [HBM.out] at hR9; obtain ⟨A9, c9, rfl, hc9, hC9⟩ := Kd.R_reads hR9; have HB10 := Aside0.mk hB9; have HC10 := Aside0.mk hC9; clear hR9 hB9 hC9))
      replace HB := Aside0.mk (HB.out.trans ((HB10.out).mono HB.out.size))
      replace CM := Aside0.mk (Kd.C_below CM.out HB10.out)
      replace CR := Aside0.mk (Kd.C_below CR.out HB10.out)
      replace BM := Aside0.mk (BM.out.after HB10.out)
      replace BR := Aside0.mk (BR.out.after HB10.out)
      replace CX := Aside0.mk (Kd.C_below CX.out HB10.out)
      replace CB := Aside0.mk (Kd.C_below CB.out HB10.out)
      replace CG := Aside0.mk (Kd.C_below CG.out HB10.out)
      replace BX := Aside0.mk (BX.out.after HB10.out)
      clear HO HA HL HCA HBM HL2 HB9 HO9 HC9 HB10
      with_reducible refine (message_GetRecord.calls A9 c9 bm 0 0 0 0 [] 21 _ HC10.out hc9 HG2.out).mono ?_
      rintro en w11 ⟨v11, rfl, hR11, hb⟩
      replace HB := Aside0.mk (HB.out.trans ((hb).mono HB.out.size))
      replace CM := Aside0.mk (Kd.C_below CM.out hb)
      replace CR := Aside0.mk (Kd.C_below CR.out hb)
      replace BM := Aside0.mk (BM.out.after hb)
      replace BR := Aside0.mk (BR.out.after hb)
      replace CX := Aside0.mk (Kd.C_below CX.out hb)
      replace CB := Aside0.mk (Kd.C_below CB.out hb)
      replace CG := Aside0.mk (Kd.C_below CG.out hb)
      replace BX := Aside0.mk (BX.out.after hb)
      obtain ⟨A11, c11, rfl, hc11, _⟩ := Kd.R_reads hR11
      clear hR11 hb HC10
      go_upto_region 12 with (fail)
      replace HB := Aside0.mk (HB.out.alloc HB.out.size (.cells #[.int .i64 0, .int .i64 0, .int .i64 0, .int .i64 0, .slice A11 0 c11] 49))
      replace CM := Aside0.mk (Kd.C_alloc CM.out (.cells #[.int .i64 0, .int .i64 0, .int .i64 0, .int .i64 0, .slice A11 0 c11] 49))
      replace CR := Aside0.mk (Kd.C_alloc CR.out (.cells #[.int .i64 0, .int .i64 0, .int .i64 0, .int .i64 0, .slice A11 0 c11] 49))
      replace BM := Aside0.mk (BM.out.alloc (.cells #[.int .i64 0, .int .i64 0, .int .i64 0, .int .i64 0, .slice A11 0 c11] 49))
      replace BR := Aside0.mk (BR.out.alloc (.cells #[.int .i64 0, .int .i64 0, .int .i64 0, .int .i64 0, .slice A11 0 c11] 49))
      replace CX := Aside0.mk (Kd.C_alloc CX.out (.cells #[.int .i64 0, .int .i64 0, .int .i64 0, .int .i64 0, .slice A11 0 c11] 49))
      replace CB := Aside0.mk (Kd.C_alloc CB.out (.cells #[.int .i64 0, .int .i64 0, .int .i64 0, .int .i64 0, .slice A11 0 c11] 49))
      replace CG := Aside0.mk (Kd.C_alloc CG.out (.cells #[.int .i64 0, .int .i64 0, .int .i64 0, .int .i64 0, .slice A11 0 c11] 49))
      replace BX := Aside0.mk (BX.out.alloc (.cells #[.int .i64 0, .int .i64 0, .int .i64 0, .int .i64 0, .slice A11 0 c11] 49))
      generalize w11.alloc (.cells #[.int .i64 0, .int .i64 0, .int .i64 0, .int .i64 0, .slice A11 0 c11] 49) = w12 at HB CM CR BM BR CX CB CG BX ⊢
      generalize w11.heap.size = zb1
      go_wp2_with (fail)
      with_reducible refine (message_GetRecord.calls A4 c4 ys 0 0 0 0 [] 21 _ (HCY.out _ .u8 CB.out) hyc HG3.out).mono ?_
      rintro en w13 ⟨v13, rfl, hR13, hb⟩
      replace HB := Aside0.mk (HB.out.trans ((hb).mono HB.out.size))
      replace CM := Aside0.mk (Kd.C_below CM.out hb)
      replace CR := Aside0.mk (Kd.C_below CR.out hb)
      replace BM := Aside0.mk (BM.out.after hb)
      replace BR := Aside0.mk (BR.out.after hb)
      replace CX := Aside0.mk (Kd.C_below CX.out hb)
      replace CB := Aside0.mk (Kd.C_below CB.out hb)
      replace CG := Aside0.mk (Kd.C_below CG.out hb)
      replace BX := Aside0.mk (BX.out.after hb)
      obtain ⟨A13, c13, rfl, hc13, _⟩ := Kd.R_reads hR13
      clear hR13 hb hcut HCY HG1 HG2 HG3 hsub
      go_upto_region 13 with (fail)
      replace HB := Aside0.mk (HB.out.alloc HB.out.size (.cells #[.int .i64 0, .int .i64 0, .int .i64 0, .int .i64 0, .slice A13 0 c13] 49))
      replace CM := Aside0.mk (Kd.C_alloc CM.out (.cells #[.int .i64 0, .int .i64 0, .int .i64 0, .int .i64 0, .slice A13 0 c13] 49))
      replace CR := Aside0.mk (Kd.C_alloc CR.out (.cells #[.int .i64 0, .int .i64 0, .int .i64 0, .int .i64 0, .slice A13 0 c13] 49))
      replace BM := Aside0.mk (BM.out.alloc (.cells #[.int .i64 0, .int .i64 0, .int .i64 0, .int .i64 0, .slice A13 0 c13] 49))
      replace BR := Aside0.mk (BR.out.alloc (.cells #[.int .i64 0, .int .i64 0, .int .i64 0, .int .i64 0, .slice A13 0 c13] 49))
      replace CX := Aside0.mk (Kd.C_alloc CX.out (.cells #[.int .i64 0, .int .i64 0, .int .i64 0, .int .i64 0, .slice A13 0 c13] 49))
      replace CB := Aside0.mk (Kd.C_alloc CB.out (.cells #[.int .i64 0, .int .i64 0, .int .i64 0, .int .i64 0, .slice A13 0 c13] 49))
      replace CG := Aside0.mk (Kd.C_alloc CG.out (.cells #[.int .i64 0, .int .i64 0, .int .i64 0, .int .i64 0, .slice A13 0 c13] 49))
      replace BX := Aside0.mk (BX.out.alloc (.cells #[.int .i64 0, .int .i64 0, .int .i64 0, .int .i64 0, .slice A13 0 c13] 49))
      generalize w13.alloc (.cells #[.int .i64 0, .int .i64 0, .int .i64 0, .int .i64 0, .slice A13 0 c13] 49) = w14 at HB CM CR BM BR CX CB CG BX ⊢
      generalize w13.heap.size = zb2
      replace HB := Aside0.mk (HB.out.trans ((((Below.refl _ w14).drew)).mono HB.out.size))
      replace CM := Aside0.mk (Kd.C_below CM.out ((Below.refl _ w14).drew))
      replace CR := Aside0.mk (Kd.C_below CR.out ((Below.refl _ w14).drew))
      replace BM := Aside0.mk (BM.out.after ((Below.refl _ w14).drew))
      replace BR := Aside0.mk (BR.out.after ((Below.refl _ w14).drew))
      replace CX := Aside0.mk (Kd.C_below CX.out ((Below.refl _ w14).drew))
      replace CB := Aside0.mk (Kd.C_below CB.out ((Below.refl _ w14).drew))
      replace CG := Aside0.mk (Kd.C_below CG.out ((Below.refl _ w14).drew))
      replace BX := Aside0.mk (BX.out.after ((Below.refl _ w14).drew))
      refine start_ (n := 20) (S := fun w' => w'.cell? ⟨xb, 0, none⟩ = some (.int .i64 y0) ∧ w'.cell? ⟨xb, 1, none⟩ = some (.int .i64 y1) ∧ w'.cell? ⟨xb, 2, none⟩ = some (.int .i64 y2) ∧ w'.cell? ⟨xb, 3, none⟩ = some (.int .i64 y3) ∧ w'.cell? ⟨xb, 4, none⟩ = some (.slice A6 yl.length c6) ∧ w'.cell? ⟨w.heap.size + 1, 0, none⟩ = some (.int .i64 a1_0) ∧ w'.cell? ⟨w.heap.size + 1, 1, none⟩ = some (.int .i64 a1_1) ∧ w'.cell? ⟨w.heap.size + 1, 2, none⟩ = some (.int .i64 a1_2) ∧ w'.cell? ⟨w.heap.size + 1, 3, none⟩ = some (.int .i64 a1_3) ∧ w'.cell? ⟨w.heap.size + 1, 4, none⟩ = some (.slice A1_4 l1_4.length c1_4)) (ds := [7, 12, 17]) #[false, false, false, false, false, false, false, false, false, false, false, false, false, false, false, false, false, false, false, false] (by kernel_rfl) rfl rfl ⟨(BX.out.cell 0), (BX.out.cell 1), (BX.out.cell 2), (BX.out.cell 3), (BX.out.cell 4), (BR.out.cell 0), (BR.out.cell 1), (BR.out.cell 2), (BR.out.cell 3), (BR.out.cell 4)⟩ (fun hHeld => ?_)
      generalize w14.drew = wd at HB CM CR BM BR CX CB CG BX hHeld ⊢
      refine pure_ (i := 0) (N := some 118) (v := ?_) (a' := ?_) #[true, false, false, false, false, false, false, false, false, false, false, false, false, false, false, false, false, false, false, false] rfl rfl (by kernel_rfl) (fun _ _ _ h => h) (Or.inl ⟨by rfl, ?_⟩) ?_ ?_
      rotate_left
      · intro w'
        go_simp
        with_reducible rfl
      rotate_left
      · simp only [Act.put, List.setIfInBounds_toArray, List.set_cons_zero, List.set_cons_succ, i64_w, i32_w]
        rfl
      refine one_ (i := 1) (N := some 119) #[true, true, false, false, false, false, false, false, false, false, false, false, false, false, false, false, false, false, false, false] rfl rfl (by kernel_rfl) (by decide) (fun K hK => ?_)
      refine goes_ Try.func13 (by kernel_rfl) rfl #[.int .i64 0] (by rfl) rfl rfl (by simp only [List.map_toArray, List.map_cons, List.map_nil]; rfl) ?_
      with_reducible refine (weighhouselaw17_num.calls 0 0 _ rfl).mono ?_
      rintro en wa ⟨rfl, hd1⟩
      refine ⟨_, rfl, ?_⟩
      replace HB := Aside0.mk (HB.out.trans ((hd1.below).mono HB.out.size))
      replace CM := Aside0.mk (Kd.C_below CM.out hd1.below)
      replace CR := Aside0.mk (Kd.C_below CR.out hd1.below)
      replace BM := Aside0.mk (BM.out.after hd1.below)
      replace BR := Aside0.mk (BR.out.after hd1.below)
      replace CX := Aside0.mk (Kd.C_below CX.out hd1.below)
      replace CB := Aside0.mk (Kd.C_below CB.out hd1.below)
      replace CG := Aside0.mk (Kd.C_below CG.out hd1.below)
      replace BX := Aside0.mk (BX.out.after hd1.below)
      clear hd1
      refine hK.out _ _ ⟨(BX.out.cell 0), (BX.out.cell 1), (BX.out.cell 2), (BX.out.cell 3), (BX.out.cell 4), (BR.out.cell 0), (BR.out.cell 1), (BR.out.cell 2), (BR.out.cell 3), (BR.out.cell 4)⟩ (fun hHeld => ?_)
      clear hK K
      refine norm_ (a' := ?_) ?_ ?_
      rotate_left
      · show Act.put _ (some 119) _ = _
        simp only [Act.put, List.setIfInBounds_toArray, List.set_cons_zero, List.set_cons_succ, i64_w, i32_w]
        rfl
      refine pure_ (i := 2) (N := some 120) (v := ?_) (a' := ?_) #[true, true, true, false, false, false, false, false, false, false, false, false, false, false, false, false, false, false, false, false] rfl rfl (by kernel_rfl) (fun _ _ _ h => h) (Or.inl ⟨by rfl, ?_⟩) ?_ ?_
      rotate_left
      · intro w'
        go_simp
        with_reducible rfl
      rotate_left
      · simp only [Act.put, List.setIfInBounds_toArray, List.set_cons_zero, List.set_cons_succ, i64_w, i32_w]
        rfl
      refine pure_ (i := 3) (N := some 121) (v := ?_) (a' := ?_) #[true, true, true, true, false, false, false, false, false, false, false, false, false, false, false, false, false, false, false, false] rfl rfl (by kernel_rfl) (fun _ _ _ h => h) (Or.inl ⟨by rfl, ?_⟩) ?_ ?_
      rotate_left
      · intro w'
        go_simp
        with_reducible rfl
      rotate_left
      · simp only [Act.put, List.setIfInBounds_toArray, List.set_cons_zero, List.set_cons_succ, i64_w, i32_w]
        rfl
      refine take_ (i := 4) (N := some 122) (v := ?_) (a' := ?_) #[true, true, true, true, true, false, false, false, false, false, false, false, false, false, false, false, false, false, false, false] rfl rfl (by kernel_rfl) (fun _ _ _ h => h) (Or.inl ⟨by rfl, ?_⟩) hHeld ?_ ?_
      rotate_left
      · rintro w' ⟨s0, s1, s2, s3, s4, s5, s6, s7, s8, s9⟩
        go_simp
        with_reducible rfl
      rotate_left
      · simp only [Act.put, List.setIfInBounds_toArray, List.set_cons_zero, List.set_cons_succ, i64_w, i32_w]
        rfl
      refine take_ (i := 5) (N := some 123) (v := ?_) (a' := ?_) #[true, true, true, true, true, true, false, false, false, false, false, false, false, false, false, false, false, false, false, false] rfl rfl (by kernel_rfl) (fun _ _ _ h => h) (Or.inl ⟨by rfl, ?_⟩) hHeld ?_ ?_
      rotate_left
      · rintro w' ⟨s0, s1, s2, s3, s4, s5, s6, s7, s8, s9⟩
        go_simp
        with_reducible rfl
      rotate_left
      · simp only [Act.put, List.setIfInBounds_toArray, List.set_cons_zero, List.set_cons_succ, i64_w, i32_w]
        rfl
      refine one_ (i := 6) (N := some 124) #[true, true, true, true, true, true, true, false, false, false, false, false, false, false, false, false, false, false, false, false] rfl rfl (by kernel_rfl) (by decide) (fun K hK => ?_)
      refine goes_ Try.func16 (by kernel_rfl) rfl #[.agg #[.int .i64 a1_0, .int .i64 a1_1, .int .i64 a1_2, .int .i64 a1_3, .slice A1_4 l1_4.length c1_4]] (by rfl) rfl rfl (by simp only [List.map_toArray, List.map_cons, List.map_nil]; rfl) ?_
      with_reducible refine (weighhouselaw17_Record.calls k a1_0 a1_1 a1_2 a1_3 A1_4 c1_4 l1_4 y0 y1 y2 y3 yl _ CR.out hc1_4 HRR.out).mono ?_
      rintro en wb ⟨vb, rfl, hRb, hb2⟩
      refine ⟨_, rfl, ?_⟩
      replace HB := Aside0.mk (HB.out.trans ((hb2).mono HB.out.size))
      replace CM := Aside0.mk (Kd.C_below CM.out hb2)
      replace CR := Aside0.mk (Kd.C_below CR.out hb2)
      replace BM := Aside0.mk (BM.out.after hb2)
      replace BR := Aside0.mk (BR.out.after hb2)
      replace CX := Aside0.mk (Kd.C_below CX.out hb2)
      replace CB := Aside0.mk (Kd.C_below CB.out hb2)
      replace CG := Aside0.mk (Kd.C_below CG.out hb2)
      replace BX := Aside0.mk (BX.out.after hb2)
      obtain ⟨Ab, cb, rfl, hcb, hCb⟩ := Kd.R_reads hRb
      have CY := Aside0.mk (hCb)
      clear hRb hCb hb2
      refine hK.out _ _ ⟨(BX.out.cell 0), (BX.out.cell 1), (BX.out.cell 2), (BX.out.cell 3), (BX.out.cell 4), (BR.out.cell 0), (BR.out.cell 1), (BR.out.cell 2), (BR.out.cell 3), (BR.out.cell 4)⟩ (fun hHeld => ?_)
      clear hK K
      refine norm_ (a' := ?_) ?_ ?_
      rotate_left
      · show Act.put _ (some 124) _ = _
        simp only [Act.put, List.setIfInBounds_toArray, List.set_cons_zero, List.set_cons_succ, i64_w, i32_w]
        rfl
      refine last_ (i := 7) (N := some 125) #[true, true, true, true, true, true, true, true, false, false, false, false, false, false, false, false, false, false, false, false] rfl rfl (by kernel_rfl) (by decide) (fun K hK => ?_)
      refine goes_ Try.func23 (by kernel_rfl) rfl #[.agg #[.int .i64 y0, .int .i64 y1, .int .i64 y2, .int .i64 y3, .slice A6 yl.length c6], .agg #[.int .i64 y0, .int .i64 y1, .int .i64 y2, .int .i64 y3, .slice Ab yl.length cb]] (by rfl) rfl rfl (by simp only [List.map_toArray, List.map_cons, List.map_nil]; rfl) ?_
      with_reducible refine (weighhouselaw17_SameRecord.calls k y0 y1 y2 y3 A6 c6 yl y0 y1 y2 y3 Ab cb yl true _ CG.out hc6 CY.out hcb HT.out).mono ?_
      rintro en wc ⟨rfl, hb3⟩
      refine ⟨_, rfl, ?_⟩
      replace HB := Aside0.mk (HB.out.trans ((hb3).mono HB.out.size))
      replace CM := Aside0.mk (Kd.C_below CM.out hb3)
      replace CR := Aside0.mk (Kd.C_below CR.out hb3)
      replace BM := Aside0.mk (BM.out.after hb3)
      replace BR := Aside0.mk (BR.out.after hb3)
      replace CX := Aside0.mk (Kd.C_below CX.out hb3)
      replace CB := Aside0.mk (Kd.C_below CB.out hb3)
      replace CG := Aside0.mk (Kd.C_below CG.out hb3)
      replace BX := Aside0.mk (BX.out.after hb3)
      replace CY := Aside0.mk (Kd.C_below CY.out hb3)
      clear hb3
      refine hK.out _ _ ?_
      clear hK K
      refine norm_ (a' := ?_) ?_ ?_
      rotate_left
      · show Act.put _ (some 125) _ = _
        simp only [Act.put, List.setIfInBounds_toArray, List.set_cons_zero, List.set_cons_succ, i64_w, i32_w]
        rfl
      refine pure_ (i := 8) (N := some 126) (v := ?_) (a' := ?_) #[true, true, true, true, true, true, true, true, true, false, false, false, false, false, false, false, false, false, false, false] rfl rfl (by kernel_rfl) (fun _ _ _ h => h) (Or.inl ⟨by rfl, ?_⟩) ?_ ?_
      rotate_left
      · intro w'
        go_simp
        with_reducible rfl
      rotate_left
      · simp only [Act.put, List.setIfInBounds_toArray, List.set_cons_zero, List.set_cons_succ, i64_w, i32_w]
        rfl
      refine pure_ (i := 9) (N := some 127) (v := ?_) (a' := ?_) #[true, true, true, true, true, true, true, true, true, true, false, false, false, false, false, false, false, false, false, false] rfl rfl (by kernel_rfl) (fun _ _ _ h => h) (Or.inl ⟨by rfl, ?_⟩) ?_ ?_
      rotate_left
      · intro w'
        go_simp
        with_reducible rfl
      rotate_left
      · simp only [Act.put, List.setIfInBounds_toArray, List.set_cons_zero, List.set_cons_succ, i64_w, i32_w]
        rfl
      refine pure_ (i := 10) (N := some 128) (v := ?_) (a' := ?_) #[true, true, true, true, true, true, true, true, true, true, true, false, false, false, false, false, false, false, false, false] rfl rfl (by kernel_rfl) (fun _ _ _ h => h) (Or.inl ⟨by rfl, ?_⟩) ?_ ?_
      rotate_left
      · intro w'
        go_simp
        with_reducible rfl
      rotate_left
      · simp only [Act.put, List.setIfInBounds_toArray, List.set_cons_zero, List.set_cons_succ, i64_w, i32_w]
        rfl
      refine pure_ (i := 11) (N := some 129) (v := ?_) (a' := ?_) #[true, true, true, true, true, true, true, true, true, true, true, true, false, false, false, false, false, false, false, false] rfl rfl (by kernel_rfl) (fun _ _ _ h => h) (Or.inl ⟨by rfl, ?_⟩) ?_ ?_
      rotate_left
      · intro w'
        go_simp
        with_reducible rfl
      rotate_left
      · simp only [Act.put, List.setIfInBounds_toArray, List.set_cons_zero, List.set_cons_succ, i64_w, i32_w]
        rfl
      refine last_ (i := 12) (N := some 130) #[true, true, true, true, true, true, true, true, true, true, true, true, true, false, false, false, false, false, false, false] rfl rfl (by kernel_rfl) (by decide) (fun K hK => ?_)
      refine goes_ Try.func13 (by kernel_rfl) rfl #[.int .i64 21] (by rfl) rfl rfl (by simp only [List.map_toArray, List.map_cons, List.map_nil]; rfl) ?_
      with_reducible refine (weighhouselaw17_num.calls 21 21 _ rfl).mono ?_
      rintro en we ⟨rfl, hd1⟩
      refine ⟨_, rfl, ?_⟩
      replace HB := Aside0.mk (HB.out.trans ((hd1.below).mono HB.out.size))
      replace CM := Aside0.mk (Kd.C_below CM.out hd1.below)
      replace CR := Aside0.mk (Kd.C_below CR.out hd1.below)
      replace BM := Aside0.mk (BM.out.after hd1.below)
      replace BR := Aside0.mk (BR.out.after hd1.below)
      replace CX := Aside0.mk (Kd.C_below CX.out hd1.below)
      replace CB := Aside0.mk (Kd.C_below CB.out hd1.below)
      replace CG := Aside0.mk (Kd.C_below CG.out hd1.below)
      replace BX := Aside0.mk (BX.out.after hd1.below)
      replace CY := Aside0.mk (Kd.C_below CY.out hd1.below)
      clear hd1
      refine hK.out _ _ ?_
      clear hK K
      refine norm_ (a' := ?_) ?_ ?_
      rotate_left
      · show Act.put _ (some 130) _ = _
        simp only [Act.put, List.setIfInBounds_toArray, List.set_cons_zero, List.set_cons_succ, i64_w, i32_w]
        rfl
      refine pure_ (i := 13) (N := some 131) (v := ?_) (a' := ?_) #[true, true, true, true, true, true, true, true, true, true, true, true, true, true, false, false, false, false, false, false] rfl rfl (by kernel_rfl) (fun _ _ _ h => h) (Or.inl ⟨by rfl, ?_⟩) ?_ ?_
      rotate_left
      · intro w'
        go_simp
        with_reducible rfl
      rotate_left
      · simp only [Act.put, List.setIfInBounds_toArray, List.set_cons_zero, List.set_cons_succ, i64_w, i32_w]
        rfl
      refine pure_ (i := 14) (N := some 132) (v := ?_) (a' := ?_) #[true, true, true, true, true, true, true, true, true, true, true, true, true, true, true, false, false, false, false, false] rfl rfl (by kernel_rfl) (fun _ _ _ h => h) (Or.inl ⟨by rfl, ?_⟩) ?_ ?_
      rotate_left
      · intro w'
        go_simp
        with_reducible rfl
      rotate_left
      · simp only [Act.put, List.setIfInBounds_toArray, List.set_cons_zero, List.set_cons_succ, i64_w, i32_w]
        rfl
      refine pure_ (i := 15) (N := some 133) (v := ?_) (a' := ?_) #[true, true, true, true, true, true, true, true, true, true, true, true, true, true, true, true, false, false, false, false] rfl rfl (by kernel_rfl) (fun _ _ _ h => h) (Or.inl ⟨by rfl, ?_⟩) ?_ ?_
      rotate_left
      · intro w'
        go_simp
        with_reducible rfl
      rotate_left
      · simp only [Act.put, List.setIfInBounds_toArray, List.set_cons_zero, List.set_cons_succ, i64_w, i32_w]
        rfl
      refine pure_ (i := 16) (N := some 134) (v := ?_) (a' := ?_) #[true, true, true, true, true, true, true, true, true, true, true, true, true, true, true, true, true, false, false, false] rfl rfl (by kernel_rfl) (fun _ _ _ h => h) (Or.inl ⟨by rfl, ?_⟩) ?_ ?_
      rotate_left
      · intro w'
        go_simp
        with_reducible rfl
      rotate_left
      · simp only [Act.put, List.setIfInBounds_toArray, List.set_cons_zero, List.set_cons_succ, i64_w, i32_w]
        rfl
      refine last_ (i := 17) (N := some 135) #[true, true, true, true, true, true, true, true, true, true, true, true, true, true, true, true, true, true, false, false] rfl rfl (by kernel_rfl) (by decide) (fun K hK => ?_)
      refine goes_ Try.func13 (by kernel_rfl) rfl #[.int .i64 21] (by rfl) rfl rfl (by simp only [List.map_toArray, List.map_cons, List.map_nil]; rfl) ?_
      with_reducible refine (weighhouselaw17_num.calls 21 21 _ rfl).mono ?_
      rintro en wf ⟨rfl, hd1⟩
      refine ⟨_, rfl, ?_⟩
      replace HB := Aside0.mk (HB.out.trans ((hd1.below).mono HB.out.size))
      replace CM := Aside0.mk (Kd.C_below CM.out hd1.below)
      replace CR := Aside0.mk (Kd.C_below CR.out hd1.below)
      replace BM := Aside0.mk (BM.out.after hd1.below)
      replace BR := Aside0.mk (BR.out.after hd1.below)
      replace CX := Aside0.mk (Kd.C_below CX.out hd1.below)
      replace CB := Aside0.mk (Kd.C_below CB.out hd1.below)
      replace CG := Aside0.mk (Kd.C_below CG.out hd1.below)
      replace BX := Aside0.mk (BX.out.after hd1.below)
      replace CY := Aside0.mk (Kd.C_below CY.out hd1.below)
      clear hd1
      refine hK.out _ _ ?_
      clear hK K
      refine norm_ (a' := ?_) ?_ ?_
      rotate_left
      · show Act.put _ (some 135) _ = _
        simp only [Act.put, List.setIfInBounds_toArray, List.set_cons_zero, List.set_cons_succ, i64_w, i32_w]
        rfl
      refine pure_ (i := 18) (N := some 136) (v := ?_) (a' := ?_) #[true, true, true, true, true, true, true, true, true, true, true, true, true, true, true, true, true, true, true, false] rfl rfl (by kernel_rfl) (fun _ _ _ h => h) (Or.inl ⟨by rfl, ?_⟩) ?_ ?_
      rotate_left
      · intro w'
        go_simp
        with_reducible rfl
      rotate_left
      · simp only [Act.put, List.setIfInBounds_toArray, List.set_cons_zero, List.set_cons_succ, i64_w, i32_w]
        rfl
      refine pure_ (i := 19) (N := some 137) (v := ?_) (a' := ?_) #[true, true, true, true, true, true, true, true, true, true, true, true, true, true, true, true, true, true, true, true] rfl rfl (by kernel_rfl) (fun _ _ _ h => h) (Or.inl ⟨by rfl, ?_⟩) ?_ ?_
      rotate_left
      · intro w'
        go_simp
        with_reducible rfl
      rotate_left
      · simp only [Act.put, List.setIfInBounds_toArray, List.set_cons_zero, List.set_cons_succ, i64_w, i32_w]
        rfl
      refine done_ (by kernel_rfl) ?_
      clear hHeld
      clear BX CG CY CB CX HPUT
      go_wp2_with (fail)
      with_reducible refine (weighhouselaw17_knows.calls true _ rfl).mono ?_
      rintro en wk ⟨rfl, hbk⟩
      replace HB := Aside0.mk (HB.out.trans ((hbk).mono HB.out.size))
      replace CM := Aside0.mk (Kd.C_below CM.out hbk)
      replace CR := Aside0.mk (Kd.C_below CR.out hbk)
      replace BM := Aside0.mk (BM.out.after hbk)
      replace BR := Aside0.mk (BR.out.after hbk)
      go_wp2
      go_ret
      exact ⟨rfl, HB.out⟩
    · have hed : (e == 0) = false := by simp [he2]
      clear he2
      go_wp2_with (fail)
      with_reducible refine (weighhouselaw17_knows.calls true _ rfl).mono ?_
      rintro en wk ⟨rfl, hbk⟩
      replace HB := Aside0.mk (HB.out.trans ((hbk).mono HB.out.size))
      replace CM := Aside0.mk (Kd.C_below CM.out hbk)
      replace CR := Aside0.mk (Kd.C_below CR.out hbk)
      replace BM := Aside0.mk (BM.out.after hbk)
      replace BR := Aside0.mk (BR.out.after hbk)
      replace CX := Aside0.mk (Kd.C_below CX.out hbk)
      replace CB := Aside0.mk (Kd.C_below CB.out hbk)
      go_wp2
      go_ret
      exact ⟨rfl, HB.out⟩


end Go.Proofs.Ytlmlkcobkmhmbaa.Q
end

section
/- what the readings of the parameters of MessageBack give -/
set_option linter.unusedVariables false
set_option linter.unusedSimpArgs false
namespace Go.Proofs.Ytlmlkcobkmhmbaa.OpMessageBack
open Go.RowKit Go.Proofs.YtlmlkcobkmhmbaaW.PrintWords Go.Proofs.YtlmlkcobkmhmbaaW.Hb Go.Proofs.YtlmlkcobkmhmbaaW.Ho Go.Proofs.Ytlmlkcobkmhmbaa.Q

theorem opens_slice' {P : Program} {t : TypeId} {α : Type} {d : Kd α} {e B : Nat} {Q : α → Prop} (ht : P.underlying t = some (.slice e)) (hs : P.cellsOf e = d.sz) (hB : P.bytesOf e = B) (hp : Opens P d e Q) :
    Opens P (Kd.slice e d) t (fun xs => xs.length * B ≤ reachBytes ∧ xs.length ≤ maxLen ∧ ∀ x ∈ xs, Q x) := by
  subst hB
  exact opens_slice ht hs hp
def QS113 (x : S113) : Prop := ((Lit.int .i64 (x.f0)).wf = true) ∧ ((x.f1).size ≤ reachBytes)
theorem open_S113 : Opens Try.prog k113 113 QS113 := by
  intro H enc w base spare held fuel cs x h hw
  obtain ⟨xs, n, _, hx, hl, hxl, hf⟩ := DataW.trod_struct Try.underlying113 h
  rw [show Try.prog.cellsOf 113 = 2 from by kernel_rfl] at hl
  obtain ⟨c0, c1, rfl⟩ : ∃ c0 c1, cs = [c0, c1] := by
    clear hf hx h
    match cs, hl with
    | [c0, c1], _ => exact ⟨c0, c1, rfl⟩
  obtain ⟨y0, y1, rfl⟩ : ∃ y0 y1, xs = [y0, y1] := by
    have hxl2 : xs.length = 2 := hxl
    clear hxl hf hx
    match xs, hxl2 with
    | [y0, y1], _ => exact ⟨y0, y1, rfl⟩
  subst hx
  have g0 : DataW.trod enc Try.prog w base spare held n 3 (([c0, c1].drop 0).take (Try.prog.cellsOf 3)) = some y0 := hf 0 _ rfl
  rw [show Try.prog.cellsOf 3 = 1 from by kernel_rfl] at g0
  replace g0 : DataW.trod enc Try.prog w base spare held n 3 [c0] = some y0 := g0
  obtain ⟨v0, K0, q0⟩ := (opens_int Try.underlying3) enc w base spare held n _ _ g0 (fun m hm => hw m (weights_field (j := 0) (tj := 3) Try.underlying113 rfl rfl m hm))
  have g1 : DataW.trod enc Try.prog w base spare held n 9 (([c0, c1].drop 1).take (Try.prog.cellsOf 9)) = some y1 := hf 1 _ rfl
  rw [show Try.prog.cellsOf 9 = 1 from by kernel_rfl] at g1
  replace g1 : DataW.trod enc Try.prog w base spare held n 9 [c1] = some y1 := g1
  obtain ⟨v1, K1, q1⟩ := (opens_string Try.underlying9) enc w base spare held n _ _ g1 (fun m hm => hw m (weights_field (j := 1) (tj := 9) Try.underlying113 rfl rfl m hm))
  exact ⟨⟨v0, v1⟩, ⟨[c0], [c1], rfl, K0, K1⟩, ⟨q0, q1⟩⟩
def QS34 (x : S34) : Prop := ((Lit.int .i64 (x.f0)).wf = true) ∧ ((Lit.int .i64 (x.f1)).wf = true) ∧ ((Lit.int .i64 (x.f2)).wf = true) ∧ ((Lit.int .i64 (x.f3)).wf = true) ∧ ((Lit.int .i64 (x.f4)).wf = true) ∧ ((Lit.int .i64 (x.f5)).wf = true) ∧ ((Lit.int .i64 (x.f6)).wf = true) ∧ (((x.f7).length * 24 ≤ reachBytes ∧ (x.f7).length ≤ maxLen ∧ ∀ y ∈ (x.f7), QS113 (y)))
theorem open_S34 : Opens Try.prog k34 34 QS34 := by
  intro H enc w base spare held fuel cs x h hw
  obtain ⟨xs, n, _, hx, hl, hxl, hf⟩ := DataW.trod_struct Try.underlying34 h
  rw [show Try.prog.cellsOf 34 = 8 from by kernel_rfl] at hl
  obtain ⟨c0, c1, c2, c3, c4, c5, c6, c7, rfl⟩ : ∃ c0 c1 c2 c3 c4 c5 c6 c7, cs = [c0, c1, c2, c3, c4, c5, c6, c7] := by
    clear hf hx h
    match cs, hl with
    | [c0, c1, c2, c3, c4, c5, c6, c7], _ => exact ⟨c0, c1, c2, c3, c4, c5, c6, c7, rfl⟩
  obtain ⟨y0, y1, y2, y3, y4, y5, y6, y7, rfl⟩ : ∃ y0 y1 y2 y3 y4 y5 y6 y7, xs = [y0, y1, y2, y3, y4, y5, y6, y7] := by
    have hxl2 : xs.length = 8 := hxl
    clear hxl hf hx
    match xs, hxl2 with
    | [y0, y1, y2, y3, y4, y5, y6, y7], _ => exact ⟨y0, y1, y2, y3, y4, y5, y6, y7, rfl⟩
  subst hx
  have g0 : DataW.trod enc Try.prog w base spare held n 3 (([c0, c1, c2, c3, c4, c5, c6, c7].drop 0).take (Try.prog.cellsOf 3)) = some y0 := hf 0 _ rfl
  rw [show Try.prog.cellsOf 3 = 1 from by kernel_rfl] at g0
  replace g0 : DataW.trod enc Try.prog w base spare held n 3 [c0] = some y0 := g0
  obtain ⟨v0, K0, q0⟩ := (opens_int Try.underlying3) enc w base spare held n _ _ g0 (fun m hm => hw m (weights_field (j := 0) (tj := 3) Try.underlying34 rfl rfl m hm))
  have g1 : DataW.trod enc Try.prog w base spare held n 3 (([c0, c1, c2, c3, c4, c5, c6, c7].drop 1).take (Try.prog.cellsOf 3)) = some y1 := hf 1 _ rfl
  rw [show Try.prog.cellsOf 3 = 1 from by kernel_rfl] at g1
  replace g1 : DataW.trod enc Try.prog w base spare held n 3 [c1] = some y1 := g1
  obtain ⟨v1, K1, q1⟩ := (opens_int Try.underlying3) enc w base spare held n _ _ g1 (fun m hm => hw m (weights_field (j := 1) (tj := 3) Try.underlying34 rfl rfl m hm))
  have g2 : DataW.trod enc Try.prog w base spare held n 3 (([c0, c1, c2, c3, c4, c5, c6, c7].drop 2).take (Try.prog.cellsOf 3)) = some y2 := hf 2 _ rfl
  rw [show Try.prog.cellsOf 3 = 1 from by kernel_rfl] at g2
  replace g2 : DataW.trod enc Try.prog w base spare held n 3 [c2] = some y2 := g2
  obtain ⟨v2, K2, q2⟩ := (opens_int Try.underlying3) enc w base spare held n _ _ g2 (fun m hm => hw m (weights_field (j := 2) (tj := 3) Try.underlying34 rfl rfl m hm))
  have g3 : DataW.trod enc Try.prog w base spare held n 3 (([c0, c1, c2, c3, c4, c5, c6, c7].drop 3).take (Try.prog.cellsOf 3)) = some y3 := hf 3 _ rfl
  rw [show Try.prog.cellsOf 3 = 1 from by kernel_rfl] at g3
  replace g3 : DataW.trod enc Try.prog w base spare held n 3 [c3] = some y3 := g3
  obtain ⟨v3, K3, q3⟩ := (opens_int Try.underlying3) enc w base spare held n _ _ g3 (fun m hm => hw m (weights_field (j := 3) (tj := 3) Try.underlying34 rfl rfl m hm))
  have g4 : DataW.trod enc Try.prog w base spare held n 3 (([c0, c1, c2, c3, c4, c5, c6, c7].drop 4).take (Try.prog.cellsOf 3)) = some y4 := hf 4 _ rfl
  rw [show Try.prog.cellsOf 3 = 1 from by kernel_rfl] at g4
  replace g4 : DataW.trod enc Try.prog w base spare held n 3 [c4] = some y4 := g4
  obtain ⟨v4, K4, q4⟩ := (opens_int Try.underlying3) enc w base spare held n _ _ g4 (fun m hm => hw m (weights_field (j := 4) (tj := 3) Try.underlying34 rfl rfl m hm))
  have g5 : DataW.trod enc Try.prog w base spare held n 3 (([c0, c1, c2, c3, c4, c5, c6, c7].drop 5).take (Try.prog.cellsOf 3)) = some y5 := hf 5 _ rfl
  rw [show Try.prog.cellsOf 3 = 1 from by kernel_rfl] at g5
  replace g5 : DataW.trod enc Try.prog w base spare held n 3 [c5] = some y5 := g5
  obtain ⟨v5, K5, q5⟩ := (opens_int Try.underlying3) enc w base spare held n _ _ g5 (fun m hm => hw m (weights_field (j := 5) (tj := 3) Try.underlying34 rfl rfl m hm))
  have g6 : DataW.trod enc Try.prog w base spare held n 3 (([c0, c1, c2, c3, c4, c5, c6, c7].drop 6).take (Try.prog.cellsOf 3)) = some y6 := hf 6 _ rfl
  rw [show Try.prog.cellsOf 3 = 1 from by kernel_rfl] at g6
  replace g6 : DataW.trod enc Try.prog w base spare held n 3 [c6] = some y6 := g6
  obtain ⟨v6, K6, q6⟩ := (opens_int Try.underlying3) enc w base spare held n _ _ g6 (fun m hm => hw m (weights_field (j := 6) (tj := 3) Try.underlying34 rfl rfl m hm))
  have g7 : DataW.trod enc Try.prog w base spare held n 32 (([c0, c1, c2, c3, c4, c5, c6, c7].drop 7).take (Try.prog.cellsOf 32)) = some y7 := hf 7 _ rfl
  rw [show Try.prog.cellsOf 32 = 1 from by kernel_rfl] at g7
  replace g7 : DataW.trod enc Try.prog w base spare held n 32 [c7] = some y7 := g7
  obtain ⟨v7, K7, q7⟩ := (opens_slice' Try.underlying32 (by kernel_rfl) (by kernel_rfl) open_S113) enc w base spare held n _ _ g7 (fun m hm => hw m (weights_field (j := 7) (tj := 32) Try.underlying34 rfl rfl m hm))
  exact ⟨⟨v0, v1, v2, v3, v4, v5, v6, v7⟩, ⟨[c0], [c1, c2, c3, c4, c5, c6, c7], rfl, K0, ⟨[c1], [c2, c3, c4, c5, c6, c7], rfl, K1, ⟨[c2], [c3, c4, c5, c6, c7], rfl, K2, ⟨[c3], [c4, c5, c6, c7], rfl, K3, ⟨[c4], [c5, c6, c7], rfl, K4, ⟨[c5], [c6, c7], rfl, K5, ⟨[c6], [c7], rfl, K6, K7⟩⟩⟩⟩⟩⟩⟩, ⟨q0, q1, q2, q3, q4, q5, q6, q7⟩⟩
def QS46 (x : S46) : Prop := ((Lit.int .i64 (x.f0)).wf = true) ∧ ((Lit.int .i64 (x.f1)).wf = true) ∧ ((Lit.int .i64 (x.f2)).wf = true) ∧ ((Lit.int .i64 (x.f3)).wf = true) ∧ (((x.f4).length * 24 ≤ reachBytes ∧ (x.f4).length ≤ maxLen ∧ ∀ y ∈ (x.f4), QS113 (y)))
theorem open_S46 : Opens Try.prog k46 46 QS46 := by
  intro H enc w base spare held fuel cs x h hw
  obtain ⟨xs, n, _, hx, hl, hxl, hf⟩ := DataW.trod_struct Try.underlying46 h
  rw [show Try.prog.cellsOf 46 = 5 from by kernel_rfl] at hl
  obtain ⟨c0, c1, c2, c3, c4, rfl⟩ : ∃ c0 c1 c2 c3 c4, cs = [c0, c1, c2, c3, c4] := by
    clear hf hx h
    match cs, hl with
    | [c0, c1, c2, c3, c4], _ => exact ⟨c0, c1, c2, c3, c4, rfl⟩
  obtain ⟨y0, y1, y2, y3, y4, rfl⟩ : ∃ y0 y1 y2 y3 y4, xs = [y0, y1, y2, y3, y4] := by
    have hxl2 : xs.length = 5 := hxl
    clear hxl hf hx
    match xs, hxl2 with
    | [y0, y1, y2, y3, y4], _ => exact ⟨y0, y1, y2, y3, y4, rfl⟩
  subst hx
  have g0 : DataW.trod enc Try.prog w base spare held n 3 (([c0, c1, c2, c3, c4].drop 0).take (Try.prog.cellsOf 3)) = some y0 := hf 0 _ rfl
  rw [show Try.prog.cellsOf 3 = 1 from by kernel_rfl] at g0
  replace g0 : DataW.trod enc Try.prog w base spare held n 3 [c0] = some y0 := g0
  obtain ⟨v0, K0, q0⟩ := (opens_int Try.underlying3) enc w base spare held n _ _ g0 (fun m hm => hw m (weights_field (j := 0) (tj := 3) Try.underlying46 rfl rfl m hm))
  have g1 : DataW.trod enc Try.prog w base spare held n 3 (([c0, c1, c2, c3, c4].drop 1).take (Try.prog.cellsOf 3)) = some y1 := hf 1 _ rfl
  rw [show Try.prog.cellsOf 3 = 1 from by kernel_rfl] at g1
  replace g1 : DataW.trod enc Try.prog w base spare held n 3 [c1] = some y1 := g1
  obtain ⟨v1, K1, q1⟩ := (opens_int Try.underlying3) enc w base spare held n _ _ g1 (fun m hm => hw m (weights_field (j := 1) (tj := 3) Try.underlying46 rfl rfl m hm))
  have g2 : DataW.trod enc Try.prog w base spare held n 3 (([c0, c1, c2, c3, c4].drop 2).take (Try.prog.cellsOf 3)) = some y2 := hf 2 _ rfl
  rw [show Try.prog.cellsOf 3 = 1 from by kernel_rfl] at g2
  replace g2 : DataW.trod enc Try.prog w base spare held n 3 [c2] = some y2 := g2
  obtain ⟨v2, K2, q2⟩ := (opens_int Try.underlying3) enc w base spare held n _ _ g2 (fun m hm => hw m (weights_field (j := 2) (tj := 3) Try.underlying46 rfl rfl m hm))
  have g3 : DataW.trod enc Try.prog w base spare held n 3 (([c0, c1, c2, c3, c4].drop 3).take (Try.prog.cellsOf 3)) = some y3 := hf 3 _ rfl
  rw [show Try.prog.cellsOf 3 = 1 from by kernel_rfl] at g3
  replace g3 : DataW.trod enc Try.prog w base spare held n 3 [c3] = some y3 := g3
  obtain ⟨v3, K3, q3⟩ := (opens_int Try.underlying3) enc w base spare held n _ _ g3 (fun m hm => hw m (weights_field (j := 3) (tj := 3) Try.underlying46 rfl rfl m hm))
  have g4 : DataW.trod enc Try.prog w base spare held n 32 (([c0, c1, c2, c3, c4].drop 4).take (Try.prog.cellsOf 32)) = some y4 := hf 4 _ rfl
  rw [show Try.prog.cellsOf 32 = 1 from by kernel_rfl] at g4
  replace g4 : DataW.trod enc Try.prog w base spare held n 32 [c4] = some y4 := g4
  obtain ⟨v4, K4, q4⟩ := (opens_slice' Try.underlying32 (by kernel_rfl) (by kernel_rfl) open_S113) enc w base spare held n _ _ g4 (fun m hm => hw m (weights_field (j := 4) (tj := 32) Try.underlying46 rfl rfl m hm))
  exact ⟨⟨v0, v1, v2, v3, v4⟩, ⟨[c0], [c1, c2, c3, c4], rfl, K0, ⟨[c1], [c2, c3, c4], rfl, K1, ⟨[c2], [c3, c4], rfl, K2, ⟨[c3], [c4], rfl, K3, K4⟩⟩⟩⟩, ⟨q0, q1, q2, q3, q4⟩⟩
end Go.Proofs.Ytlmlkcobkmhmbaa.OpMessageBack
end

section
/- the pure statement of MessageBack -/
namespace Go.Proofs.Ytlmlkcobkmhmbaa.PuMessageBack
open Go.RowKit Go.Proofs.YtlmlkcobkmhmbaaW.PrintWords Go.Proofs.YtlmlkcobkmhmbaaW.Hb Go.Proofs.YtlmlkcobkmhmbaaW.Ho Go.Proofs.Ytlmlkcobkmhmbaa.Q Go.Proofs.Ytlmlkcobkmhmbaa.OpMessageBack
def Pure : Prop := ∀ (x0 : S34) (x1 : S46) (x2 : Int), QS34 (x0) → QS46 (x1) → (Lit.int .u8 (x2)).wf = true → ∃ k, weighhouselaw17_MessageBack.f k (x0.f0) (x0.f1) (x0.f2) (x0.f3) (x0.f4) (x0.f5) (x0.f6) (x0.f7) (x1.f0) (x1.f1) (x1.f2) (x1.f3) (x1.f4) x2 = some true
end Go.Proofs.Ytlmlkcobkmhmbaa.PuMessageBack
end

section
/- messages as bytes: what is written, and how it is read back (plain laws) -/
set_option linter.unusedVariables false
set_option linter.unusedSimpArgs false
namespace Go.Proofs.Ytlmlkcobkmhmbaa.ThMsg
open Go.RowKit Go.Proofs.YtlmlkcobkmhmbaaW.PrintWords Go.Proofs.YtlmlkcobkmhmbaaW.Hb Go.Proofs.Ytlmlkcobkmhmbaa.Q

/-! ### what is written -/
def entBytes (v : Int) (s : ByteArray) : List Int := bigL (IntKind.u64.wrap v) 8 ++ textB s
def logB (l : List S74) : List Int := l.flatMap (fun x => entBytes x.f0 x.f1)
def headB (n : Nat) : List Int := [(n : Int) / 256, (n : Int) % 256]
def allB (by_ is_ : List Int) (l : List S74) : List Int := by_ ++ (ints8 is_ ++ (headB l.length ++ logB l))
def Good (P : List Int) (st : List Int × Int) : Prop := (st.2 = 0 ∧ st.1 = P ∧ P.length ≤ 1048576) ∨ (st.2 = 6 ∧ 1048576 < P.length)
theorem good_more {P p : List Int} {st : List Int × Int} (h : Good P st) : Good (P ++ p) ((wmore st.1 p).1, mustE st.2 (wmore st.1 p).2) := by
  obtain ⟨L, E⟩ := st
  rcases h with ⟨h1, h2, h3⟩ | ⟨h1, h2⟩
  · simp only at h1 h2
    subst h1 h2
    simp only [mustE_0]
    by_cases ht : 1048576 - (L.length : Int) < (p.length : Int)
    · rw [wmore_no ht]
      exact .inr ⟨rfl, by rw [List.length_append]; omega⟩
    · rw [wmore_yes ht]
      exact .inl ⟨rfl, rfl, by rw [List.length_append]; omega⟩
  · simp only at h1
    subst h1
    exact .inr ⟨rfl, by rw [List.length_append]; omega⟩
theorem good_text {P : List Int} {st : List Int × Int} {s : ByteArray} (h : Good P st) (hs : s.size ≤ 65535) : Good (P ++ textB s) ((wtexts st.1 [s]).1, mustE st.2 (wtexts st.1 [s]).2) := by
  have e : wtexts st.1 [s] = wmore st.1 (textB s) := by
    unfold wtexts
    have : tlong s = false := decide_eq_false (by omega)
    simp [this, textsB]
  rw [e]
  exact good_more h
theorem good_bytes {P p : List Int} {st : List Int × Int} (h : Good P st) (hp : ∀ x ∈ p, 0 ≤ x ∧ x ≤ 255) : Good (P ++ p) ((wbytes st.1 p).1, mustE st.2 (wbytes st.1 p).2) := by
  rw [wbytes_ok (fun x hx => badB_ok (hp x hx).1 (hp x hx).2)]
  exact good_more h
theorem good_put1 {P : List Int} {st : List Int × Int} {x : S74} (h : Good P st) (hs : x.f1.size ≤ 65535) : Good (P ++ entBytes x.f0 x.f1) (wput1 st x) := by
  have h1 := good_more (p := ints8 [x.f0]) h
  have h2 := good_text h1 hs
  have e : ints8 [x.f0] = bigL (IntKind.u64.wrap x.f0) 8 := by simp [ints8]
  unfold entBytes
  rw [← List.append_assoc, ← e]
  exact h2
theorem good_puts : ∀ (xs : List S74) (P : List Int) (st : List Int × Int), Good P st → (∀ x ∈ xs, x.f1.size ≤ 65535) → Good (P ++ logB xs) (wputs st xs)
  | [], P, st, h, _ => by simpa [logB, wputs] using h
  | x :: xs, P, st, h, hs => by
    have h1 := good_put1 h (hs x (List.mem_cons_self ..))
    have h2 := good_puts xs _ _ h1 (fun y hy => hs y (List.mem_cons_of_mem _ hy))
    have e : P ++ logB (x :: xs) = P ++ entBytes x.f0 x.f1 ++ logB xs := by simp [logB]
    rw [e]
    exact h2
theorem headB_in (n : Nat) (h : n ≤ 2048) : ∀ x ∈ headB n, 0 ≤ x ∧ x ≤ 255 := by
  intro x hx
  simp only [headB, List.mem_cons, List.not_mem_nil, or_false] at hx
  rcases hx with rfl | rfl <;> omega
theorem good_log {P : List Int} {st : List Int × Int} (xs : List S74) (h : Good P st) (hn : xs.length ≤ 2048) (hs : ∀ x ∈ xs, x.f1.size ≤ 65535) : Good (P ++ (headB xs.length ++ logB xs)) (wlog st xs) := by
  have h1 := good_bytes h (headB_in xs.length hn)
  have h2 := good_puts xs _ _ h1 hs
  rw [← List.append_assoc]
  exact h2
theorem wall_eq (by_ is_ : List Int) (l : List S74) (hb : ∀ x ∈ by_, 0 ≤ x ∧ x ≤ 255) (hn : l.length ≤ 2048) (hs : ∀ x ∈ l, x.f1.size ≤ 65535) : wall by_ is_ l = if (allB by_ is_ l).length ≤ 1048576 then (allB by_ is_ l, 0) else ([], 6) := by
  have h0 : Good [] ([], 0) := .inl ⟨rfl, rfl, by simp⟩
  have h1 := good_bytes h0 hb
  simp only [mustE_0, List.nil_append] at h1
  have h2 := good_more (p := ints8 is_) h1
  have h3 := good_log l h2 hn hs
  simp only at h3
  unfold wall
  rw [show allB by_ is_ l = by_ ++ ints8 is_ ++ (headB l.length ++ logB l) by simp [allB]]
  rcases h3 with ⟨g1, g2, g3⟩ | ⟨g1, g2⟩
  · rw [if_pos g3, g1, penRes_0, g2]
  · rw [if_neg (by omega), g1]
    rfl

/-! ### how it is read -/
theorem readL_back {α : Type} (mk : Int → ByteArray → α) : ∀ (xs : List S74) (rest : List Int) (acc : List α), (∀ x ∈ xs, x.f1.size ≤ 65535 ∧ -9223372036854775808 ≤ x.f0 ∧ x.f0 ≤ 9223372036854775807) → readL mk xs.length (logB xs ++ rest) 0 acc = (acc ++ xs.map (fun x => mk x.f0 x.f1), rest, 0)
  | [], rest, acc, _ => by simp [readL, logB]
  | x :: xs, rest, acc, h => by
    have hx := h x (List.mem_cons_self ..)
    have e : logB (x :: xs) ++ rest = bigL (IntKind.u64.wrap x.f0) 8 ++ (textB x.f1 ++ (logB xs ++ rest)) := by simp [logB, entBytes]
    rw [e, List.length_cons, readL_step mk (rInt_back x.f0 _ hx.2.1 hx.2.2) (rText_back x.f1 _ hx.1), readL_back mk xs rest _ (fun y hy => h y (List.mem_cons_of_mem _ hy))]
    simp
theorem rdLog_back {α : Type} (mk : Int → ByteArray → α) (xs : List S74) (rest : List Int) (hn : xs.length ≤ 2048) (h : ∀ x ∈ xs, x.f1.size ≤ 65535 ∧ -9223372036854775808 ≤ x.f0 ∧ x.f0 ≤ 9223372036854775807) : rdLog mk (headB xs.length ++ logB xs ++ rest) 0 = (xs.map (fun x => mk x.f0 x.f1), rest, 0) := by
  have h1 := rByte_back ((xs.length : Int) / 256) ((xs.length : Int) % 256 :: (logB xs ++ rest))
  have h2 := rByte_back ((xs.length : Int) % 256) (logB xs ++ rest)
  have e : headB xs.length ++ logB xs ++ rest = (xs.length : Int) / 256 :: (xs.length : Int) % 256 :: (logB xs ++ rest) := by simp [headB]
  rw [e, rdLog_is mk h1 h2 (n := xs.length) (by omega), readL_back mk xs rest [] h]
  simp
theorem rByte_ext {xs r t : List Int} {v : Int} (h : rByte xs 0 = (v, r, 0)) : rByte (xs ++ t) 0 = (v, r ++ t, 0) := by
  cases xs with
  | nil => rw [rByte_end (by simp)] at h; cases h
  | cons x xs =>
    rw [rByte_back] at h
    obtain ⟨rfl, h2⟩ := Prod.mk.inj h
    obtain ⟨rfl, _⟩ := Prod.mk.inj h2
    exact rByte_back _ _
theorem rInt_ext {xs r t : List Int} {v : Int} (h : rInt xs 0 = (v, r, 0)) : rInt (xs ++ t) 0 = (v, r ++ t, 0) := by
  by_cases hl : xs.length < 8
  · rw [rInt_end hl] at h; cases h
  · rw [rInt_ok hl] at h
    obtain ⟨rfl, h2⟩ := Prod.mk.inj h
    obtain ⟨rfl, _⟩ := Prod.mk.inj h2
    rw [rInt_ok (by rw [List.length_append]; omega), List.take_append_of_le_length (by omega), List.drop_append_of_le_length (by omega)]
theorem rText_ext {xs r t : List Int} {v : ByteArray} (h : rText xs 0 = (v, r, 0)) : rText (xs ++ t) 0 = (v, r ++ t, 0) := by
  by_cases hl : xs.length < 2
  · rw [rText_end hl] at h; cases h
  · have et : tlen (xs ++ t) = tlen xs := by
      unfold tlen
      have e : ∀ i : Nat, i < xs.length → rd (xs ++ t) (i : Int) = rd xs (i : Int) := fun i hi => by
        simp only [rd, Int.toNat_natCast, List.getD_eq_getElem?_getD, List.getElem?_append_left hi]
      rw [e 0 (by omega), e 1 (by omega)]
    by_cases hl2 : xs.length < 2 + tlen xs
    · rw [rText_end2 hl hl2] at h; cases h
    · rw [rText_ok hl hl2] at h
      obtain ⟨rfl, h2⟩ := Prod.mk.inj h
      obtain ⟨rfl, _⟩ := Prod.mk.inj h2
      rw [rText_ok (by rw [List.length_append]; omega) (by rw [List.length_append, et]; omega), et, List.drop_append_of_le_length (by omega), List.take_append_of_le_length (by rw [List.length_drop]; omega), List.drop_append_of_le_length (by omega)]
theorem rByte_stick {xs r : List Int} {e v : Int} (h : rByte xs e = (v, r, 0)) : e = 0 := by
  by_cases he : e ≠ 0
  · rw [rByte_err he] at h
    cases h
    rfl
  · omega
theorem rInt_stick {xs r : List Int} {e v : Int} (h : rInt xs e = (v, r, 0)) : e = 0 := by
  by_cases he : e ≠ 0
  · rw [rInt_err he] at h
    cases h
    rfl
  · omega
theorem rText_stick {xs r : List Int} {e : Int} {v : ByteArray} (h : rText xs e = (v, r, 0)) : e = 0 := by
  by_cases he : e ≠ 0
  · rw [rText_err he] at h
    cases h
    rfl
  · omega
theorem readL_stick {α : Type} (mk : Int → ByteArray → α) {n : Nat} {xs r : List Int} {e : Int} {acc l : List α} (h : readL mk n xs e acc = (l, r, 0)) : e = 0 := by
  by_cases he : e ≠ 0
  · rw [readL_err mk n xs he] at h
    cases h
    rfl
  · omega
theorem readL_ext {α : Type} (mk : Int → ByteArray → α) {t : List Int} : ∀ (n : Nat) (xs r : List Int) (acc l : List α), readL mk n xs 0 acc = (l, r, 0) → readL mk n (xs ++ t) 0 acc = (l, r ++ t, 0)
  | 0, xs, r, acc, l, h => by
    rw [readL_0] at h
    cases h
    rfl
  | n + 1, xs, r, acc, l, h => by
    obtain ⟨v, x1, e1, h1⟩ : ∃ v x e, rInt xs 0 = (v, x, e) := ⟨_, _, _, rfl⟩
    obtain ⟨s, x2, e2, h2⟩ : ∃ v x e, rText x1 e1 = (v, x, e) := ⟨_, _, _, rfl⟩
    rw [readL_step mk h1 h2] at h
    obtain rfl := readL_stick mk h
    obtain rfl := rText_stick h2
    rw [readL_step mk (rInt_ext h1) (rText_ext h2)]
    exact readL_ext mk n _ _ _ _ h
theorem rdLog_stick {α : Type} (mk : Int → ByteArray → α) {xs r : List Int} {e : Int} {l : List α} (h : rdLog mk xs e = (l, r, 0)) : e = 0 := by
  unfold rdLog at h
  have h1 := readL_stick mk h
  obtain ⟨v, x1, e1, q1⟩ : ∃ v x e', rByte xs e = (v, x, e') := ⟨_, _, _, rfl⟩
  obtain ⟨v2, x2, e2, q2⟩ : ∃ v x e', rByte x1 e1 = (v, x, e') := ⟨_, _, _, rfl⟩
  rw [q1] at h1
  simp only [q2] at h1
  subst h1
  obtain rfl := rByte_stick q2
  exact rByte_stick q1
theorem rdLog_ext {α : Type} (mk : Int → ByteArray → α) {t xs r : List Int} {l : List α} (h : rdLog mk xs 0 = (l, r, 0)) : rdLog mk (xs ++ t) 0 = (l, r ++ t, 0) := by
  unfold rdLog at h ⊢
  have h1 := readL_stick mk h
  obtain ⟨v, x1, e1, q1⟩ : ∃ v x e', rByte xs 0 = (v, x, e') := ⟨_, _, _, rfl⟩
  obtain ⟨v2, x2, e2, q2⟩ : ∃ v x e', rByte x1 e1 = (v, x, e') := ⟨_, _, _, rfl⟩
  rw [q1] at h h1
  simp only [q2] at h h1
  subst h1
  obtain rfl := rByte_stick q2
  rw [rByte_ext q1]
  simp only [rByte_ext q2]
  exact readL_ext mk _ _ _ _ _ h

/-! ### a message, a record, read whole -/
structure DM (α : Type) where
  a : Int
  b : Int
  c : Int
  d : Int
  e : Int
  f : Int
  g : Int
  l : List α
  r : List Int
  er : Int
def decM {α : Type} (mk : Int → ByteArray → α) (l : List Int) : DM α :=
  let k := rByte l 0; let fr := rByte k.2.1 k.2.2; let t := rByte fr.2.1 fr.2.2; let v := rInt t.2.1 t.2.2; let o := rInt v.2.1 v.2.2; let c := rInt o.2.1 o.2.2; let n := rInt c.2.1 c.2.2; let g := rdLog mk n.2.1 n.2.2
  ⟨k.1, fr.1, t.1, v.1, o.1, c.1, n.1, g.1, g.2.1, g.2.2⟩
theorem decM_is {α : Type} (mk : Int → ByteArray → α) {l x1 x2 x3 x4 x5 x6 x7 x8 : List Int} {v1 v2 v3 v4 v5 v6 v7 e1 e2 e3 e4 e5 e6 e7 e8 : Int} {ls : List α} (h1 : rByte l 0 = (v1, x1, e1)) (h2 : rByte x1 e1 = (v2, x2, e2)) (h3 : rByte x2 e2 = (v3, x3, e3)) (h4 : rInt x3 e3 = (v4, x4, e4)) (h5 : rInt x4 e4 = (v5, x5, e5)) (h6 : rInt x5 e5 = (v6, x6, e6)) (h7 : rInt x6 e6 = (v7, x7, e7)) (h8 : rdLog mk x7 e7 = (ls, x8, e8)) :
    decM mk l = ⟨v1, v2, v3, v4, v5, v6, v7, ls, x8, e8⟩ := by
  simp only [decM, h1, h2, h3, h4, h5, h6, h7, h8]
theorem decM_ext {α : Type} (mk : Int → ByteArray → α) {t xs r : List Int} {a b c d e f g : Int} {l : List α} (h : decM mk xs = ⟨a, b, c, d, e, f, g, l, r, 0⟩) : decM mk (xs ++ t) = ⟨a, b, c, d, e, f, g, l, r ++ t, 0⟩ := by
  obtain ⟨v1, x1, e1, h1⟩ : ∃ v x e', rByte xs 0 = (v, x, e') := ⟨_, _, _, rfl⟩
  obtain ⟨v2, x2, e2, h2⟩ : ∃ v x e', rByte x1 e1 = (v, x, e') := ⟨_, _, _, rfl⟩
  obtain ⟨v3, x3, e3, h3⟩ : ∃ v x e', rByte x2 e2 = (v, x, e') := ⟨_, _, _, rfl⟩
  obtain ⟨v4, x4, e4, h4⟩ : ∃ v x e', rInt x3 e3 = (v, x, e') := ⟨_, _, _, rfl⟩
  obtain ⟨v5, x5, e5, h5⟩ : ∃ v x e', rInt x4 e4 = (v, x, e') := ⟨_, _, _, rfl⟩
  obtain ⟨v6, x6, e6, h6⟩ : ∃ v x e', rInt x5 e5 = (v, x, e') := ⟨_, _, _, rfl⟩
  obtain ⟨v7, x7, e7, h7⟩ : ∃ v x e', rInt x6 e6 = (v, x, e') := ⟨_, _, _, rfl⟩
  obtain ⟨ls, x8, e8, h8⟩ : ∃ v x e', rdLog mk x7 e7 = (v, x, e') := ⟨_, _, _, rfl⟩
  rw [decM_is mk h1 h2 h3 h4 h5 h6 h7 h8] at h
  obtain ⟨rfl, rfl, rfl, rfl, rfl, rfl, rfl, rfl, rfl, rfl⟩ : v1 = a ∧ v2 = b ∧ v3 = c ∧ v4 = d ∧ v5 = e ∧ v6 = f ∧ v7 = g ∧ ls = l ∧ x8 = r ∧ e8 = 0 := by simpa using h
  obtain rfl := rdLog_stick mk h8
  obtain rfl := rInt_stick h7
  obtain rfl := rInt_stick h6
  obtain rfl := rInt_stick h5
  obtain rfl := rInt_stick h4
  obtain rfl := rByte_stick h3
  obtain rfl := rByte_stick h2
  exact decM_is mk (rByte_ext h1) (rByte_ext h2) (rByte_ext h3) (rInt_ext h4) (rInt_ext h5) (rInt_ext h6) (rInt_ext h7) (rdLog_ext mk h8)
structure DR (α : Type) where
  a : Int
  b : Int
  c : Int
  d : Int
  l : List α
  r : List Int
  er : Int
def decR {α : Type} (mk : Int → ByteArray → α) (l : List Int) : DR α :=
  let k := rByte l 0; let v := rInt k.2.1 k.2.2; let o := rInt v.2.1 v.2.2; let c := rInt o.2.1 o.2.2; let g := rdLog mk c.2.1 c.2.2
  ⟨k.1, v.1, o.1, c.1, g.1, g.2.1, g.2.2⟩
theorem decR_is {α : Type} (mk : Int → ByteArray → α) {l x1 x2 x3 x4 x8 : List Int} {v1 v2 v3 v4 e1 e2 e3 e4 e8 : Int} {ls : List α} (h1 : rByte l 0 = (v1, x1, e1)) (h2 : rInt x1 e1 = (v2, x2, e2)) (h3 : rInt x2 e2 = (v3, x3, e3)) (h4 : rInt x3 e3 = (v4, x4, e4)) (h8 : rdLog mk x4 e4 = (ls, x8, e8)) :
    decR mk l = ⟨v1, v2, v3, v4, ls, x8, e8⟩ := by
  simp only [decR, h1, h2, h3, h4, h8]
theorem decR_ext {α : Type} (mk : Int → ByteArray → α) {t xs r : List Int} {a b c d : Int} {l : List α} (h : decR mk xs = ⟨a, b, c, d, l, r, 0⟩) : decR mk (xs ++ t) = ⟨a, b, c, d, l, r ++ t, 0⟩ := by
  obtain ⟨v1, x1, e1, h1⟩ : ∃ v x e', rByte xs 0 = (v, x, e') := ⟨_, _, _, rfl⟩
  obtain ⟨v2, x2, e2, h2⟩ : ∃ v x e', rInt x1 e1 = (v, x, e') := ⟨_, _, _, rfl⟩
  obtain ⟨v3, x3, e3, h3⟩ : ∃ v x e', rInt x2 e2 = (v, x, e') := ⟨_, _, _, rfl⟩
  obtain ⟨v4, x4, e4, h4⟩ : ∃ v x e', rInt x3 e3 = (v, x, e') := ⟨_, _, _, rfl⟩
  obtain ⟨ls, x8, e8, h8⟩ : ∃ v x e', rdLog mk x4 e4 = (v, x, e') := ⟨_, _, _, rfl⟩
  rw [decR_is mk h1 h2 h3 h4 h8] at h
  obtain ⟨rfl, rfl, rfl, rfl, rfl, rfl, rfl⟩ : v1 = a ∧ v2 = b ∧ v3 = c ∧ v4 = d ∧ ls = l ∧ x8 = r ∧ e8 = 0 := by simpa using h
  obtain rfl := rdLog_stick mk h8
  obtain rfl := rInt_stick h4
  obtain rfl := rInt_stick h3
  obtain rfl := rInt_stick h2
  exact decR_is mk (rByte_ext h1) (rInt_ext h2) (rInt_ext h3) (rInt_ext h4) (rdLog_ext mk h8)

/-! ### there and back -/
def I64 (x : Int) : Prop := -9223372036854775808 ≤ x ∧ x ≤ 9223372036854775807
def FitL (l : List S74) : Prop := l.length ≤ 2048 ∧ ∀ x ∈ l, x.f1.size ≤ 65535 ∧ -9223372036854775808 ≤ x.f0 ∧ x.f0 ≤ 9223372036854775807
theorem ints8_four (a b c d : Int) (rest : List Int) : ints8 [a, b, c, d] ++ rest = bigL (IntKind.u64.wrap a) 8 ++ (bigL (IntKind.u64.wrap b) 8 ++ (bigL (IntKind.u64.wrap c) 8 ++ (bigL (IntKind.u64.wrap d) 8 ++ rest))) := by simp [ints8]
theorem ints8_three (a b c : Int) (rest : List Int) : ints8 [a, b, c] ++ rest = bigL (IntKind.u64.wrap a) 8 ++ (bigL (IntKind.u64.wrap b) 8 ++ (bigL (IntKind.u64.wrap c) 8 ++ rest)) := by simp [ints8]
theorem decM_back {α : Type} (mk : Int → ByteArray → α) (a b c d e f g : Int) (l : List S74) (rest : List Int) (hd : I64 d) (he : I64 e) (hf : I64 f) (hg : I64 g) (hl : FitL l) :
    decM mk (allB [a, b, c] [d, e, f, g] l ++ rest) = ⟨a, b, c, d, e, f, g, l.map (fun x => mk x.f0 x.f1), rest, 0⟩ := by
  have e1 : allB [a, b, c] [d, e, f, g] l ++ rest = a :: b :: c :: (ints8 [d, e, f, g] ++ (headB l.length ++ logB l ++ rest)) := by simp [allB]
  rw [e1, ints8_four]
  exact decM_is mk (rByte_back _ _) (rByte_back _ _) (rByte_back _ _) (rInt_back _ _ hd.1 hd.2) (rInt_back _ _ he.1 he.2) (rInt_back _ _ hf.1 hf.2) (rInt_back _ _ hg.1 hg.2) (rdLog_back mk l rest hl.1 hl.2)
theorem decR_back {α : Type} (mk : Int → ByteArray → α) (a b c d : Int) (l : List S74) (rest : List Int) (hb : I64 b) (hc : I64 c) (hd : I64 d) (hl : FitL l) :
    decR mk (allB [a] [b, c, d] l ++ rest) = ⟨a, b, c, d, l.map (fun x => mk x.f0 x.f1), rest, 0⟩ := by
  have e1 : allB [a] [b, c, d] l ++ rest = a :: (ints8 [b, c, d] ++ (headB l.length ++ logB l ++ rest)) := by simp [allB]
  rw [e1, ints8_three]
  exact decR_is mk (rByte_back _ _) (rInt_back _ _ hb.1 hb.2) (rInt_back _ _ hc.1 hc.2) (rInt_back _ _ hd.1 hd.2) (rdLog_back mk l rest hl.1 hl.2)
theorem rDone_0 (r : List Int) (e : Int) : rDone r e = 0 ↔ e = 0 ∧ r = [] := by
  unfold rDone
  by_cases he : e ≠ 0
  · rw [if_pos he]
    constructor
    · intro h; exact absurd h he
    · intro h; exact h.1
  · rw [if_neg he]
    by_cases hr : 0 < r.length
    · rw [if_pos hr]
      constructor
      · intro h; cases h
      · intro h; rw [h.2] at hr; simp at hr
    · rw [if_neg hr]
      constructor
      · intro _; exact ⟨by omega, List.eq_nil_of_length_eq_zero (by omega)⟩
      · intro _; rfl
/-! ### what may be -/
theorem mkE_id (l : List S74) : l.map (fun x => mkE x.f0 x.f1) = l := by
  conv => rhs; rw [← List.map_id l]
  exact List.map_congr_left (fun x _ => rfl)
theorem outR_in {n : Int} (h : outR n = false) : 0 ≤ n ∧ n ≤ 1099511627776 := by
  simp only [outR, Bool.or_eq_false_iff, decide_eq_false_iff_not] at h
  omega
theorem rightM_in {k fr t v o c n : Int} {l : List S74} (h : rightM k fr t v o c n l = true) : (1 ≤ k ∧ k ≤ 8) ∧ (0 ≤ fr ∧ fr < 8) ∧ (0 ≤ t ∧ t < 8) ∧ (0 ≤ v ∧ v ≤ 1099511627776) ∧ (0 ≤ o ∧ o ≤ 1099511627776) ∧ (0 ≤ c ∧ c ≤ 1099511627776) ∧ (0 ≤ n ∧ n ≤ 1099511627776) ∧ entB l = true := by
  simp only [rightM, Bool.and_eq_true, Bool.not_eq_true', decide_eq_true_eq, List.any_cons, List.any_nil, Bool.or_false, Bool.or_eq_false_iff] at h
  obtain ⟨_, ⟨⟨⟨⟨h1, h2⟩, h3⟩, h4⟩, h5, h6, h7, h8⟩, h9⟩ := h
  exact ⟨⟨h1, h2⟩, idB_t h3, idB_t h4, outR_in h5, outR_in h6, outR_in h7, outR_in h8, h9⟩
theorem rightR_in {k v o c : Int} {l : List S74} (h : rightR ⟨k, v, o, c, l⟩ = true) : (1 ≤ k ∧ k ≤ 3) ∧ (0 ≤ v ∧ v ≤ 1099511627776) ∧ (0 ≤ o ∧ o ≤ 1099511627776) ∧ (0 ≤ c ∧ c ≤ 1099511627776) ∧ entB l = true := by
  simp only [rightR, Bool.and_eq_true, Bool.not_eq_true', decide_eq_true_eq, List.any_cons, List.any_nil, Bool.or_false, Bool.or_eq_false_iff] at h
  obtain ⟨⟨⟨⟨h1, h2⟩, _⟩, h5, h6, h7⟩, h9⟩ := h
  exact ⟨⟨h1, h2⟩, outR_in h5, outR_in h6, outR_in h7, h9⟩
theorem fitL_of {l : List S74} (h : entB l = true) : FitL l := by
  refine ⟨(entB_is h).1, fun x hx => ?_⟩
  simp only [entB, Bool.and_eq_true, decide_eq_true_eq, Bool.not_eq_true', List.any_eq_false] at h
  have := h.2 x hx
  simp only [outE, Bool.not_eq_true, Bool.or_eq_false_iff, decide_eq_false_iff_not] at this
  have := outR_in this.1
  omega
theorem nums_str (l : List Int) (h : ∀ x ∈ l, 0 ≤ x ∧ x ≤ 255) : bytesOf (strOfNums l) = l := by
  unfold strOfNums bytesOf
  simp only [List.map_map]
  conv => rhs; rw [← List.map_id l]
  refine List.map_congr_left (fun x hx => ?_)
  have := h x hx
  simp
  omega
theorem logB_in (l : List S74) : ∀ x ∈ logB l, 0 ≤ x ∧ x ≤ 255 := by
  intro x hx
  obtain ⟨y, _, hy⟩ := List.mem_flatMap.1 hx
  rcases List.mem_append.1 hy with h | h
  · exact bigL_B _ _ x h
  · rcases List.mem_append.1 h with h | h
    · exact bigL_B _ _ x h
    · exact bytesOf_B _ x h
theorem allB_in {by_ is_ : List Int} {l : List S74} (hb : ∀ x ∈ by_, 0 ≤ x ∧ x ≤ 255) (hn : l.length ≤ 2048) : ∀ x ∈ allB by_ is_ l, 0 ≤ x ∧ x ≤ 255 := by
  intro x hx
  rcases List.mem_append.1 hx with h | h
  · exact hb x h
  · rcases List.mem_append.1 h with h | h
    · exact ints8_B _ x h
    · rcases List.mem_append.1 h with h | h
      · exact headB_in _ hn x h
      · exact logB_in _ x h
end Go.Proofs.Ytlmlkcobkmhmbaa.ThMsg
end

section
/- the law functions' own helpers, told plainly: messages -/
set_option linter.unusedVariables false
set_option linter.unusedSimpArgs false
namespace Go.Proofs.Ytlmlkcobkmhmbaa.ThMsl
open Go.RowKit Go.Proofs.YtlmlkcobkmhmbaaW.PrintWords Go.Proofs.YtlmlkcobkmhmbaaW.Hb Go.Proofs.Ytlmlkcobkmhmbaa.Q Go.Proofs.Ytlmlkcobkmhmbaa.ThMsg

theorem wrap_in {x : Int} (h0 : -9223372036854775808 ≤ x) (h1 : x ≤ 9223372036854775807) : wrap64 x = x := by
  unfold wrap64
  omega
theorem str_beq (a b : ByteArray) : (a.toList == b.toList) = decide (a = b) := by
  by_cases h : a = b
  · subst h
    simp
  · have : a.toList ≠ b.toList := fun he => h (by
      simp only [ByteArray.toList_eq] at he
      cases a; cases b
      simpa using he)
    simp [h, this]
instance : DecidableEq S74 := fun x y => decidable_of_iff ((x.f0, x.f1) = (y.f0, y.f1)) (by cases x; cases y; simp)
def toE (e : S113) : S74 := ⟨e.f0, e.f1⟩
theorem log_loop (l : List S113) (hl : l.length * 24 ≤ 140737488351232) (d : Nat) : ∀ i, l.length - i = d → i ≤ l.length → Ev (fun k => weighhouselaw17_Log.l0 k l ((l.take i).map toE) i) (l.map toE) := by
  induction d with
  | zero =>
    intro i hd hi
    refine Ev.step (f := fun _ => some (l.map toE)) (fun k => ?_) (Ev.now _)
    simp only [weighhouselaw17_Log.l0]
    rw [if_neg (by omega), List.take_of_length_le (by omega)]
  | succ d ih =>
    intro i hd hi
    refine Ev.step (f := fun k => weighhouselaw17_Log.l0 k l ((l.take (i + 1)).map toE) ((i + 1 : Nat) : Int)) (fun k => ?_) (ih (i + 1) (by omega) (by omega))
    simp only [weighhouselaw17_Log.l0]
    have e1 : rd_T113 l (i : Int) = l[i]'(by omega) := by simp [rd_T113, List.getD_eq_getElem?_getD, show i < l.length by omega]
    rw [if_pos (by omega), if_pos (by omega), if_pos (by rw [List.length_map, List.length_take]; omega), wrap_in (by omega) (by omega), e1, List.take_succ_eq_append_getElem (by omega), List.map_append]
    rfl
theorem log_ev (l : List S113) (hl : l.length * 24 ≤ 140737488351232) : Ev (fun k => weighhouselaw17_Log.f k l) (l.map toE) := by
  have := log_loop l hl l.length 0 (by omega) (by omega)
  simpa [weighhouselaw17_Log.f] using this
theorem message_ev (a b c d e f g : Int) (l : List S113) (hl : l.length * 24 ≤ 140737488351232) : Ev (fun k => weighhouselaw17_Message.f k a b c d e f g l) (a, b, c, d, e, f, g, l.map toE) := by
  unfold weighhouselaw17_Message.f
  exact Ev.bind (log_ev _ hl) (Ev.now _)
theorem ent_eq (x y : S74) : ((!((x.f0 == y.f0)) || (!((x.f1.toList) == (y.f1.toList)))) = true) ↔ ¬ x = y := by
  rw [str_beq]
  obtain ⟨a, s⟩ := x
  obtain ⟨b, t⟩ := y
  simp only [Bool.or_eq_true, Bool.not_eq_true', S74.mk.injEq]
  by_cases h1 : a = b <;> by_cases h2 : s = t <;> simp [h1, h2]
theorem same_loop (l m : List S74) (hl : l.length = m.length) (hm : l.length ≤ 4611686018427387904) (d : Nat) : ∀ i, l.length - i = d → i ≤ l.length → l.take i = m.take i → Ev (fun k => weighhouselaw17_SameLog.l0 k l m i) (decide (l = m)) := by
  induction d with
  | zero =>
    intro i hd hi ht
    have : l = m := by
      rw [← List.take_of_length_le (show l.length ≤ i by omega), ht, List.take_of_length_le (by omega)]
    refine Ev.step (f := fun _ => some (decide (l = m))) (fun k => ?_) (Ev.now _)
    simp only [weighhouselaw17_SameLog.l0]
    rw [if_neg (by omega), this]
    simp
  | succ d ih =>
    intro i hd hi ht
    have hil : i < l.length := by omega
    have hjl : i < m.length := by omega
    have e1 : rd_T74 l (i : Int) = l[i] := by simp [rd_T74, List.getD_eq_getElem?_getD, hil]
    have e2 : rd_T74 m (i : Int) = m[i] := by simp [rd_T74, List.getD_eq_getElem?_getD, hjl]
    by_cases h : l[i] = m[i]
    · refine Ev.step (f := fun k => weighhouselaw17_SameLog.l0 k l m ((i + 1 : Nat) : Int)) (fun k => ?_) (ih (i + 1) (by omega) (by omega) (by rw [List.take_succ_eq_append_getElem hil, List.take_succ_eq_append_getElem hjl, ht, h]))
      simp only [weighhouselaw17_SameLog.l0]
      rw [if_pos (by omega), if_pos (by omega), if_pos (by omega), e1, e2, if_neg (by rw [ent_eq]; simpa using h), wrap_in (by omega) (by omega)]
      rfl
    · have hne : ¬ l = m := fun he => h (by subst he; rfl)
      refine Ev.step (f := fun _ => some false) (fun k => ?_) (by simp only [hne, decide_false]; exact Ev.now _)
      simp only [weighhouselaw17_SameLog.l0]
      rw [if_pos (by omega), if_pos (by omega), if_pos (by omega), e1, e2, if_pos (by rw [ent_eq]; exact h)]
theorem sameLog_ev (l m : List S74) (hm : l.length ≤ 4611686018427387904) : Ev (fun k => weighhouselaw17_SameLog.f k l m) (decide (l = m)) := by
  unfold weighhouselaw17_SameLog.f
  by_cases h : (l.length : Int) = (m.length : Int)
  · simp only [if_pos h]
    exact same_loop l m (by omega) hm l.length 0 (by omega) (by omega) (by simp)
  · simp only [if_neg h]
    have hne : ¬ l = m := fun he => h (by subst he; rfl)
    simp only [hne, decide_false]
    exact Ev.now _
structure M74 where
  a : Int
  b : Int
  c : Int
  d : Int
  e : Int
  f : Int
  g : Int
  l : List S74
instance : DecidableEq M74 := fun x y => decidable_of_iff (((x.a, x.b, x.c, x.d) = (y.a, y.b, y.c, y.d)) ∧ ((x.e, x.f, x.g, x.l) = (y.e, y.f, y.g, y.l))) (by cases x; cases y; simp; constructor <;> intro h <;> simp_all)
theorem same_ev (x y : M74) (hm : x.l.length ≤ 4611686018427387904) : Ev (fun k => weighhouselaw17_Same.f k x.a x.b x.c x.d x.e x.f x.g x.l y.a y.b y.c y.d y.e y.f y.g y.l) (decide (x = y)) := by
  obtain ⟨a, b, c, d, e, f, g, l⟩ := x
  obtain ⟨a', b', c', d', e', f', g', l'⟩ := y
  simp only [M74.mk.injEq]
  unfold weighhouselaw17_Same.f
  by_cases h1 : a = a'
  rotate_left
  · simp only [if_neg h1, h1, false_and, decide_false]; exact Ev.now _
  by_cases h2 : b = b'
  rotate_left
  · simp only [if_pos h1, if_neg h2, h2, false_and, and_false, decide_false]; exact Ev.now _
  by_cases h3 : c = c'
  rotate_left
  · simp only [if_pos h1, if_pos h2, if_neg h3, h3, false_and, and_false, decide_false]; exact Ev.now _
  by_cases h4 : d = d'
  rotate_left
  · simp only [if_pos h1, if_pos h2, if_pos h3, if_neg h4, h4, false_and, and_false, decide_false]; exact Ev.now _
  by_cases h5 : e = e'
  rotate_left
  · simp only [if_pos h1, if_pos h2, if_pos h3, if_pos h4, if_neg h5, h5, false_and, and_false, decide_false]; exact Ev.now _
  by_cases h6 : f = f'
  rotate_left
  · simp only [if_pos h1, if_pos h2, if_pos h3, if_pos h4, if_pos h5, if_neg h6, h6, false_and, and_false, decide_false]; exact Ev.now _
  by_cases h7 : g = g'
  rotate_left
  · simp only [if_pos h1, if_pos h2, if_pos h3, if_pos h4, if_pos h5, if_pos h6, if_neg h7, h7, false_and, and_false, decide_false]; exact Ev.now _
  simp only [if_pos h1, if_pos h2, if_pos h3, if_pos h4, if_pos h5, if_pos h6, if_pos h7]
  have e : decide (a = a' ∧ b = b' ∧ c = c' ∧ d = d' ∧ e = e' ∧ f = f' ∧ g = g' ∧ l = l') = decide (l = l') := by simp [h1, h2, h3, h4, h5, h6, h7]
  rw [e]
  exact Ev.bind (sameLog_ev l l' hm) (Ev.now _)
/-! ### what Put says -/
def putM (x : M74) : List Int × Int := if rightM x.a x.b x.c x.d x.e x.f x.g x.l = true then wall [x.a, x.b, x.c] [x.d, x.e, x.f, x.g] x.l else ([], 1)
def bytesM (x : M74) : List Int := allB [x.a, x.b, x.c] [x.d, x.e, x.f, x.g] x.l
theorem by3 {a b c : Int} (ha : 0 ≤ a ∧ a ≤ 255) (hb : 0 ≤ b ∧ b ≤ 255) (hc : 0 ≤ c ∧ c ≤ 255) : ∀ x ∈ [a, b, c], 0 ≤ x ∧ x ≤ 255 := by
  intro x hx
  simp only [List.mem_cons, List.not_mem_nil, or_false] at hx
  rcases hx with rfl | rfl | rfl <;> assumption
theorem putM_right {x : M74} (h : rightM x.a x.b x.c x.d x.e x.f x.g x.l = true) : putM x = if (bytesM x).length ≤ 1048576 then (bytesM x, 0) else ([], 6) := by
  have hh := rightM_in h
  have hf := fitL_of hh.2.2.2.2.2.2.2
  unfold putM bytesM
  rw [if_pos h, wall_eq _ _ _ (by3 (by omega) (by omega) (by omega)) hf.1 (fun y hy => (hf.2 y hy).1)]
theorem putM_0 {x : M74} (h : (putM x).2 = 0) : rightM x.a x.b x.c x.d x.e x.f x.g x.l = true ∧ (bytesM x).length ≤ 1048576 ∧ putM x = (bytesM x, 0) := by
  by_cases hr : rightM x.a x.b x.c x.d x.e x.f x.g x.l = true
  · rw [putM_right hr] at h ⊢
    by_cases hl : (bytesM x).length ≤ 1048576
    · rw [if_pos hl]; exact ⟨hr, hl, rfl⟩
    · rw [if_neg hl] at h; cases h
  · unfold putM at h
    rw [if_neg hr] at h
    cases h
theorem decM_bytes {x : M74} (h : rightM x.a x.b x.c x.d x.e x.f x.g x.l = true) (rest : List Int) : decM mkE (bytesM x ++ rest) = ⟨x.a, x.b, x.c, x.d, x.e, x.f, x.g, x.l, rest, 0⟩ := by
  have hh := rightM_in h
  unfold bytesM
  rw [decM_back mkE x.a x.b x.c x.d x.e x.f x.g x.l rest (by unfold I64; omega) (by unfold I64; omega) (by unfold I64; omega) (by unfold I64; omega) (fitL_of hh.2.2.2.2.2.2.2), mkE_id]
theorem bytesM_in {x : M74} (h : rightM x.a x.b x.c x.d x.e x.f x.g x.l = true) : ∀ y ∈ bytesM x, 0 ≤ y ∧ y ≤ 255 := by
  have hh := rightM_in h
  exact allB_in (by3 (by omega) (by omega) (by omega)) (fitL_of hh.2.2.2.2.2.2.2).1
theorem bytesM_inj {x y : M74} (hx : rightM x.a x.b x.c x.d x.e x.f x.g x.l = true) (hy : rightM y.a y.b y.c y.d y.e y.f y.g y.l = true) (h : bytesM x = bytesM y) : x = y := by
  have h1 := decM_bytes hx []
  have h2 := decM_bytes hy []
  rw [h, h2] at h1
  obtain ⟨q1, q2, q3, q4, q5, q6, q7, q8⟩ : y.a = x.a ∧ y.b = x.b ∧ y.c = x.c ∧ y.d = x.d ∧ y.e = x.e ∧ y.f = x.f ∧ y.g = x.g ∧ y.l = x.l := by simpa using h1
  cases x; cases y
  simp_all
theorem str_same {l m : List Int} (hl : ∀ x ∈ l, 0 ≤ x ∧ x ≤ 255) (hm : ∀ x ∈ m, 0 ≤ x ∧ x ≤ 255) : ((strOfNums l).toList == (strOfNums m).toList) = decide (l = m) := by
  rw [str_beq]
  by_cases h : l = m
  · simp [h]
  · have : ¬ strOfNums l = strOfNums m := fun he => h (by rw [← nums_str l hl, ← nums_str m hm, he])
    simp [h, this]
end Go.Proofs.Ytlmlkcobkmhmbaa.ThMsl
end

section
/- the law functions' own helpers, told plainly: records -/
set_option linter.unusedVariables false
set_option linter.unusedSimpArgs false
namespace Go.Proofs.Ytlmlkcobkmhmbaa.ThMsr
open Go.RowKit Go.Proofs.YtlmlkcobkmhmbaaW.PrintWords Go.Proofs.YtlmlkcobkmhmbaaW.Hb Go.Proofs.Ytlmlkcobkmhmbaa.Q Go.Proofs.Ytlmlkcobkmhmbaa.ThMsg Go.Proofs.Ytlmlkcobkmhmbaa.ThMsl
theorem record_ev (a b c d : Int) (l : List S113) (hl : l.length * 24 ≤ 140737488351232) : Ev (fun k => weighhouselaw17_Record.f k a b c d l) (a, b, c, d, l.map toE) := by
  unfold weighhouselaw17_Record.f
  exact Ev.bind (log_ev _ hl) (Ev.now _)
structure R74 where
  a : Int
  b : Int
  c : Int
  d : Int
  l : List S74
instance : DecidableEq R74 := fun x y => decidable_of_iff ((x.a, x.b, x.c, x.d, x.l) = (y.a, y.b, y.c, y.d, y.l)) (by cases x; cases y; simp)
theorem sameR_ev (x y : R74) (hm : x.l.length ≤ 4611686018427387904) : Ev (fun k => weighhouselaw17_SameRecord.f k x.a x.b x.c x.d x.l y.a y.b y.c y.d y.l) (decide (x = y)) := by
  obtain ⟨a, b, c, d, l⟩ := x
  obtain ⟨a', b', c', d', l'⟩ := y
  simp only [R74.mk.injEq]
  unfold weighhouselaw17_SameRecord.f
  by_cases h1 : a = a'
  rotate_left
  · simp only [if_neg h1, h1, false_and, decide_false]; exact Ev.now _
  by_cases h2 : b = b'
  rotate_left
  · simp only [if_pos h1, if_neg h2, h2, false_and, and_false, decide_false]; exact Ev.now _
  by_cases h3 : c = c'
  rotate_left
  · simp only [if_pos h1, if_pos h2, if_neg h3, h3, false_and, and_false, decide_false]; exact Ev.now _
  by_cases h4 : d = d'
  rotate_left
  · simp only [if_pos h1, if_pos h2, if_pos h3, if_neg h4, h4, false_and, and_false, decide_false]; exact Ev.now _
  simp only [if_pos h1, if_pos h2, if_pos h3, if_pos h4]
  have e : decide (a = a' ∧ b = b' ∧ c = c' ∧ d = d' ∧ l = l') = decide (l = l') := by simp [h1, h2, h3, h4]
  rw [e]
  exact Ev.bind (sameLog_ev l l' hm) (Ev.now _)

def putR (x : R74) : List Int × Int := if rightR ⟨x.a, x.b, x.c, x.d, x.l⟩ = true then wall [x.a] [x.b, x.c, x.d] x.l else ([], 1)
def bytesR (x : R74) : List Int := allB [x.a] [x.b, x.c, x.d] x.l
theorem putR_right {x : R74} (h : rightR ⟨x.a, x.b, x.c, x.d, x.l⟩ = true) : putR x = if (bytesR x).length ≤ 1048576 then (bytesR x, 0) else ([], 6) := by
  have hh := rightR_in h
  have hf := fitL_of hh.2.2.2.2
  unfold putR bytesR
  rw [if_pos h, wall_eq _ _ _ (by intro y hy; obtain rfl := List.mem_singleton.1 hy; omega) hf.1 (fun y hy => (hf.2 y hy).1)]
theorem putR_0 {x : R74} (h : (putR x).2 = 0) : rightR ⟨x.a, x.b, x.c, x.d, x.l⟩ = true ∧ (bytesR x).length ≤ 1048576 ∧ putR x = (bytesR x, 0) := by
  by_cases hr : rightR ⟨x.a, x.b, x.c, x.d, x.l⟩ = true
  · rw [putR_right hr] at h ⊢
    by_cases hl : (bytesR x).length ≤ 1048576
    · rw [if_pos hl]; exact ⟨hr, hl, rfl⟩
    · rw [if_neg hl] at h; cases h
  · unfold putR at h
    rw [if_neg hr] at h
    cases h
theorem decR_bytes {x : R74} (h : rightR ⟨x.a, x.b, x.c, x.d, x.l⟩ = true) (rest : List Int) : decR mkE (bytesR x ++ rest) = ⟨x.a, x.b, x.c, x.d, x.l, rest, 0⟩ := by
  have hh := rightR_in h
  unfold bytesR
  rw [decR_back mkE x.a x.b x.c x.d x.l rest (by unfold I64; omega) (by unfold I64; omega) (by unfold I64; omega) (fitL_of hh.2.2.2.2), mkE_id]
theorem bytesR_in {x : R74} (h : rightR ⟨x.a, x.b, x.c, x.d, x.l⟩ = true) : ∀ y ∈ bytesR x, 0 ≤ y ∧ y ≤ 255 := by
  have hh := rightR_in h
  exact allB_in (by intro y hy; obtain rfl := List.mem_singleton.1 hy; omega) (fitL_of hh.2.2.2.2).1
end Go.Proofs.Ytlmlkcobkmhmbaa.ThMsr
end

section
/- Get of bytes that were written, and of others (plain laws) -/
set_option linter.unusedVariables false
set_option linter.unusedSimpArgs false
namespace Go.Proofs.Ytlmlkcobkmhmbaa.ThMsh
open Go.RowKit Go.Proofs.YtlmlkcobkmhmbaaW.PrintWords Go.Proofs.YtlmlkcobkmhmbaaW.Hb Go.Proofs.Ytlmlkcobkmhmbaa.Q Go.Proofs.Ytlmlkcobkmhmbaa.ThMsg

theorem getM_dec {α : Type} (mk : Int → ByteArray → α) (right : Int → Int → Int → Int → Int → Int → Int → List α → Bool) (l : List Int) :
    getM mk right l = if rDone (decM mk l).r (decM mk l).er = 0 ∧ right (decM mk l).a (decM mk l).b (decM mk l).c (decM mk l).d (decM mk l).e (decM mk l).f (decM mk l).g (decM mk l).l = true ∧ l.length ≤ 1048576 then ((decM mk l).a, (decM mk l).b, (decM mk l).c, (decM mk l).d, (decM mk l).e, (decM mk l).f, (decM mk l).g, (decM mk l).l, 0) else (0, 0, 0, 0, 0, 0, 0, [], 21) := by
  obtain ⟨v1, x1, e1, h1⟩ : ∃ v x e', rByte l 0 = (v, x, e') := ⟨_, _, _, rfl⟩
  obtain ⟨v2, x2, e2, h2⟩ : ∃ v x e', rByte x1 e1 = (v, x, e') := ⟨_, _, _, rfl⟩
  obtain ⟨v3, x3, e3, h3⟩ : ∃ v x e', rByte x2 e2 = (v, x, e') := ⟨_, _, _, rfl⟩
  obtain ⟨v4, x4, e4, h4⟩ : ∃ v x e', rInt x3 e3 = (v, x, e') := ⟨_, _, _, rfl⟩
  obtain ⟨v5, x5, e5, h5⟩ : ∃ v x e', rInt x4 e4 = (v, x, e') := ⟨_, _, _, rfl⟩
  obtain ⟨v6, x6, e6, h6⟩ : ∃ v x e', rInt x5 e5 = (v, x, e') := ⟨_, _, _, rfl⟩
  obtain ⟨v7, x7, e7, h7⟩ : ∃ v x e', rInt x6 e6 = (v, x, e') := ⟨_, _, _, rfl⟩
  obtain ⟨ls, x8, e8, h8⟩ : ∃ v x e', rdLog mk x7 e7 = (v, x, e') := ⟨_, _, _, rfl⟩
  rw [decM_is mk h1 h2 h3 h4 h5 h6 h7 h8, getM_is mk right h1 h2 h3 h4 h5 h6 h7 h8]
theorem getR_dec {α : Type} (mk : Int → ByteArray → α) (right : Int → Int → Int → Int → List α → Bool) (l : List Int) :
    getR mk right l = if rDone (decR mk l).r (decR mk l).er = 0 ∧ right (decR mk l).a (decR mk l).b (decR mk l).c (decR mk l).d (decR mk l).l = true ∧ l.length ≤ 1048576 then ((decR mk l).a, (decR mk l).b, (decR mk l).c, (decR mk l).d, (decR mk l).l, 0) else (0, 0, 0, 0, [], 21) := rfl
theorem getM_err {α : Type} (mk : Int → ByteArray → α) (right : Int → Int → Int → Int → Int → Int → Int → List α → Bool) (l : List Int) (h : ¬ ((decM mk l).er = 0 ∧ (decM mk l).r = [])) : getM mk right l = (0, 0, 0, 0, 0, 0, 0, [], 21) := by
  rw [getM_dec, if_neg (fun hh => h ((rDone_0 _ _).1 hh.1))]
theorem getR_err {α : Type} (mk : Int → ByteArray → α) (right : Int → Int → Int → Int → List α → Bool) (l : List Int) (h : ¬ ((decR mk l).er = 0 ∧ (decR mk l).r = [])) : getR mk right l = (0, 0, 0, 0, [], 21) := by
  rw [getR_dec, if_neg (fun hh => h ((rDone_0 _ _).1 hh.1))]
/-- What is read whole is not read where something stands behind it. -/
theorem getM_more {α : Type} (mk : Int → ByteArray → α) (right : Int → Int → Int → Int → Int → Int → Int → List α → Bool) {xs t : List Int} {a b c d e f g : Int} {l : List α} (h : decM mk xs = ⟨a, b, c, d, e, f, g, l, [], 0⟩) (ht : t ≠ []) : getM mk right (xs ++ t) = (0, 0, 0, 0, 0, 0, 0, [], 21) :=
  getM_err mk right _ (fun hh => by rw [decM_ext mk h] at hh; exact ht (by simpa using hh.2))
/-- Nor where its end is cut off. -/
theorem getM_less {α : Type} (mk : Int → ByteArray → α) (right : Int → Int → Int → Int → Int → Int → Int → List α → Bool) {xs t : List Int} {a b c d e f g : Int} {l : List α} (h : decM mk (xs ++ t) = ⟨a, b, c, d, e, f, g, l, [], 0⟩) (ht : t ≠ []) : getM mk right xs = (0, 0, 0, 0, 0, 0, 0, [], 21) :=
  getM_err mk right _ (fun hh => by
    have hq : decM mk xs = ⟨(decM mk xs).a, (decM mk xs).b, (decM mk xs).c, (decM mk xs).d, (decM mk xs).e, (decM mk xs).f, (decM mk xs).g, (decM mk xs).l, [], 0⟩ := by
      conv => lhs; rw [show decM mk xs = ⟨(decM mk xs).a, (decM mk xs).b, (decM mk xs).c, (decM mk xs).d, (decM mk xs).e, (decM mk xs).f, (decM mk xs).g, (decM mk xs).l, (decM mk xs).r, (decM mk xs).er⟩ from rfl, hh.1, hh.2]
    rw [decM_ext mk hq] at h
    have := congrArg DM.r h
    exact ht (by simpa using this))
theorem getR_more {α : Type} (mk : Int → ByteArray → α) (right : Int → Int → Int → Int → List α → Bool) {xs t : List Int} {a b c d : Int} {l : List α} (h : decR mk xs = ⟨a, b, c, d, l, [], 0⟩) (ht : t ≠ []) : getR mk right (xs ++ t) = (0, 0, 0, 0, [], 21) :=
  getR_err mk right _ (fun hh => by rw [decR_ext mk h] at hh; exact ht (by simpa using hh.2))
theorem getR_less {α : Type} (mk : Int → ByteArray → α) (right : Int → Int → Int → Int → List α → Bool) {xs t : List Int} {a b c d : Int} {l : List α} (h : decR mk (xs ++ t) = ⟨a, b, c, d, l, [], 0⟩) (ht : t ≠ []) : getR mk right xs = (0, 0, 0, 0, [], 21) :=
  getR_err mk right _ (fun hh => by
    have hq : decR mk xs = ⟨(decR mk xs).a, (decR mk xs).b, (decR mk xs).c, (decR mk xs).d, (decR mk xs).l, [], 0⟩ := by
      conv => lhs; rw [show decR mk xs = ⟨(decR mk xs).a, (decR mk xs).b, (decR mk xs).c, (decR mk xs).d, (decR mk xs).l, (decR mk xs).r, (decR mk xs).er⟩ from rfl, hh.1, hh.2]
    rw [decR_ext mk hq] at h
    have := congrArg DR.r h
    exact ht (by simpa using this))

end Go.Proofs.Ytlmlkcobkmhmbaa.ThMsh
end

section
/- MessageBack: the pure statement, proved: messages and records are read as they were written; with a byte more, or less, they are none -/
set_option linter.unusedVariables false
set_option linter.unusedSimpArgs false
namespace Go.Proofs.Ytlmlkcobkmhmbaa.PuMessageBack
open Go.RowKit Go.Proofs.YtlmlkcobkmhmbaaW.PrintWords Go.Proofs.YtlmlkcobkmhmbaaW.Hb Go.Proofs.YtlmlkcobkmhmbaaW.Ho Go.Proofs.Ytlmlkcobkmhmbaa.Q Go.Proofs.Ytlmlkcobkmhmbaa.OpMessageBack Go.Proofs.Ytlmlkcobkmhmbaa.ThMsg Go.Proofs.Ytlmlkcobkmhmbaa.ThMsh Go.Proofs.Ytlmlkcobkmhmbaa.ThMsl Go.Proofs.Ytlmlkcobkmhmbaa.ThMsr

theorem all_in {l : List Int} (h : ∀ x ∈ l, 0 ≤ x ∧ x ≤ 255) : l.all isBb = true := List.all_eq_true.2 (fun x hx => by
  have := h x hx
  simp [isBb, this])
theorem getf {l : List Int} (h : ∀ x ∈ l, 0 ≤ x ∧ x ≤ 255) (hl : l.length ≤ 140737488351232) : message_Get.f l = some (getM mkE rightM l) := by
  unfold message_Get.f
  rw [if_pos (by rw [all_in h]; simp [hl])]
theorem getrf {l : List Int} (h : ∀ x ∈ l, 0 ≤ x ∧ x ≤ 255) (hl : l.length ≤ 140737488351232) : message_GetRecord.f l = some (getR mkE (fun a b c d l => rightR ⟨a, b, c, d, l⟩) l) := by
  unfold message_GetRecord.f
  rw [if_pos (by rw [all_in h]; simp [hl])]
theorem okM_all (x : M74) (more : Int) (hm : 0 ≤ more ∧ more ≤ 255) : OkM x.a x.b x.c x.d x.e x.f x.g x.l more := by
  intro b e hput he
  subst he
  have hp : putM x = (b, 0) := Option.some.inj hput
  obtain ⟨hr, hl, hq⟩ := putM_0 (x := x) (by rw [hp])
  rw [hp] at hq
  obtain ⟨rfl, _⟩ := Prod.mk.inj hq
  have hin := bytesM_in hr
  have hd := decM_bytes hr []
  rw [List.append_nil] at hd
  have hlen : 0 < (bytesM x).length := by unfold bytesM allB; simp
  refine ⟨?_, ?_, ?_, hlen, hl⟩
  · rw [getf hin (by omega), getM_dec, hd]
    simp only
    rw [if_pos ⟨(rDone_0 _ _).2 ⟨rfl, rfl⟩, hr, hl⟩]
  · rw [getf (fun y hy => by
      rcases List.mem_append.1 hy with h | h
      · exact hin y h
      · rw [List.mem_singleton.1 h]; exact hm) (by rw [List.length_append, List.length_singleton]; omega), getM_more mkE rightM hd (by simp)]
  · have e := List.take_append_drop ((bytesM x).length - 1) (bytesM x)
    rw [getf (fun y hy => hin y (List.mem_of_mem_take hy)) (by rw [List.length_take]; omega), getM_less mkE rightM (t := (bytesM x).drop ((bytesM x).length - 1)) (by rw [e]; exact hd) (fun h => by
      have := congrArg List.length h
      rw [List.length_drop, List.length_nil] at this
      omega)]
theorem okR_all (x : R74) (more : Int) (hm : 0 ≤ more ∧ more ≤ 255) : OkR x.a x.b x.c x.d x.l more := by
  intro b e hput he
  subst he
  have hp : putR x = (b, 0) := Option.some.inj hput
  obtain ⟨hr, hl, hq⟩ := putR_0 (x := x) (by rw [hp])
  rw [hp] at hq
  obtain ⟨rfl, _⟩ := Prod.mk.inj hq
  have hin := bytesR_in hr
  have hd := decR_bytes hr []
  rw [List.append_nil] at hd
  have hlen : 0 < (bytesR x).length := by unfold bytesR allB; simp
  refine ⟨?_, ?_, ?_, hlen, hl⟩
  · rw [getrf hin (by omega), getR_dec, hd]
    simp only
    rw [if_pos ⟨(rDone_0 _ _).2 ⟨rfl, rfl⟩, hr, hl⟩]
  · rw [getrf (fun y hy => by
      rcases List.mem_append.1 hy with h | h
      · exact hin y h
      · rw [List.mem_singleton.1 h]; exact hm) (by rw [List.length_append, List.length_singleton]; omega), getR_more mkE _ hd (by simp)]
  · have e := List.take_append_drop ((bytesR x).length - 1) (bytesR x)
    rw [getrf (fun y hy => hin y (List.mem_of_mem_take hy)) (by rw [List.length_take]; omega), getR_less mkE _ (t := (bytesR x).drop ((bytesR x).length - 1)) (by rw [e]; exact hd) (fun h => by
      have := congrArg List.length h
      rw [List.length_drop, List.length_nil] at this
      omega)]
def mOf (x : S34) : M74 := ⟨x.f0, x.f1, x.f2, x.f3, x.f4, x.f5, x.f6, x.f7.map toE⟩
def rOf (x : S46) : R74 := ⟨x.f0, x.f1, x.f2, x.f3, x.f4.map toE⟩
theorem pure : Pure := by
  intro x y more hx hy hmore
  have hlx : x.f7.length * 24 ≤ 140737488351232 := hx.2.2.2.2.2.2.2.1
  have hly : y.f4.length * 24 ≤ 140737488351232 := hy.2.2.2.2.1
  have hm : 0 ≤ more ∧ more ≤ 255 := by
    have := hmore
    simp [Lit.wf, IntKind.min, IntKind.max, IntKind.bits, IntKind.signed] at this
    omega
  refine Ev.rounds (r := true) ?_
  unfold weighhouselaw17_MessageBack.f
  refine Ev.bind (message_ev x.f0 x.f1 x.f2 x.f3 x.f4 x.f5 x.f6 x.f7 hlx) ?_
  refine Ev.bind (record_ev y.f0 y.f1 y.f2 y.f3 y.f4 hly) ?_
  have h1 := same_ev (mOf x) (mOf x) (by show (x.f7.map toE).length ≤ _; rw [List.length_map]; omega)
  have h2 := sameR_ev (rOf y) (rOf y) (by show (y.f4.map toE).length ≤ _; rw [List.length_map]; omega)
  refine Ev.bind h1 ?_
  refine Ev.bind h2 ?_
  refine Ev.congr (f := fun _ => some true) (fun k => ?_) (Ev.now _)
  rw [if_pos ⟨by simp, by simp, okM_all (mOf x) more hm, okR_all (rOf y) more hm⟩]
end Go.Proofs.Ytlmlkcobkmhmbaa.PuMessageBack
end
