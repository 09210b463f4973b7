/- what the readings of the parameters of MessageBegins give -/
import Derived.Test.YtlmlkcobkmhmbaaHo
import Derived.Test.YtlmlkcobkmhmbaaQf3
set_option linter.unusedVariables false
set_option linter.unusedSimpArgs false
namespace Go.Proofs.Ytlmlkcobkmhmbaa.OpMessageBegins
open Go.RowKit Go.Proofs.YtlmlkcobkmhmbaaW.PrintWords Go.Proofs.YtlmlkcobkmhmbaaW.Hb Go.Proofs.YtlmlkcobkmhmbaaW.Ho Go.Proofs.Ytlmlkcobkmhmbaa.Q

theorem opens_slice' {P : Program} {t : TypeId} {α : Type} {d : Kd α} {e B : Nat} {Q : α → Prop} (ht : P.underlying t = some (.slice e)) (hs : P.cellsOf e = d.sz) (hB : P.bytesOf e = B) (hp : Opens P d e Q) :
    Opens P (Kd.slice e d) t (fun xs => xs.length * B ≤ reachBytes ∧ xs.length ≤ maxLen ∧ ∀ x ∈ xs, Q x) := by
  subst hB
  exact opens_slice ht hs hp
def QS113 (x : S113) : Prop := ((Lit.int .i64 (x.f0)).wf = true) ∧ ((x.f1).size ≤ reachBytes)
theorem open_S113 : Opens Try.prog k113 113 QS113 := by
  intro H enc w base spare held fuel cs x h hw
  obtain ⟨xs, n, _, hx, hl, hxl, hf⟩ := DataW.trod_struct Try.underlying113 h
  rw [show Try.prog.cellsOf 113 = 2 from by kernel_rfl] at hl
  obtain ⟨c0, c1, rfl⟩ : ∃ c0 c1, cs = [c0, c1] := by
    clear hf hx h
    match cs, hl with
    | [c0, c1], _ => exact ⟨c0, c1, rfl⟩
  obtain ⟨y0, y1, rfl⟩ : ∃ y0 y1, xs = [y0, y1] := by
    have hxl2 : xs.length = 2 := hxl
    clear hxl hf hx
    match xs, hxl2 with
    | [y0, y1], _ => exact ⟨y0, y1, rfl⟩
  subst hx
  have g0 : DataW.trod enc Try.prog w base spare held n 3 (([c0, c1].drop 0).take (Try.prog.cellsOf 3)) = some y0 := hf 0 _ rfl
  rw [show Try.prog.cellsOf 3 = 1 from by kernel_rfl] at g0
  replace g0 : DataW.trod enc Try.prog w base spare held n 3 [c0] = some y0 := g0
  obtain ⟨v0, K0, q0⟩ := (opens_int Try.underlying3) enc w base spare held n _ _ g0 (fun m hm => hw m (weights_field (j := 0) (tj := 3) Try.underlying113 rfl rfl m hm))
  have g1 : DataW.trod enc Try.prog w base spare held n 9 (([c0, c1].drop 1).take (Try.prog.cellsOf 9)) = some y1 := hf 1 _ rfl
  rw [show Try.prog.cellsOf 9 = 1 from by kernel_rfl] at g1
  replace g1 : DataW.trod enc Try.prog w base spare held n 9 [c1] = some y1 := g1
  obtain ⟨v1, K1, q1⟩ := (opens_string Try.underlying9) enc w base spare held n _ _ g1 (fun m hm => hw m (weights_field (j := 1) (tj := 9) Try.underlying113 rfl rfl m hm))
  exact ⟨⟨v0, v1⟩, ⟨[c0], [c1], rfl, K0, K1⟩, ⟨q0, q1⟩⟩
def QS46 (x : S46) : Prop := ((Lit.int .i64 (x.f0)).wf = true) ∧ ((Lit.int .i64 (x.f1)).wf = true) ∧ ((Lit.int .i64 (x.f2)).wf = true) ∧ ((Lit.int .i64 (x.f3)).wf = true) ∧ (((x.f4).length * 24 ≤ reachBytes ∧ (x.f4).length ≤ maxLen ∧ ∀ y ∈ (x.f4), QS113 (y)))
theorem open_S46 : Opens Try.prog k46 46 QS46 := by
  intro H enc w base spare held fuel cs x h hw
  obtain ⟨xs, n, _, hx, hl, hxl, hf⟩ := DataW.trod_struct Try.underlying46 h
  rw [show Try.prog.cellsOf 46 = 5 from by kernel_rfl] at hl
  obtain ⟨c0, c1, c2, c3, c4, rfl⟩ : ∃ c0 c1 c2 c3 c4, cs = [c0, c1, c2, c3, c4] := by
    clear hf hx h
    match cs, hl with
    | [c0, c1, c2, c3, c4], _ => exact ⟨c0, c1, c2, c3, c4, rfl⟩
  obtain ⟨y0, y1, y2, y3, y4, rfl⟩ : ∃ y0 y1 y2 y3 y4, xs = [y0, y1, y2, y3, y4] := by
    have hxl2 : xs.length = 5 := hxl
    clear hxl hf hx
    match xs, hxl2 with
    | [y0, y1, y2, y3, y4], _ => exact ⟨y0, y1, y2, y3, y4, rfl⟩
  subst hx
  have g0 : DataW.trod enc Try.prog w base spare held n 3 (([c0, c1, c2, c3, c4].drop 0).take (Try.prog.cellsOf 3)) = some y0 := hf 0 _ rfl
  rw [show Try.prog.cellsOf 3 = 1 from by kernel_rfl] at g0
  replace g0 : DataW.trod enc Try.prog w base spare held n 3 [c0] = some y0 := g0
  obtain ⟨v0, K0, q0⟩ := (opens_int Try.underlying3) enc w base spare held n _ _ g0 (fun m hm => hw m (weights_field (j := 0) (tj := 3) Try.underlying46 rfl rfl m hm))
  have g1 : DataW.trod enc Try.prog w base spare held n 3 (([c0, c1, c2, c3, c4].drop 1).take (Try.prog.cellsOf 3)) = some y1 := hf 1 _ rfl
  rw [show Try.prog.cellsOf 3 = 1 from by kernel_rfl] at g1
  replace g1 : DataW.trod enc Try.prog w base spare held n 3 [c1] = some y1 := g1
  obtain ⟨v1, K1, q1⟩ := (opens_int Try.underlying3) enc w base spare held n _ _ g1 (fun m hm => hw m (weights_field (j := 1) (tj := 3) Try.underlying46 rfl rfl m hm))
  have g2 : DataW.trod enc Try.prog w base spare held n 3 (([c0, c1, c2, c3, c4].drop 2).take (Try.prog.cellsOf 3)) = some y2 := hf 2 _ rfl
  rw [show Try.prog.cellsOf 3 = 1 from by kernel_rfl] at g2
  replace g2 : DataW.trod enc Try.prog w base spare held n 3 [c2] = some y2 := g2
  obtain ⟨v2, K2, q2⟩ := (opens_int Try.underlying3) enc w base spare held n _ _ g2 (fun m hm => hw m (weights_field (j := 2) (tj := 3) Try.underlying46 rfl rfl m hm))
  have g3 : DataW.trod enc Try.prog w base spare held n 3 (([c0, c1, c2, c3, c4].drop 3).take (Try.prog.cellsOf 3)) = some y3 := hf 3 _ rfl
  rw [show Try.prog.cellsOf 3 = 1 from by kernel_rfl] at g3
  replace g3 : DataW.trod enc Try.prog w base spare held n 3 [c3] = some y3 := g3
  obtain ⟨v3, K3, q3⟩ := (opens_int Try.underlying3) enc w base spare held n _ _ g3 (fun m hm => hw m (weights_field (j := 3) (tj := 3) Try.underlying46 rfl rfl m hm))
  have g4 : DataW.trod enc Try.prog w base spare held n 32 (([c0, c1, c2, c3, c4].drop 4).take (Try.prog.cellsOf 32)) = some y4 := hf 4 _ rfl
  rw [show Try.prog.cellsOf 32 = 1 from by kernel_rfl] at g4
  replace g4 : DataW.trod enc Try.prog w base spare held n 32 [c4] = some y4 := g4
  obtain ⟨v4, K4, q4⟩ := (opens_slice' Try.underlying32 (by kernel_rfl) (by kernel_rfl) open_S113) enc w base spare held n _ _ g4 (fun m hm => hw m (weights_field (j := 4) (tj := 32) Try.underlying46 rfl rfl m hm))
  exact ⟨⟨v0, v1, v2, v3, v4⟩, ⟨[c0], [c1, c2, c3, c4], rfl, K0, ⟨[c1], [c2, c3, c4], rfl, K1, ⟨[c2], [c3, c4], rfl, K2, ⟨[c3], [c4], rfl, K3, K4⟩⟩⟩⟩, ⟨q0, q1, q2, q3, q4⟩⟩
end Go.Proofs.Ytlmlkcobkmhmbaa.OpMessageBegins
