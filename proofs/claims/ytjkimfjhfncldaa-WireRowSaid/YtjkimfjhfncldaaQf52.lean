-- written by hprint.py (a program of these sessions) out of the translation; Lean checks it
import Derived.Test.YtjkimfjhfncldaaQ0
import Derived.Test.YtjkimfjhfncldaaQf22
import Derived.Test.YtjkimfjhfncldaaQf51
import Derived.Test.YtjkimfjhfncldaaQf44
namespace Go.Proofs.Ytjkimfjhfncldaa.Q
open Go.RowKit Go.Proofs.YtjkimfjhfncldaaW.Hb Go.Proofs.YtjkimfjhfncldaaW.PrintWords Go.Proofs.YtjkimfjhfncldaaW.PrintLast Go.Proofs.YtjkimfjhfncldaaW.PrintMore
attribute [local go_sem] max2_int min2_int max_two min_two max_three min_three max_four min_four   -- for this text's walks alone
set_option linter.unusedVariables false
set_option linter.unusedSimpArgs false

/-! ### wire_Writer_more: function 52, by hand -/
def wmore (l p : List Int) : List Int × Int := if 1048576 - (l.length : Int) < (p.length : Int) then (l, 6) else (l ++ p, 0)
set_option maxRecDepth 100000 in
set_option maxHeartbeats 1000000 in
theorem wire_Writer_more.calls (S : Nat → Prop) (g : Nat) (l : List Int) (A : Option Addr) (n c : Nat) (ps : List (List Int)) (p : List Int) (w : World) (hn : ps.length = n) (hr : (Kd.slice 5 (Kd.int .u8)).C w A ps.length ps) (hc : n ≤ c) (hp : ps.flatten = p) (hsum : p.length * 1 ≤ 140737488355328) (hW : Wr w S g l) (hl : l.length ≤ 1048576) :
    Calls Try.prog 52 #[.pointer (some ⟨g, 0, none⟩), .slice A n c] w fun e w' => e = .returned (.int .i64 (wmore l p).2) ∧ Wr w' (SS S w w') g (wmore l p).1 ∧ Fr w w' S := by
  subst hn
  have HC := Aside0.mk (slices_Concat_byte_byte.walk A ps.length c ps w rfl hr hc (by rw [hp]; exact hsum))
  obtain ⟨v, hb, hS, hR⟩ := hW
  obtain ⟨Av, cv, rfl, hcv, _⟩ := Kd.R_reads hR
  have HB := Aside0.mk hb
  have HR := Aside0.mk hR
  have hg := hb.lt
  have HP := Aside0.mk hp
  clear hr hp hb hR
  go_enter Try.func52, Try.ntmps52
  go_wp2_with (fail)
  refine HC.out.mono ?_
  rintro e w1 ⟨v1, rfl, hR1, hB1⟩
  rw [HP.out] at hR1
  obtain ⟨A1, c1, rfl, hc1, hC1⟩ := Kd.R_reads hR1
  have HC1 := Aside0.mk hC1
  have HB1 := Aside0.mk hB1
  have hb1 : Blk w1 g 70 #[.slice Av l.length cv, .bool true] := HB.out.after hB1
  have HBK := Aside0.mk hb1
  have h0 : w1.cell? ⟨g, 0, none⟩ = some (.slice Av l.length cv) := hb1.cell 0
  have hg1 := hb1.lt
  clear hR1 hC1 hB1 hb1
  have HSB := Aside0.mk ((HB.out.after HB1.out))
  by_cases ht : 1048576 - (l.length : Int) < (p.length : Int)
  · have htb : decide (1048576 - (l.length : Int) < (p.length : Int)) = true := decide_eq_true ht
    have HWM := Aside0.mk (show wmore l p = (l, 6) from if_pos ht)
    have HWR := Aside0.mk (show Wr w1 (SS S w w1) g l from Wr.mono ⟨.slice Av l.length cv, HBK.out, hS, Kd.R_below HR.out HB1.out⟩ (fun k hk => .inl hk))
    clear ht
    go_wp2_with (go_at_call 51; (with_reducible refine (wire_Writer_none.calls g _ true _ HBK.out).mono ?_); rintro e2 w2 ⟨rfl, hw2⟩; subst w2)
    go_ret
    rw [HWM.out]
    exact ⟨rfl, HWR.out, Fr.of_below HB1.out S⟩
  · have htb : decide (1048576 - (l.length : Int) < (p.length : Int)) = false := decide_eq_false ht
    have HWM := Aside0.mk (show wmore l p = (l ++ p, 0) from if_neg ht)
    have HR1 := Aside0.mk (Kd.R_mono (ok' := fun k => (S k ∨ w.heap.size ≤ k) ∧ k ≠ g) (Kd.R_below HR.out HB1.out) (fun k hk => ⟨.inl hk.1, hk.2⟩))
    have HL := Aside0.mk (show (l.length + p.length) * 1 ≤ 140737488355328 by omega)
    obtain ⟨q, hq⟩ : ∃ q, q = l ++ p := ⟨_, rfl⟩
    have HQ := Aside0.mk hq
    clear ht hq
    go_upto_region 6 with (go_at_call 51; (with_reducible refine (wire_Writer_none.calls g _ true _ HBK.out).mono ?_); rintro e2 w2 ⟨rfl, hw2⟩; subst w2)
    go_wp2_with (((with_reducible refine gate_builtin (b := .append) (xs := #[.tmp 27, .tmp 28]) rfl ?_); at_builtin; refine Kd.R_append_rows (Kd.int .u8) (w0 := w) (Rr := (Kd.int .u8).K w1) 0 rfl (.tmp 27) (.tmp 28) 22 5 (.int .u8 0) 1 rfl Try.underlying22 info5 rfl (by decide) (by omega) (.slice Av l.length cv) l p A1 p.length c1 (fun k => (S k ∨ w.heap.size ≤ k) ∧ k ≠ g) (fun _ => False) rfl rfl HR1.out HC1.out (fun x cs hK => hK) (fun _ hk => hk.elim) (fun k hk => ⟨.inr (Nat.le_trans HB1.out.size hk), by omega⟩) (HB1.out.mono (Nat.zero_le _)) (Nat.zero_le _) HL.out ?_; intro v3 w3 hR3 hB3 hG3 hA3; rw [← HQ.out] at hR3; obtain ⟨A3, c3, rfl⟩ := Kd.R_slice hR3; have hgv : some g ≠ (Value.slice Av l.length cv).ownBlock := (fun he => (HR1.out.1 g he.symm).2 rfl); have hb3 : Blk w3 g 70 #[.slice Av l.length cv, .bool true] := (hG3.block g hg1 hgv).trans HBK.out; have h3 : w3.cell? ⟨g, 0, none⟩ = some (.slice Av l.length cv) := hb3.cell 0; have f3 : w3.frozen? ⟨g, 0, none⟩ = false := hb3.frozen 0; have HR3 := Aside0.mk hR3; have HB3 := Aside0.mk hb3; have HD3 := Aside0.mk hB3; have HG3 := Aside0.mk hG3; clear hR3 hB3 hG3 hA3 hb3))
    go_ret
    rw [HWM.out]
    dsimp only
    rw [← HQ.out]
    refine ⟨rfl, ⟨.slice A3 q.length c3, by simpa using HB3.out.set_ 0 (.slice A3 q.length c3), .inl hS, ?_⟩, ?_, ?_⟩
    · refine Kd.R_far (p := ⟨g, 0, none⟩) ?_ (fun k hk => hk.2) _
      refine Kd.R_mono (Kd.R_bound HR3.out) (fun k hk => ⟨hk.1.1.elim .inl (fun h => .inr ⟨h, ?_⟩), hk.1.2⟩)
      simpa [World.setCell] using hk.2.2.1
    · exact HD3.out.setCell (Nat.zero_le _) _
    · refine Kept.setCell (Kept.of_grown HG3.out (Kept.of_below HB1.out S) (fun k hk => ?_)) (.inl hS) _
      exact (HR1.out.1 k hk).1


end Go.Proofs.Ytjkimfjhfncldaa.Q
