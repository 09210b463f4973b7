-- written by hprint.py (a program of these sessions) out of the translation; Lean checks it
import Derived.Test.YtjkimfjhfncldaaQ0
import Derived.Test.YtjkimfjhfncldaaQf22
import Derived.Test.YtjkimfjhfncldaaQf52
import Derived.Test.YtjkimfjhfncldaaQf25
import Derived.Test.YtjkimfjhfncldaaQf29
import Derived.Test.YtjkimfjhfncldaaQf27
import Derived.Test.YtjkimfjhfncldaaQf13
import Derived.Test.YtjkimfjhfncldaaQf17
import Derived.Test.YtjkimfjhfncldaaQf20
namespace Go.Proofs.Ytjkimfjhfncldaa.Q
open Go.RowKit Go.Proofs.YtjkimfjhfncldaaW.Hb Go.Proofs.YtjkimfjhfncldaaW.PrintWords Go.Proofs.YtjkimfjhfncldaaW.PrintLast Go.Proofs.YtjkimfjhfncldaaW.PrintMore
attribute [local go_sem] max2_int min2_int max_two min_two max_three min_three max_four min_four   -- for this text's walks alone
set_option linter.unusedVariables false
set_option linter.unusedSimpArgs false

/-! ### weighhouselaw01_knows: function 19, by hand -/
def weighhouselaw01_knows.f : Option Bool := some true
def knFr : List Int := [0, 0, 0, 0, 28, 223, 68, 33]
def knIn : List (List Int) := [[]]
theorem knFr_eq : wire_Frame.f 100 [] = some (knFr, 0) := by decide +kernel
theorem knIn_eq : wire_Frames.f 100 knFr = some (knIn, 8) := by decide +kernel
abbrev knS : ByteArray := { data := #[97, 98] }
def knB : List Int := (wtexts (wmore [] (ints8 [1])).1 [knS]).1
theorem knB_len : knB.length ≤ 1048576 := by decide +kernel
theorem kn1 : (wmore [] (ints8 [1])).2 = 0 := by decide +kernel
theorem kn2 : (wtexts (wmore [] (ints8 [1])).1 [knS]).2 = 0 := by decide +kernel
theorem kn3 : (wmore [] (ints8 [1])).1.length ≤ 1048576 := by decide +kernel
theorem kn4 : (textsB [knS]).length * 1 ≤ 140737488355328 := by decide +kernel
theorem kn5 : strOfNums knB = { data := #[0, 0, 0, 0, 0, 0, 0, 1, 0, 2, 97, 98] } := by decide +kernel
theorem knFrame (w : World) : Calls Try.prog 13 #[.slice none 0 0] w fun e w' => ∃ v0_ : Value, e = .returned (.tuple #[v0_, .int .i64 0]) ∧ Kd.R (Kd.int .u8) 5 w' w.heap.size (fun _ => True) v0_ knFr ∧ Below w.heap.size w w' :=
  wire_Frame.calls 100 none 0 [] knFr 0 w (Kd.C_nil _ _) (Nat.le_refl 0) knFr_eq
set_option maxRecDepth 100000 in
set_option maxHeartbeats 2000000 in
theorem weighhouselaw01_knows.calls (r : Bool) (w : World) (h : weighhouselaw01_knows.f = some r) : Calls Try.prog 19 #[] w fun e w' => e = .returned (.bool r) ∧ Below w.heap.size w w' := by
  obtain rfl : true = r := Option.some.inj h
  clear h
  have HI := Aside0.mk knIn_eq
  go_enter Try.func19, Try.ntmps19
  go_upto_region 2 with (go_at_call 22; (with_reducible refine (wire_NewWriter.calls w).mono ?_); rintro e w1 ⟨g, rfl, hW1, hg1, hB1⟩; have HW1 := Aside0.mk hW1; have HB1 := Aside0.mk hB1; clear hW1 hB1)
  have hx1 : (Kd.int .i64).C (w1.alloc (.cells #[.int .i64 1] 3)) (some ⟨w1.heap.size, 0, none⟩) [(1 : Int)].length [1] := C_lit_int w1 w1.heap.size rfl .i64 [1] #[.int .i64 1] rfl 3 (by decide)
  have HI1 := Aside0.mk (wire_Writer_Int.calls (fun k => k = g) g [] (some ⟨w1.heap.size, 0, none⟩) 1 1 [1] (w1.alloc (.cells #[.int .i64 1] 3)) rfl hx1 (Nat.le_refl 1) (by decide) (HW1.out.below ((Below.refl _ _).alloc (Nat.le_refl _) _)) (by decide))
  clear hx1
  go_upto_region 3 with (go_at_call 25; (with_reducible refine HI1.out.mono ?_); rintro e w2 ⟨rfl, hW2, hF2⟩; rw [kn1]; have HW2 := Aside0.mk hW2; have HF2 := Aside0.mk hF2; clear hW2 hF2)
  have HD2 := Aside0.mk (Fr.below (B := w.heap.size) ((Fr.of_below (((Below.refl _ _).alloc (Nat.le_refl _) (.cells #[.int .i64 1] 3)) : Below w1.heap.size w1 _) _).then_ HF2.out (fun _ h => .inl h)) HB1.out.size (fun k hk => by subst hk; exact hg1))
  have HE2 := Aside0.mk (HB1.out.trans HD2.out)
  have hx2 : Kd.string.C (w2.alloc (.cells #[.string knS] 9)) (some ⟨w2.heap.size, 0, none⟩) [knS].length [knS] := C_of_reps (d := Kd.string) (Blk.new w2 _ _) [knS] (Reps_one (c := [.string knS]) rfl rfl) (by decide)
  have HT1 := Aside0.mk (wire_Writer_Text.calls (SS (fun k => k = g) (w1.alloc (.cells #[.int .i64 1] 3)) w2) g (wmore [] (ints8 [1])).1 (some ⟨w2.heap.size, 0, none⟩) 1 1 [knS] (w2.alloc (.cells #[.string knS] 9)) rfl hx2 (Nat.le_refl 1) kn4 (by decide) (HW2.out.below ((Below.refl _ _).alloc (Nat.le_refl _) _)) kn3)
  clear hx2
  go_upto_region 4 with (go_at_call 27; (with_reducible refine HT1.out.mono ?_); rintro e w3 ⟨rfl, hW3, hF3⟩; rw [kn2]; have HW3 := Aside0.mk hW3; have HF3 := Aside0.mk hF3; clear hW3 hF3)
  have HD3 := Aside0.mk (Fr.below (B := w.heap.size) ((Fr.of_below (((Below.refl _ _).alloc (Nat.le_refl _) (.cells #[.string knS] 9)) : Below w2.heap.size w2 _) _).then_ HF3.out (fun _ h => .inl h)) HE2.out.size (fun k hk => by
    rcases hk with hk | hk
    · subst hk; exact hg1
    · have := HB1.out.size
      have := hk.1
      simp at this
      omega))
  have HE3 := Aside0.mk (HE2.out.trans HD3.out)
  have HFR := Aside0.mk (knFrame w3)
  have HK2 := Aside0.mk knIn_eq
  obtain ⟨fl, hfl⟩ : ∃ fl, fl = knFr := ⟨_, rfl⟩
  rw [← hfl] at HFR HK2
  clear hfl
  go_upto_region 5 with (go_at_call 13; (with_reducible refine HFR.out.mono ?_); rintro e w4 ⟨v4, rfl, hR4, hB4⟩; obtain ⟨A4, c4, rfl, hc4, hC4⟩ := Kd.R_reads hR4; have HC4 := Aside0.mk hC4; have HB4 := Aside0.mk hB4; clear hR4 hC4 hB4)
  have HW4 := Aside0.mk (show Wr w4 _ g knB from HW3.out.below HB4.out)
  have HE4 := Aside0.mk (HE3.out.trans (HB4.out.mono HE3.out.size))
  have HFM := Aside0.mk (wire_Frames.calls 100 A4 c4 fl knIn 8 w4 HC4.out hc4 HK2.out)
  go_upto_region 6 with (go_at_call 20; (with_reducible refine HFM.out.mono ?_); rintro e w5 ⟨v5, rfl, hR5, hB5⟩; obtain ⟨A5, c5, hv5, hc5, hC5⟩ := Kd.S_reads hR5; rw [show knIn.length = 1 from rfl] at hv5; subst hv5; have HB5 := Aside0.mk hB5; clear hR5 hB5 hC5 hc5)
  have HWX := Aside0.mk (HW4.out.below HB5.out)
  have HEX := Aside0.mk (HE4.out.trans (HB5.out.mono HE4.out.size))
  go_wp2_with (first | (go_at_call 17; (with_reducible refine (weighhouselaw01_num.calls 0 0 _ rfl).mono ?_); rintro e w6 ⟨rfl, hd⟩; have n0_ := Aside0.mk (HWX.out.below hd.below); have n1_ := Aside0.mk (HEX.out.trans (hd.below.mono HEX.out.size)); clear HWX HEX hd; have HWX := n0_; have HEX := n1_; clear n0_ n1_) | (go_at_call 29; (with_reducible refine (wire_Writer_Bytes.calls _ g knB _ HWX.out knB_len).mono ?_); rintro e w7 ⟨v7, rfl, hR7, hB7⟩; obtain ⟨A7, c7, rfl, hc7, hC7⟩ := Kd.R_reads hR7; have hcv := Kd.C_string (P := Try.prog) (src := 22) (dst := 9) (e := 5) (c := c7) Try.underlying22 Try.underlying5 Try.underlying9 hC7; rw [kn5] at hcv; have HEY := Aside0.mk (HEX.out.trans (hB7.mono HEX.out.size)); clear hR7 hB7 hC7 hc7))
  go_ret
  exact ⟨rfl, HEY.out⟩


end Go.Proofs.Ytjkimfjhfncldaa.Q
