/- texts of one claim, merged: each in a section of its own -/
import Derived.Test.YtblaibigjhlblaaDoorMValueOrderCard3
section
-- written by hprint.py (a program of these sessions) out of the translation; Lean checks it
namespace Go.Proofs.YtblaibigjhlblaaDoor.Q
open Go.RowKit Go.Proofs.YtblaibigjhlblaaDoorW.Hb Go.Proofs.YtblaibigjhlblaaDoorW.PrintWords Go.Proofs.YtblaibigjhlblaaDoorW.PrintLast Go.Proofs.YtblaibigjhlblaaDoorW.PrintMore
attribute [local go_sem] max2_int min2_int max_two min_two max_three min_three max_four min_four   -- for this text's walks alone
set_option linter.unusedVariables false
set_option linter.unusedSimpArgs false

/-! ### value_text: function 31, by hand -/
def hexC (n : Nat) : UInt8 := if n < 10 then (48 + n).toUInt8 else (87 + n).toUInt8
def hexU (l : List UInt8) : List UInt8 := l.flatMap (fun c => [hexC (c.toNat / 16), hexC (c.toNat % 16)])
def nat8 (l : List UInt8) : List Int := l.map fun b => (b.toNat : Int)
def textU (b : ByteArray) : List UInt8 := 120 :: 39 :: (hexU b.data.toList ++ [39])
theorem Bd.below {w w' : World} {S : Nat → Prop} {g : Nat} {l : List Int} (h : Bd w S g l) (hb : Below w.heap.size w w') : Bd w' S g l := by
  obtain ⟨v, h1, h2, h3⟩ := h
  exact ⟨v, h1.after hb, h2, Kd.R_below h3 hb⟩
theorem hexAt (n : Nat) (h : n < 16) : (({ data := #[48, 49, 50, 51, 52, 53, 54, 55, 56, 57, 97, 98, 99, 100, 101, 102] } : ByteArray)[n]'(by show n < 16; exact h)).toNat = (hexC n).toNat := by
  match n, h with
  | 0, _ => rfl
  | 1, _ => rfl
  | 2, _ => rfl
  | 3, _ => rfl
  | 4, _ => rfl
  | 5, _ => rfl
  | 6, _ => rfl
  | 7, _ => rfl
  | 8, _ => rfl
  | 9, _ => rfl
  | 10, _ => rfl
  | 11, _ => rfl
  | 12, _ => rfl
  | 13, _ => rfl
  | 14, _ => rfl
  | 15, _ => rfl
  | n + 16, h => exact absurd h (by omega)
theorem bdBelow {w w' : World} {S : Nat → Prop} {B : Nat} (hb : Below 0 w w') (hk : Kept w w' S) (hB : B ≤ w.heap.size) (hS : ∀ k, S k → B ≤ k) : Below B w w' :=
  ⟨hb.os, hb.tape, hb.output, hb.size, fun k hlt => hk.2 k (by omega) (fun h => by have := hS k h; omega)⟩
theorem hexU_len (l : List UInt8) : (hexU l).length = 2 * l.length := by
  unfold hexU
  induction l with
  | nil => rfl
  | cons a t ih => rw [List.flatMap_cons, List.length_append, ih, List.length_cons, List.length_cons, List.length_cons, List.length_nil]; omega
def value_text.f (a0 a1 : Int) (a2 : ByteArray) : Option ByteArray := if a0 = 1 then (if -9223372036854775808 ≤ a1 ∧ a1 ≤ 9223372036854775807 then some ⟨(Lib.itoa a1).toArray⟩ else none) else if a0 = 3 then some ⟨(Lib.formatBool (a1 == 1)).toArray⟩ else if a2.size * 2 + 3 ≤ 140737488355328 then some ⟨(textU a2).toArray⟩ else none
set_option maxRecDepth 100000 in
set_option maxHeartbeats 4000000 in
theorem value_text.calls (a0 a1 : Int) (a2 : ByteArray) (r : ByteArray) (w : World) (h : value_text.f a0 a1 a2 = some r) (hV : VarsOk w) :
    Calls Tryd.prog 31 #[.agg #[.int .i64 a0, .int .i64 a1, .string a2]] w fun e w' => e = .returned (.string r) ∧ Below w.heap.size w w' := by
  unfold value_text.f at h
  have HV := Aside0.mk hV
  clear hV
  have HB1 := Aside0.mk ((Below.refl w.heap.size w).alloc (Nat.le_refl _) (.cells #[.int .i64 a0, .int .i64 a1, .string a2] 37))
  by_cases h1 : a0 = 1
  · rw [if_pos h1] at h
    by_cases hr : -9223372036854775808 ≤ a1 ∧ a1 ≤ 9223372036854775807
    · rw [if_pos hr] at h
      obtain rfl := Option.some.inj h
      subst h1
      have HI := Aside0.mk (itoaV a1 hr.1 hr.2 _ (HV.out.below HB1.out))
      clear h hr
      go_enter Tryd.func31, Tryd.ntmps31
      go_wp2_with (go_at_call 44; (with_reducible refine HI.out.mono ?_); rintro e w2 ⟨rfl, hb⟩; have HB2 := Aside0.mk hb; clear hb)
      go_ret
      exact ⟨rfl, HB1.out.trans (HB2.out.mono (by simp))⟩
    · rw [if_neg hr] at h
      cases h
  rw [if_neg h1] at h
  have d1 : (a0 == 1) = false := by simpa using h1
  by_cases h3 : a0 = 3
  · rw [if_pos h3] at h
    obtain rfl := Option.some.inj h
    subst h3
    obtain ⟨b, hb⟩ : ∃ b, (a1 == 1) = b := ⟨_, rfl⟩
    have HI := Aside0.mk (Tryd.strconv_FormatBool b (w.alloc (.cells #[.int .i64 3, .int .i64 a1, .string a2] 37)))
    rw [hb]
    clear h h1
    go_enter Tryd.func31, Tryd.ntmps31
    go_wp2_with (go_at_call 45; (with_reducible refine HI.out.mono ?_); rintro e w2 ⟨rfl, rfl⟩)
    go_ret
    exact ⟨rfl, HB1.out⟩
  rw [if_neg h3] at h
  have d3 : (a0 == 3) = false := by simpa using h3
  by_cases hsz : a2.size * 2 + 3 ≤ 140737488355328
  · rw [if_pos hsz] at h
    obtain rfl := Option.some.inj h
    clear h h1 h3
    obtain ⟨b, hb⟩ : ∃ b, b = bytesOf a2 := ⟨_, rfl⟩
    have hbl : b.length = a2.size := by rw [hb, bytesOf_length]
    have HSZ := Aside0.mk (show b.length * 2 + 3 ≤ 140737488355328 by omega)
    have HBY := Aside0.mk hb
    have hbm : b.length ≤ 9223372036854775807 := by omega
    clear hsz
    obtain ⟨gc, bw, hbw, hbc, kb⟩ : ∃ (gc : World → Nat) (bw : World → World), (∀ W, Below W.heap.size W (bw W)) ∧ (∀ W, (Kd.int .u8).C (bw W) (some ⟨W.heap.size, 0, none⟩) b.length b) ∧ ∀ W, (convert 9 60 (.string a2)).run Tryd.prog W = .ok (.slice (some ⟨W.heap.size, 0, none⟩) b.length (gc W)) (bw W) := by
      refine ⟨fun W => grownCap W a2.size 0 5, fun W => Lib.bytesWorld W 5 a2, fun W => bytes_below (Below.refl _ _) (Nat.le_refl _) _ _, fun W => ?_, fun W => ?_⟩
      · have := bytes_reads W 5 a2 (by omega)
        rw [← hb, ← hbl] at this
        exact Kd.C_of_reads (d := (0 : Int)) (h1 := fun _ => rfl) this
      · rw [hbl]
        exact print_bytes (P := Tryd.prog) 9 60 5 Tryd.underlying9 Tryd.underlying60 Tryd.underlying5 a2 W
    have HBW := Aside0.mk hbw
    have HBC := Aside0.mk hbc
    clear hbw hbc hb hbl
    go_enter Tryd.func31, Tryd.ntmps31
    go_upto_region 7 with (fail)
    obtain ⟨w1, hw1⟩ : ∃ w1, w1 = w.alloc (.cells #[.int .i64 a0, .int .i64 a1, .string a2] 37) := ⟨_, rfl⟩
    have hs1 : w.heap.size + 1 = w1.heap.size := by rw [hw1]; simp
    have kc : w1.cell? ⟨w.heap.size, 2, none⟩ = some (.string a2) := by rw [hw1]; exact (Blk.new w 37 #[.int .i64 a0, .int .i64 a1, .string a2]).cell 2
    rw [← hw1, hs1]
    rw [← hw1] at HB1
    have HC1 := Aside0.mk kc
    have HWS := Aside0.mk (Tryd.Builder_WriteString w1.heap.size w1.heap.size [] ⟨#[120, 39]⟩ _ (Lib.fresh_isBuilder 74 5 w1) (by decide) (by simp))
    clear hw1 hs1 kc
    go_upto_region 8 with (go_at_call 46; (with_reducible refine HWS.out.mono ?_); rintro e w2 ⟨rfl, hb2, hB2⟩; have HB2 := Aside0.mk hB2; have HBD := Aside0.mk (Bd.of (l := nat8 [120, 39]) hb2); clear hb2 hB2)
    clear HWS
    obtain ⟨S2, hS2, hS2b⟩ := HBD.out
    obtain ⟨gb, hgb⟩ : ∃ gb, w1.heap.size = gb := ⟨_, rfl⟩
    rw [hgb] at HB2 hS2 hS2b ⊢
    have HG := Aside0.mk hgb
    have HB1a := HB1.out.alloc HB1.out.size (.cells #[.pointer none, .slice none 0 0] 74)
    have HB12 := Aside0.mk (HB1a.trans (HB2.out.mono (by have := HB1.out.size; omega)))
    have hlt1 : w.heap.size < w1.heap.size := World.block_lt_of_cell? w1 _ HC1.out
    have kc2 : w2.cell? ⟨w.heap.size, 2, none⟩ = some (.string a2) := (HB2.out.cell (by show w.heap.size < gb; omega)).trans (((Below.refl w1.heap.size w1).alloc (Nat.le_refl _) _).cell hlt1 |>.trans HC1.out)
    clear HB1a
    have HS2 := Aside0.mk hS2
    have HS2B := Aside0.mk hS2b
    clear hS2 hS2b HBD hgb HC1
    have HBa := Aside0.mk (Bd.below HS2.out (HBW.out w2))
    have HSa := Aside0.mk (show ¬ S2 w2.heap.size ∧ ∀ k, S2 k → gb ≤ k from ⟨fun h => by have := (HS2B.out _ h).2; omega, fun k hk => (HS2B.out k hk).1⟩)
    have HCa := Aside0.mk (HBC.out w2)
    have HWa := Aside0.mk ((HBW.out w2).mono (B := w2.heap.size) (B' := gb) (by have := HS2B.out gb (by obtain ⟨_, _, h, _⟩ := HS2.out; exact h); omega))
    have hlen : a2.data.toList.length = b.length := by rw [HBY.out, bytesOf_length]; rfl
    have HLE := Aside0.mk hlen
    clear hlen HS2B HS2
    go_wp2
    go_loopw [5, 24] (fun _ v24 wl => ∃ (j : Nat) (S : Nat → Prop), j ≤ b.length ∧ v24 = .int .i64 j ∧ Aside0 (Bd wl S gb (nat8 (120 :: 39 :: hexU (a2.data.toList.take j)))) ∧ Aside0 (¬ S w2.heap.size ∧ ∀ k, S k → gb ≤ k) ∧ Aside0 ((Kd.int .u8).C wl (some ⟨w2.heap.size, 0, none⟩) b.length b) ∧ Aside0 (Below gb w2 wl)) (fun _ v _ => b.length - (intOf v).toNat)
    case atStart => exact ⟨0, S2, Nat.zero_le _, rfl, HBa, HSa, HCa, HWa⟩
    case round =>
      clear HBa HSa HCa HWa kc2
      obtain ⟨j, S, hj, rfl, HBr, HSr, HCr, HWr⟩ := hrel
      by_cases hlt : j < b.length
      · obtain ⟨ad, e, hc⟩ := at_intN HCr.out j hlt
        cases e
        obtain ⟨u, hu⟩ : ∃ u, a2.data.toList[j]? = some u := ⟨_, List.getElem?_eq_getElem (by rw [HLE.out]; exact hlt)⟩
        have hbj : b[j] = (u.toNat : Int) := by
          have h1 : b[j]? = some (u.toNat : Int) := by rw [HBY.out]; unfold bytesOf; rw [List.getElem?_map, hu]; rfl
          rw [List.getElem?_eq_getElem hlt] at h1
          exact Option.some.inj h1
        rw [hbj, Addr.add_lit, Nat.zero_add] at hc
        have hu8 := u.toNat_lt
        obtain ⟨x, hx⟩ : ∃ x, u.toNat = x := ⟨_, rfl⟩
        rw [hx] at hc hu8
        have hlti : (j : Int) < (b.length : Int) := by omega
        have hRlt := World.block_lt_of_cell? wr _ hc
        have HRLT := Aside0.mk (show w2.heap.size < wr.heap.size from hRlt)
        have HGLT := Aside0.mk (show gb < wr.heap.size by obtain ⟨_, h, _⟩ := HBr.out; exact h.lt)
        obtain ⟨L, hL⟩ : ∃ L, nat8 (120 :: 39 :: hexU (a2.data.toList.take j)) = L := ⟨_, rfl⟩
        rw [hL] at HBr
        have HLL := Aside0.mk (show L.length = 2 + 2 * j by rw [← hL]; simp only [nat8, List.length_map, List.length_cons, hexU_len, List.length_take, HLE.out]; omega)
        have HNX := Aside0.mk (show nat8 (120 :: 39 :: hexU (a2.data.toList.take (j + 1))) = L ++ [((hexC (x / 16)).toNat : Int)] ++ [((hexC (x % 16)).toNat : Int)] by
          rw [← hL, List.take_add_one, hu, ← hx]
          simp [hexU, nat8])
        clear hbj hRlt hL hu hx
        go_upto_region 13 with (first | (go_at_call 47; (with_reducible refine (strings_Builder_WriteByte.calls S gb L _ wr HBr.out (by have := HLL.out; have := HSZ.out; omega)).mono ?_); rintro e w4 ⟨rfl, hb4, hB4, hk4⟩; rw [hexAt (x / 16) (by omega)] at hb4; have HB4 := Aside0.mk hb4; have HD4 := Aside0.mk hB4; have HK4 := Aside0.mk hk4; clear hb4 hB4 hk4) | (go_at_call 47; (with_reducible refine (strings_Builder_WriteByte.calls (BdS S wr w4) gb _ _ w4 HB4.out (by have := HLL.out; have := HSZ.out; rw [List.length_append, List.length_singleton]; omega)).mono ?_); rintro e w5 ⟨rfl, hb5, hB5, hk5⟩; have HB5 := Aside0.mk hb5; have HD5 := Aside0.mk hB5; have HK5 := Aside0.mk hk5; clear hb5 hB5 hk5))
        have hb5 := HB5.out
        rw [hexAt (x % 16) (by omega), ← HNX.out] at hb5
        have HB6 := Aside0.mk hb5
        have HKa := HK4.out.1
        have HKb := HK5.out.1
        have HSn := Aside0.mk (show ¬ BdS (BdS S wr w4) w4 w5 w2.heap.size ∧ ∀ k, BdS (BdS S wr w4) w4 w5 k → gb ≤ k from ⟨fun h => by
          have h1 := HRLT.out
          rcases h with (h | h) | h
          · exact HSr.out.1 h
          · omega
          · omega, fun k h => by
          have h1 := HGLT.out
          rcases h with (h | h) | h
          · exact HSr.out.2 k h
          · omega
          · omega⟩)
        have HCn := Aside0.mk (show (Kd.int .u8).C w5 (some ⟨w2.heap.size, 0, none⟩) b.length b from bdC_blocks HCr.out (fun ad e => by
          cases e
          have h1 := HRLT.out
          show w5.heap[w2.heap.size]? = wr.heap[w2.heap.size]?
          rw [HK5.out.2 _ (by omega) (fun h => by
            rcases h with h | h
            · exact HSr.out.1 h
            · omega), HK4.out.2 _ h1 HSr.out.1]))
        have HWn := Aside0.mk (show Below gb w2 w5 from (HWr.out.trans (bdBelow HD4.out HK4.out (by have := HGLT.out; omega) HSr.out.2)).trans (bdBelow HD5.out HK5.out (by have := HGLT.out; omega) (fun k h => by
          have h1 := HGLT.out
          rcases h with h | h
          · exact HSr.out.2 k h
          · omega)))
        clear hb5 HB5 HD4 HD5 HK4 HK5 HNX HKa HKb HCr HBr HSr HWr hc
        go_wp2
        go_roundw
        case rel => exact ⟨j + 1, _, by omega, by go_num, HB6, HSn, HCn, HWn⟩
        case measure => simp [intOf]; omega
      · have hj' : j = b.length := by omega
        have hall : a2.data.toList.take j = a2.data.toList := List.take_of_length_le (by rw [HLE.out]; omega)
        rw [hall] at HBr
        obtain ⟨L, hL⟩ : ∃ L, nat8 (120 :: 39 :: hexU a2.data.toList) = L := ⟨_, rfl⟩
        rw [hL] at HBr
        have HLL := Aside0.mk (show L.length = 2 + 2 * b.length by rw [← hL]; simp only [nat8, List.length_map, List.length_cons, hexU_len, HLE.out]; omega)
        have HNX := Aside0.mk (show (L ++ [39]).map (Value.int .u8) = Lib.byteCells (textU a2) by
          rw [← hL]
          simp [textU, nat8, Lib.byteCells])
        have hlti : ¬ (j : Int) < (b.length : Int) := by omega
        have HGLT := Aside0.mk (show gb < wr.heap.size by obtain ⟨_, h, _⟩ := HBr.out; exact h.lt)
        clear hall hL hj'
        go_wp2_with (first | (go_at_call 47; (with_reducible refine (strings_Builder_WriteByte.calls S gb L 39 wr HBr.out (by have := HLL.out; have := HSZ.out; omega)).mono ?_); rintro e w4 ⟨rfl, hb4, hB4, hk4⟩; have hq4 := Bd.to (B := gb) hb4 (fun k h => by have h1 := HGLT.out; rcases h with h | h; exact HSr.out.2 k h; omega); rw [HNX.out] at hq4; have HB4 := Aside0.mk (show Lib.IsBuilder 74 5 gb gb (Lib.byteCells (textU a2)) w4 from .inr hq4); have HW4 := Aside0.mk (HWr.out.trans (bdBelow hB4 hk4 (by have := HGLT.out; omega) HSr.out.2)); have HZ4 := Aside0.mk (show gb ≤ w4.heap.size by have := hk4.1; have := HGLT.out; omega); clear hb4 hB4 hk4 hq4) | (go_at_call 48; (with_reducible refine (Tryd.Builder_String_any gb gb (textU a2) w4 HB4.out HZ4.out).mono ?_); rintro e w5 ⟨rfl, hB5⟩; have HB5 := Aside0.mk hB5; clear hB5))
        go_ret
        refine ⟨rfl, HB12.out.trans ((HW4.out.trans HB5.out).mono ?_)⟩
        have h1 := HB1.out.size
        have h2 := HG.out
        omega
  · rw [if_neg hsz] at h
    cases h


end Go.Proofs.YtblaibigjhlblaaDoor.Q
end

section
-- written by hprint.py (a program of these sessions) out of the translation; Lean checks it
namespace Go.Proofs.YtblaibigjhlblaaDoor.Q
open Go.RowKit Go.Proofs.YtblaibigjhlblaaDoorW.Hb Go.Proofs.YtblaibigjhlblaaDoorW.PrintWords Go.Proofs.YtblaibigjhlblaaDoorW.PrintLast Go.Proofs.YtblaibigjhlblaaDoorW.PrintMore
attribute [local go_sem] max2_int min2_int max_two min_two max_three min_three max_four min_four   -- for this text's walks alone
set_option linter.unusedVariables false
set_option linter.unusedSimpArgs false

/-! ### value_word: function 28, by hand -/
def digU : List UInt8 := [48, 49, 50, 51, 52, 53, 54, 55, 56, 57, 97, 98, 99, 100, 101, 102]
def ixB (c : UInt8) : Int := Lib.indexByte digU c
def unhexU : List UInt8 → List UInt8 → Option (List UInt8)
  | a :: b :: r, acc => if ixB a < 0 ∨ ixB b < 0 then none else unhexU r (acc ++ [(ixB a * 16 + ixB b).toNat.toUInt8])
  | _, acc => some acc
theorem extract_two (x : ByteArray) : (x.extract 2 x.size).data.toList = x.data.toList.drop 2 := by
  simp only [ByteArray.data_extract, Array.toList_extract, List.extract_eq_drop_take']
  rw [List.take_of_length_le (Nat.le_of_eq (Lib.size_eq x).symm)]
theorem ix_lt (l : List UInt8) (c : UInt8) : Lib.indexByte l c < (l.length : Int) ∧ -1 ≤ Lib.indexByte l c := by
  induction l with
  | nil => exact ⟨by simp [Lib.indexByte], by simp [Lib.indexByte]⟩
  | cons b l ih =>
    unfold Lib.indexByte
    rw [List.length_cons]
    split
    · omega
    · split
      · omega
      · omega
theorem strOf8 (l : List UInt8) : strOfNums (l.map fun b => (b.toNat : Int)) = ⟨l.toArray⟩ := by
  unfold strOfNums
  rw [List.map_map]
  congr 2
  conv => rhs; rw [← List.map_id l]
  refine List.map_congr_left (fun b _ => ?_)
  simp
theorem two_bytes (x : ByteArray) (h0 : 0 < x.size) (h1 : 1 < x.size) : x.data.toList = (x[0]'h0) :: (x[1]'h1) :: x.data.toList.drop 2 := by
  have e0 : x.data.toList.length = x.size := by rw [Lib.size_eq]
  have a0 : x.data.toList[0]'(by omega) = x[0]'h0 := rfl
  have a1 : x.data.toList[1]'(by omega) = x[1]'h1 := rfl
  rw [← a0, ← a1]
  rw [← List.drop_eq_getElem_cons (by omega), ← List.drop_eq_getElem_cons (by omega), List.drop_zero]
theorem or16 : ∀ n : Fin 16, ∀ m : Fin 16, Go.bits .or .i64 ((n.val : Int) * 16) (m.val : Int) = ((n.val * 16 + m.val : Nat) : Int) := by decide +kernel
def strSz : Value → Nat
  | .string s => s.size
  | _ => 0
def trueV (s : ByteArray) : Int := if (s.toList == [116, 114, 117, 101]) = true then 1 else 0
def preV (s : ByteArray) : (Int × Int × ByteArray) × Bool := if Lib.hasPrefix s.data.toList [120, 39] = true then (match unhexU (Lib.trimPrefix s.data.toList [120, 39]) [] with | none => ((3, trueV s, ⟨#[]⟩), true) | some l => ((2, 0, ⟨l.toArray⟩), false)) else (match Lib.atoiAll s.data.toList with | .ok n => ((1, n, ⟨#[]⟩), false) | _ => ((3, trueV s, ⟨#[]⟩), false))
def value_word.f (s : ByteArray) : Option (Int × Int × ByteArray × Bool) := if 281474976710656 < s.size then none else if (preV s).2 = true then some ((preV s).1.1, (preV s).1.2.1, (preV s).1.2.2, false) else (value_Right.f (preV s).1.1 (preV s).1.2.1 (preV s).1.2.2).bind fun q => if q = true then (value_text.f (preV s).1.1 (preV s).1.2.1 (preV s).1.2.2).bind fun t => some ((preV s).1.1, (preV s).1.2.1, (preV s).1.2.2, t.toList == s.toList) else some ((preV s).1.1, (preV s).1.2.1, (preV s).1.2.2, false)
set_option maxRecDepth 100000 in
set_option maxHeartbeats 4000000 in
/-- The end: the value is looked at, and its text. -/
theorem value_word.calls (s : ByteArray) (r1 : Int) (r2 : Int) (r3 : ByteArray) (r4 : Bool) (w : World) (h : value_word.f s = some (r1, r2, r3, r4)) (hV : VarsOk w) :
    Calls Tryd.prog 28 #[.string s] w fun e w' => e = .returned (.tuple #[.agg #[.int .i64 r1, .int .i64 r2, .string r3], .bool r4]) ∧ Below w.heap.size w w' := by
  unfold value_word.f at h
  by_cases hbig : 281474976710656 < s.size
  · rw [if_pos hbig] at h
    cases h
  rw [if_neg hbig] at h
  have hs : s.size ≤ 281474976710656 := by omega
  clear hbig
  have HV := Aside0.mk hV
  have H := Aside0.mk h
  clear hV h
  obtain ⟨tb, htb⟩ : ∃ tb, (s.toList == [116, 114, 117, 101]) = tb := ⟨_, rfl⟩
  have HTB := Aside0.mk htb
  have HT := Aside0.mk (value_Truth.calls tb 3 (if tb = true then 1 else 0) ⟨#[]⟩ (w.alloc (.cells #[.int .i64 0, .int .i64 0, .string ⟨#[]⟩] 37)) rfl)
  obtain ⟨tv, htv⟩ : ∃ tv : Int, (if tb = true then 1 else 0) = tv := ⟨_, rfl⟩
  rw [htv] at HT
  have HTV := Aside0.mk (show trueV s = tv by unfold trueV; rw [htb]; exact htv)
  have HBa := Aside0.mk ((Below.refl w.heap.size w).alloc (Nat.le_refl _) (.cells #[.int .i64 0, .int .i64 0, .string ⟨#[]⟩] 37))
  have HK2 := Aside0.mk (Blk.new w 37 #[.int .i64 0, .int .i64 0, .string ⟨#[]⟩])
  clear htv
  go_enter Tryd.func28, Tryd.ntmps28
  go_upto_region 2 with (go_at_call 20; (with_reducible refine HT.out.mono ?_); rintro e w2 ⟨rfl, hb⟩; have HB2 := Aside0.mk hb; clear hb)
  obtain ⟨w4, hw4⟩ : ∃ w4, w4 = w2.alloc (.cells #[.int .i64 3, .int .i64 tv, .string ⟨#[]⟩] 37) := ⟨_, rfl⟩
  obtain ⟨g4, hg4⟩ : ∃ g4, g4 = w2.heap.size := ⟨_, rfl⟩
  obtain ⟨g2, hg2⟩ : ∃ g2, g2 = w.heap.size := ⟨_, rfl⟩
  have HS2 := Aside0.mk (HBa.out.trans (HB2.out.mono HBa.out.size)).size
  have HB4 := Aside0.mk (show Below w.heap.size w w4 by rw [hw4]; exact (HBa.out.trans (HB2.out.mono HBa.out.size)).alloc (HBa.out.trans (HB2.out.mono HBa.out.size)).size _)
  have HK22 := Aside0.mk (HK2.out.after HB2.out)
  have HKc := Aside0.mk (show Blk w4 g2 37 #[.int .i64 0, .int .i64 0, .string ⟨#[]⟩] by rw [hw4, hg2]; exact HK22.out.alloc _)
  have HKd := Aside0.mk (show Blk w4 g4 37 #[.int .i64 3, .int .i64 tv, .string ⟨#[]⟩] by rw [hw4, hg4]; exact Blk.new w2 _ _)
  have HNE := Aside0.mk (show g2 ≠ g4 ∧ w.heap.size ≤ g2 ∧ w.heap.size ≤ g4 by have := HK22.out.lt; have := HS2.out; omega)
  rw [← hw4, ← hg4, ← hg2]
  clear hw4 hg4 HT HK2 HBa HB2 HK22 HS2 hg2
  obtain ⟨pb, hpb⟩ : ∃ pb, Lib.hasPrefix s.data.toList [120, 39] = pb := ⟨_, rfl⟩
  obtain ⟨inn, hinn⟩ : ∃ inn : ByteArray, (⟨(Lib.trimPrefix s.data.toList [120, 39]).toArray⟩ : ByteArray) = inn := ⟨_, rfl⟩
  have HCP := Aside0.mk (show ∀ W : World, Calls Tryd.prog 39 #[.string s, .string ⟨#[120, 39]⟩] W fun e w' => e = .returned (.tuple #[.string inn, .bool pb]) ∧ w' = W from fun W => by
    have := Tryd.strings_CutPrefix s ⟨#[120, 39]⟩ W
    rw [← hpb, ← hinn]
    exact this)
  have HPB := Aside0.mk hpb
  have HINN := Aside0.mk (show Lib.trimPrefix s.data.toList [120, 39] = inn.data.toList by rw [← hinn])
  clear hpb hinn
  go_upto_if 20 with (go_at_call 39; (with_reducible refine (HCP.out _).mono ?_); rintro e w5 ⟨rfl, hw5⟩; subst w5)
  clear HCP
  go_cut [5] from 5 (fun v5 wc => ∃ (f0 f1 : Int) (f2 : ByteArray), Aside0 (Blk wc g4 37 #[.int .i64 f0, .int .i64 f1, .string f2]) ∧ Aside0 (Blk wc g2 37 #[.int .i64 0, .int .i64 0, .string ⟨#[]⟩]) ∧ Aside0 (Below w.heap.size w wc) ∧ Aside0 (preV s = ((f0, f1, f2), false)))
  case first =>
    cases pb
    · have HAT := Aside0.mk (atoiV s hs w4 (HV.out.below HB4.out))
      go_upto_region 13 with (go_at_call 41; (with_reducible refine HAT.out.mono ?_); rintro e w6 ⟨v, ev, rfl, hcase, hb⟩; have HCS := Aside0.mk hcase; have HK4 := Aside0.mk (HKd.out.after hb); have HK2 := Aside0.mk (HKc.out.after hb); have HB6 := Aside0.mk (HB4.out.trans (hb.mono HB4.out.size)); clear hb hcase)
      rcases HCS.out with ⟨rfl, ha⟩ | ⟨⟨te, pe, rfl⟩, hn⟩
      · have HP := Aside0.mk (show preV s = ((1, v, ⟨#[]⟩), false) by unfold preV; rw [HPB.out, if_neg (by decide), ha])
        have z0 : w6.cell? ⟨g4, 0, none⟩ = some (.int .i64 3) := HK4.out.cell 0
        have z1 : w6.cell? ⟨g4, 1, none⟩ = some (.int .i64 tv) := HK4.out.cell 1
        have z2 : w6.cell? ⟨g4, 2, none⟩ = some (.string ⟨#[]⟩) := HK4.out.cell 2
        have y0 : w6.frozen? ⟨g4, 0, none⟩ = false := HK4.out.frozen 0
        have y1 : w6.frozen? ⟨g4, 1, none⟩ = false := HK4.out.frozen 1
        have y2 : w6.frozen? ⟨g4, 2, none⟩ = false := HK4.out.frozen 2
        clear HCS ha
        go_wp2_with (go_at_call 18; (with_reducible refine (value_Number.calls v 1 v ⟨#[]⟩ w6 rfl).mono ?_); rintro e w7 ⟨rfl, hb⟩; have HK47 := Aside0.mk (HK4.out.after hb); have HK27 := Aside0.mk (HK2.out.after hb); have HB7 := Aside0.mk (HB6.out.trans (hb.mono HB6.out.size)); have u0 : w7.cell? ⟨g4, 0, none⟩ = some (.int .i64 3) := HK47.out.cell 0; have u1 : w7.cell? ⟨g4, 1, none⟩ = some (.int .i64 tv) := HK47.out.cell 1; have u2 : w7.cell? ⟨g4, 2, none⟩ = some (.string ⟨#[]⟩) := HK47.out.cell 2; have v0 : w7.frozen? ⟨g4, 0, none⟩ = false := HK47.out.frozen 0; have v1 : w7.frozen? ⟨g4, 1, none⟩ = false := HK47.out.frozen 1; have v2 : w7.frozen? ⟨g4, 2, none⟩ = false := HK47.out.frozen 2; clear hb)
        go_meet
        case rel => exact ⟨1, v, ⟨#[]⟩, ⟨by simpa using ((HK47.out.set_ 0 (.int .i64 1)).set_ 1 (.int .i64 v)).set_ 2 (.string ⟨#[]⟩)⟩, ⟨((HK27.out.far (p := ⟨g4, 0, none⟩) HNE.out.1 _).far (p := ⟨g4, 1, none⟩) HNE.out.1 _).far (p := ⟨g4, 2, none⟩) HNE.out.1 _⟩, ⟨((HB7.out.setCell (by exact HNE.out.2.2) _).setCell (by exact HNE.out.2.2) _).setCell (by exact HNE.out.2.2) _⟩, HP⟩
      · have HP := Aside0.mk (show preV s = ((3, tv, ⟨#[]⟩), false) by
          unfold preV
          rw [HPB.out, if_neg (by decide), HTV.out]
          cases ha : Lib.atoiAll s.data.toList with
          | ok v' => exact absurd ha (hn v')
          | range => rfl
          | _ => rfl)
        clear HCS hn
        go_wp2
        go_meet
        case rel => exact ⟨3, tv, ⟨#[]⟩, HK4, HK2, HB6, HP⟩
    · have HAL := Aside0.mk (show inn.data.toList.length ≤ s.size by
        rw [← HINN.out]
        unfold Lib.trimPrefix
        split
        · rw [List.length_drop, Lib.size_eq]; omega
        · rw [Lib.size_eq]; omega)
      go_wp2
      go_loopw [5, 7] (fun v5 v7 wl => ∃ (x : ByteArray) (acc : List UInt8), v5 = .string x ∧ Aside0 (unhexU x.data.toList acc = unhexU inn.data.toList []) ∧ Aside0 (2 * acc.length + x.size ≤ inn.size) ∧ Aside0 ((Kd.int .u8).R 5 wl w4.heap.size (fun _ => True) v7 (nat8 acc)) ∧ Aside0 (Below w4.heap.size w4 wl)) (fun v5 _ _ => strSz v5)
      case atStart => exact ⟨inn, [], rfl, ⟨rfl⟩, ⟨by simp⟩, ⟨Kd.R_nil _ _ _ _ _⟩, ⟨Below.refl _ _⟩⟩
      case round =>
        obtain ⟨x, acc, rfl, HU, HA, HO, HBl⟩ := hrel
        have HK4 := Aside0.mk (HKd.out.after HBl.out)
        have HK2 := Aside0.mk (HKc.out.after HBl.out)
        have HB6 := Aside0.mk (HB4.out.trans (HBl.out.mono HB4.out.size))
        have hx63 : x.size ≤ 9223372036854775807 := by
          have h1 := HA.out
          have h2 := HAL.out
          have h3 := Lib.size_eq inn
          omega
        by_cases hx1 : 1 < x.size
        · have hx0 : 0 < x.size := by omega
          obtain ⟨a, ha⟩ : ∃ a, x[0]'hx0 = a := ⟨_, rfl⟩
          obtain ⟨b, hb⟩ : ∃ b, x[1]'hx1 = b := ⟨_, rfl⟩
          obtain ⟨ia, hia⟩ : ∃ ia, ixB a = ia := ⟨_, rfl⟩
          obtain ⟨ib, hib⟩ : ∃ ib, ixB b = ib := ⟨_, rfl⟩
          have HIA := Aside0.mk (show ∀ W : World, Calls Tryd.prog 40 #[.string ⟨#[48, 49, 50, 51, 52, 53, 54, 55, 56, 57, 97, 98, 99, 100, 101, 102]⟩, .int .u8 (a.toNat : Int)] W fun e w' => e = .returned (.int .i64 ia) ∧ w' = W from fun W => by
            have := Tryd.strings_IndexByte ⟨#[48, 49, 50, 51, 52, 53, 54, 55, 56, 57, 97, 98, 99, 100, 101, 102]⟩ (a.toNat : Int) W
            rw [← hia]
            simpa [ixB, digU] using this)
          have HIB := Aside0.mk (show ∀ W : World, Calls Tryd.prog 40 #[.string ⟨#[48, 49, 50, 51, 52, 53, 54, 55, 56, 57, 97, 98, 99, 100, 101, 102]⟩, .int .u8 (b.toNat : Int)] W fun e w' => e = .returned (.int .i64 ib) ∧ w' = W from fun W => by
            have := Tryd.strings_IndexByte ⟨#[48, 49, 50, 51, 52, 53, 54, 55, 56, 57, 97, 98, 99, 100, 101, 102]⟩ (b.toNat : Int) W
            rw [← hib]
            simpa [ixB, digU] using this)
          have HUX := Aside0.mk (show unhexU x.data.toList acc = if ia < 0 ∨ ib < 0 then none else unhexU (x.extract 2 x.size).data.toList (acc ++ [(ia * 16 + ib).toNat.toUInt8]) by
            rw [two_bytes x hx0 hx1, ha, hb, unhexU, hia, hib, extract_two])
          have hla := ix_lt digU a
          have hlb := ix_lt digU b
          have hia2 : Lib.indexByte digU a = ia := hia
          have hib2 : Lib.indexByte digU b = ib := hib
          rw [hia2] at hla
          rw [hib2] at hlb
          have HLA := Aside0.mk (show ia < 16 ∧ -1 ≤ ia from ⟨hla.1, hla.2⟩)
          have HLB := Aside0.mk (show ib < 16 ∧ -1 ≤ ib from ⟨hlb.1, hlb.2⟩)
          have hx1b : decide (1 < (x.size : Int)) = true := decide_eq_true (by omega)
          have hx1i : (1 : Int) < (x.size : Int) := by omega
          have hx0i : (0 : Int) < (x.size : Int) := by omega
          clear hia hib hla hlb hia2 hib2
          have z0 : wr.cell? ⟨g4, 0, none⟩ = some (.int .i64 3) := HK4.out.cell 0
          have z1 : wr.cell? ⟨g4, 1, none⟩ = some (.int .i64 tv) := HK4.out.cell 1
          have z2 : wr.cell? ⟨g4, 2, none⟩ = some (.string ⟨#[]⟩) := HK4.out.cell 2
          have y0 : wr.cell? ⟨g2, 0, none⟩ = some (.int .i64 0) := HK2.out.cell 0
          have y1 : wr.cell? ⟨g2, 1, none⟩ = some (.int .i64 0) := HK2.out.cell 1
          have y2 : wr.cell? ⟨g2, 2, none⟩ = some (.string ⟨#[]⟩) := HK2.out.cell 2
          have q0 : wr.frozen? ⟨g2, 0, none⟩ = false := HK2.out.frozen 0
          have q1 : wr.frozen? ⟨g2, 1, none⟩ = false := HK2.out.frozen 1
          have q2 : wr.frozen? ⟨g2, 2, none⟩ = false := HK2.out.frozen 2
          by_cases hbad : ia < 0 ∨ ib < 0
          · have HPF := Aside0.mk (show preV s = ((3, tv, ⟨#[]⟩), true) by
              unfold preV
              rw [HPB.out, if_pos rfl, HINN.out, ← HU.out, HUX.out, if_pos hbad, HTV.out])
            have hend : ∀ W, Blk W g2 37 #[.int .i64 0, .int .i64 0, .string ⟨#[]⟩] → True := fun _ _ => trivial
            clear hend HUX HU
            have hh := H.out
            rw [HPF.out, if_pos rfl] at hh
            simp only [Option.some.injEq, Prod.mk.injEq] at hh
            obtain ⟨rfl, rfl, rfl, rfl⟩ := hh
            clear H HPF
            have HK2d := Aside0.mk HK2.out.drew
            have HB6d := Aside0.mk HB6.out.drew
            clear z0 z1 z2 y0 y1 y2 q0 q1 q2
            by_cases hn : ia < 0
            · have da : decide (ia < 0) = true := decide_eq_true hn
              clear hn hbad
              have z0 : wr.drew.cell? ⟨g4, 0, none⟩ = some (.int .i64 3) := HK4.out.cell 0
              have z1 : wr.drew.cell? ⟨g4, 1, none⟩ = some (.int .i64 tv) := HK4.out.cell 1
              have z2 : wr.drew.cell? ⟨g4, 2, none⟩ = some (.string ⟨#[]⟩) := HK4.out.cell 2
              have y0 : wr.drew.cell? ⟨g2, 0, none⟩ = some (.int .i64 0) := HK2.out.cell 0
              have y1 : wr.drew.cell? ⟨g2, 1, none⟩ = some (.int .i64 0) := HK2.out.cell 1
              have y2 : wr.drew.cell? ⟨g2, 2, none⟩ = some (.string ⟨#[]⟩) := HK2.out.cell 2
              have q0 : wr.drew.frozen? ⟨g2, 0, none⟩ = false := HK2.out.frozen 0
              have q1 : wr.drew.frozen? ⟨g2, 1, none⟩ = false := HK2.out.frozen 1
              have q2 : wr.drew.frozen? ⟨g2, 2, none⟩ = false := HK2.out.frozen 2
              go_upto_region 7 with (fail)
              refine start_ (n := 8) (S := fun w' => True) (ds := []) #[false, false, false, false, false, false, false, false] (by kernel_rfl) rfl rfl trivial (fun hHeld => ?_)
              generalize wr.drew = wd at HK2d HB6d z0 z1 z2 y0 y1 y2 q0 q1 q2 hHeld ⊢
              refine pure_ (i := 0) (N := some 26) (v := ?_) (a' := ?_) #[true, false, false, false, false, false, false, false] rfl rfl (by kernel_rfl) (fun _ _ _ h => h) (Or.inl ⟨by rfl, ?_⟩) ?_ ?_
              rotate_left
              · intro w'
                go_simp
                with_reducible rfl
              rotate_left
              · simp only [Act.put, List.setIfInBounds_toArray, List.set_cons_zero, List.set_cons_succ, i64_w, i32_w]
                rfl
              refine pure_ (i := 3) (N := some 29) (v := ?_) (a' := ?_) #[true, false, false, true, false, false, false, false] rfl rfl (by kernel_rfl) (fun _ _ _ h => h) (Or.inl ⟨by rfl, ?_⟩) ?_ ?_
              rotate_left
              · intro w'
                go_simp
                with_reducible rfl
              rotate_left
              · simp only [Act.put, List.setIfInBounds_toArray, List.set_cons_zero, List.set_cons_succ, i64_w, i32_w]
                rfl
              refine take_ (i := 1) (N := some 27) (v := ?_) (a' := ?_) #[true, true, false, true, false, false, false, false] rfl rfl (by kernel_rfl) (fun _ _ _ h => h) (Or.inl ⟨by rfl, ?_⟩) hHeld ?_ ?_
              rotate_left
              · intro w' _
                go_simp
                with_reducible rfl
              rotate_left
              · simp only [Act.put, List.setIfInBounds_toArray, List.set_cons_zero, List.set_cons_succ, i64_w, i32_w]
                rfl
              refine take_ (i := 4) (N := some 30) (v := ?_) (a' := ?_) #[true, true, false, true, true, false, false, false] rfl rfl (by kernel_rfl) (fun _ _ _ h => h) (Or.inl ⟨by rfl, ?_⟩) hHeld ?_ ?_
              rotate_left
              · intro w' _
                go_simp
                with_reducible rfl
              rotate_left
              · simp only [Act.put, List.setIfInBounds_toArray, List.set_cons_zero, List.set_cons_succ, i64_w, i32_w]
                rfl
              refine one_ (i := 2) (N := some 28) #[true, true, true, true, true, false, false, false] rfl rfl (by kernel_rfl) (by decide) (fun K hK => ?_)
              refine goes_ Tryd.func40 (by kernel_rfl) rfl #[.string ⟨#[48, 49, 50, 51, 52, 53, 54, 55, 56, 57, 97, 98, 99, 100, 101, 102]⟩, .int .u8 (a.toNat : Int)] (by rfl) rfl rfl (by simp only [List.map_toArray, List.map_cons, List.map_nil]; rfl) ?_
              with_reducible refine (HIA.out wd).mono ?_
              rintro e w8 ⟨rfl, hw8⟩
              refine ⟨_, rfl, ?_⟩
              subst w8
              refine hK.out _ _ trivial (fun hHeld => ?_)
              clear hK K
              refine norm_ (a' := ?_) ?_ ?_
              rotate_left
              · show Act.put _ (some 28) _ = _
                simp only [Act.put, List.setIfInBounds_toArray, List.set_cons_zero, List.set_cons_succ, i64_w, i32_w]
                rfl
              refine one_ (i := 5) (N := some 31) #[true, true, true, true, true, true, false, false] rfl rfl (by kernel_rfl) (by decide) (fun K hK => ?_)
              refine goes_ Tryd.func40 (by kernel_rfl) rfl #[.string ⟨#[48, 49, 50, 51, 52, 53, 54, 55, 56, 57, 97, 98, 99, 100, 101, 102]⟩, .int .u8 (b.toNat : Int)] (by rfl) rfl rfl (by simp only [List.map_toArray, List.map_cons, List.map_nil]; rfl) ?_
              with_reducible refine (HIB.out wd).mono ?_
              rintro e w8 ⟨rfl, hw8⟩
              refine ⟨_, rfl, ?_⟩
              subst w8
              refine hK.out _ _ trivial (fun hHeld => ?_)
              clear hK K
              refine norm_ (a' := ?_) ?_ ?_
              rotate_left
              · show Act.put _ (some 31) _ = _
                simp only [Act.put, List.setIfInBounds_toArray, List.set_cons_zero, List.set_cons_succ, i64_w, i32_w]
                rfl
              refine pure_ (i := 6) (N := some 8) (v := ?_) (a' := ?_) #[true, true, true, true, true, true, true, false] rfl rfl (by kernel_rfl) (fun _ _ _ h => h) (Or.inl ⟨by rfl, ?_⟩) ?_ ?_
              rotate_left
              · intro w'
                go_simp
                with_reducible rfl
              rotate_left
              · simp only [Act.put, List.setIfInBounds_toArray, List.set_cons_zero, List.set_cons_succ, i64_w, i32_w]
                rfl
              refine pure_ (i := 7) (N := some 9) (v := ?_) (a' := ?_) #[true, true, true, true, true, true, true, true] rfl rfl (by kernel_rfl) (fun _ _ _ h => h) (Or.inl ⟨by rfl, ?_⟩) ?_ ?_
              rotate_left
              · intro w'
                go_simp
                with_reducible rfl
              rotate_left
              · simp only [Act.put, List.setIfInBounds_toArray, List.set_cons_zero, List.set_cons_succ, i64_w, i32_w]
                rfl
              refine done_ (by kernel_rfl) ?_
              clear hHeld
              go_wp2
              refine bodyPost_ret (results_ct rfl _ _ g2 37 #[.int .i64 3, .int .i64 tv, .string ⟨#[]⟩] (0, 0) _ rfl (show Blk _ g2 37 #[.int .i64 3, .int .i64 tv, .string ⟨#[]⟩] from by simpa using ((HK2d.out.set_ 0 (.int .i64 3)).set_ 1 (.int .i64 tv)).set_ 2 (.string ⟨#[]⟩)) Tryd.underlying37 rfl (by kernel_rfl)) rfl ?_
              exact ⟨rfl, ((HB6d.out.setCell (by exact HNE.out.2.1) _).setCell (by exact HNE.out.2.1) _).setCell (by exact HNE.out.2.1) _⟩
            · have da : decide (ia < 0) = false := decide_eq_false hn
              have db : decide (ib < 0) = true := decide_eq_true (by omega)
              clear hn hbad
              have z0 : wr.drew.cell? ⟨g4, 0, none⟩ = some (.int .i64 3) := HK4.out.cell 0
              have z1 : wr.drew.cell? ⟨g4, 1, none⟩ = some (.int .i64 tv) := HK4.out.cell 1
              have z2 : wr.drew.cell? ⟨g4, 2, none⟩ = some (.string ⟨#[]⟩) := HK4.out.cell 2
              have y0 : wr.drew.cell? ⟨g2, 0, none⟩ = some (.int .i64 0) := HK2.out.cell 0
              have y1 : wr.drew.cell? ⟨g2, 1, none⟩ = some (.int .i64 0) := HK2.out.cell 1
              have y2 : wr.drew.cell? ⟨g2, 2, none⟩ = some (.string ⟨#[]⟩) := HK2.out.cell 2
              have q0 : wr.drew.frozen? ⟨g2, 0, none⟩ = false := HK2.out.frozen 0
              have q1 : wr.drew.frozen? ⟨g2, 1, none⟩ = false := HK2.out.frozen 1
              have q2 : wr.drew.frozen? ⟨g2, 2, none⟩ = false := HK2.out.frozen 2
              go_upto_region 7 with (fail)
              refine start_ (n := 8) (S := fun w' => True) (ds := []) #[false, false, false, false, false, false, false, false] (by kernel_rfl) rfl rfl trivial (fun hHeld => ?_)
              generalize wr.drew = wd at HK2d HB6d z0 z1 z2 y0 y1 y2 q0 q1 q2 hHeld ⊢
              refine pure_ (i := 0) (N := some 26) (v := ?_) (a' := ?_) #[true, false, false, false, false, false, false, false] rfl rfl (by kernel_rfl) (fun _ _ _ h => h) (Or.inl ⟨by rfl, ?_⟩) ?_ ?_
              rotate_left
              · intro w'
                go_simp
                with_reducible rfl
              rotate_left
              · simp only [Act.put, List.setIfInBounds_toArray, List.set_cons_zero, List.set_cons_succ, i64_w, i32_w]
                rfl
              refine pure_ (i := 3) (N := some 29) (v := ?_) (a' := ?_) #[true, false, false, true, false, false, false, false] rfl rfl (by kernel_rfl) (fun _ _ _ h => h) (Or.inl ⟨by rfl, ?_⟩) ?_ ?_
              rotate_left
              · intro w'
                go_simp
                with_reducible rfl
              rotate_left
              · simp only [Act.put, List.setIfInBounds_toArray, List.set_cons_zero, List.set_cons_succ, i64_w, i32_w]
                rfl
              refine take_ (i := 1) (N := some 27) (v := ?_) (a' := ?_) #[true, true, false, true, false, false, false, false] rfl rfl (by kernel_rfl) (fun _ _ _ h => h) (Or.inl ⟨by rfl, ?_⟩) hHeld ?_ ?_
              rotate_left
              · intro w' _
                go_simp
                with_reducible rfl
              rotate_left
              · simp only [Act.put, List.setIfInBounds_toArray, List.set_cons_zero, List.set_cons_succ, i64_w, i32_w]
                rfl
              refine take_ (i := 4) (N := some 30) (v := ?_) (a' := ?_) #[true, true, false, true, true, false, false, false] rfl rfl (by kernel_rfl) (fun _ _ _ h => h) (Or.inl ⟨by rfl, ?_⟩) hHeld ?_ ?_
              rotate_left
              · intro w' _
                go_simp
                with_reducible rfl
              rotate_left
              · simp only [Act.put, List.setIfInBounds_toArray, List.set_cons_zero, List.set_cons_succ, i64_w, i32_w]
                rfl
              refine one_ (i := 2) (N := some 28) #[true, true, true, true, true, false, false, false] rfl rfl (by kernel_rfl) (by decide) (fun K hK => ?_)
              refine goes_ Tryd.func40 (by kernel_rfl) rfl #[.string ⟨#[48, 49, 50, 51, 52, 53, 54, 55, 56, 57, 97, 98, 99, 100, 101, 102]⟩, .int .u8 (a.toNat : Int)] (by rfl) rfl rfl (by simp only [List.map_toArray, List.map_cons, List.map_nil]; rfl) ?_
              with_reducible refine (HIA.out wd).mono ?_
              rintro e w8 ⟨rfl, hw8⟩
              refine ⟨_, rfl, ?_⟩
              subst w8
              refine hK.out _ _ trivial (fun hHeld => ?_)
              clear hK K
              refine norm_ (a' := ?_) ?_ ?_
              rotate_left
              · show Act.put _ (some 28) _ = _
                simp only [Act.put, List.setIfInBounds_toArray, List.set_cons_zero, List.set_cons_succ, i64_w, i32_w]
                rfl
              refine one_ (i := 5) (N := some 31) #[true, true, true, true, true, true, false, false] rfl rfl (by kernel_rfl) (by decide) (fun K hK => ?_)
              refine goes_ Tryd.func40 (by kernel_rfl) rfl #[.string ⟨#[48, 49, 50, 51, 52, 53, 54, 55, 56, 57, 97, 98, 99, 100, 101, 102]⟩, .int .u8 (b.toNat : Int)] (by rfl) rfl rfl (by simp only [List.map_toArray, List.map_cons, List.map_nil]; rfl) ?_
              with_reducible refine (HIB.out wd).mono ?_
              rintro e w8 ⟨rfl, hw8⟩
              refine ⟨_, rfl, ?_⟩
              subst w8
              refine hK.out _ _ trivial (fun hHeld => ?_)
              clear hK K
              refine norm_ (a' := ?_) ?_ ?_
              rotate_left
              · show Act.put _ (some 31) _ = _
                simp only [Act.put, List.setIfInBounds_toArray, List.set_cons_zero, List.set_cons_succ, i64_w, i32_w]
                rfl
              refine pure_ (i := 6) (N := some 8) (v := ?_) (a' := ?_) #[true, true, true, true, true, true, true, false] rfl rfl (by kernel_rfl) (fun _ _ _ h => h) (Or.inl ⟨by rfl, ?_⟩) ?_ ?_
              rotate_left
              · intro w'
                go_simp
                with_reducible rfl
              rotate_left
              · simp only [Act.put, List.setIfInBounds_toArray, List.set_cons_zero, List.set_cons_succ, i64_w, i32_w]
                rfl
              refine pure_ (i := 7) (N := some 9) (v := ?_) (a' := ?_) #[true, true, true, true, true, true, true, true] rfl rfl (by kernel_rfl) (fun _ _ _ h => h) (Or.inl ⟨by rfl, ?_⟩) ?_ ?_
              rotate_left
              · intro w'
                go_simp
                with_reducible rfl
              rotate_left
              · simp only [Act.put, List.setIfInBounds_toArray, List.set_cons_zero, List.set_cons_succ, i64_w, i32_w]
                rfl
              refine done_ (by kernel_rfl) ?_
              clear hHeld
              go_wp2
              refine bodyPost_ret (results_ct rfl _ _ g2 37 #[.int .i64 3, .int .i64 tv, .string ⟨#[]⟩] (0, 0) _ rfl (show Blk _ g2 37 #[.int .i64 3, .int .i64 tv, .string ⟨#[]⟩] from by simpa using ((HK2d.out.set_ 0 (.int .i64 3)).set_ 1 (.int .i64 tv)).set_ 2 (.string ⟨#[]⟩)) Tryd.underlying37 rfl (by kernel_rfl)) rfl ?_
              exact ⟨rfl, ((HB6d.out.setCell (by exact HNE.out.2.1) _).setCell (by exact HNE.out.2.1) _).setCell (by exact HNE.out.2.1) _⟩
          · have da : decide (ia < 0) = false := decide_eq_false (by omega)
            have db : decide (ib < 0) = false := decide_eq_false (by omega)
            obtain ⟨n, rfl⟩ := Int.eq_ofNat_of_zero_le (show 0 ≤ ia by omega)
            obtain ⟨m, rfl⟩ := Int.eq_ofNat_of_zero_le (show 0 ≤ ib by omega)
            have hn16 : n < 16 := by have := HLA.out; omega
            have hm16 : m < 16 := by have := HLB.out; omega
            have hor : Go.bits .or .i64 ((n : Int) * 16) (m : Int) = ((n * 16 + m : Nat) : Int) := or16 ⟨n, hn16⟩ ⟨m, hm16⟩
            have HU2 := Aside0.mk (show unhexU (x.extract 2 x.size).data.toList (acc ++ [(n * 16 + m).toUInt8]) = unhexU inn.data.toList [] by
              rw [← HU.out, HUX.out, if_neg (by omega)]
              rfl)
            clear HUX HU hbad HLA HLB z0 z1 z2 y0 y1 y2 q0 q1 q2
            have HOd := Aside0.mk (Kd.R_drew HO.out)
            have HBd := Aside0.mk HBl.out.drew
            have HNL := Aside0.mk (show nat8 (acc ++ [(n * 16 + m).toUInt8]) = nat8 acc ++ [((n * 16 + m : Nat) : Int)] by
              unfold nat8
              rw [List.map_append]
              congr 1
              simp
              omega)
            have HAL2 := Aside0.mk (show ((nat8 acc).length + 1) * 1 ≤ 140737488355328 by
              have h1 := HA.out
              have h2 := HAL.out
              have h3 := Lib.size_eq inn
              unfold nat8
              rw [List.length_map]
              omega)
            go_upto_region 7 with (fail)
            refine start_ (n := 8) (S := fun w' => True) (ds := []) #[false, false, false, false, false, false, false, false] (by kernel_rfl) rfl rfl trivial (fun hHeld => ?_)
            generalize wr.drew = wd at HOd HBd hHeld ⊢
            refine pure_ (i := 0) (N := some 26) (v := ?_) (a' := ?_) #[true, false, false, false, false, false, false, false] rfl rfl (by kernel_rfl) (fun _ _ _ h => h) (Or.inl ⟨by rfl, ?_⟩) ?_ ?_
            rotate_left
            · intro w'
              go_simp
              with_reducible rfl
            rotate_left
            · simp only [Act.put, List.setIfInBounds_toArray, List.set_cons_zero, List.set_cons_succ, i64_w, i32_w]
              rfl
            refine pure_ (i := 3) (N := some 29) (v := ?_) (a' := ?_) #[true, false, false, true, false, false, false, false] rfl rfl (by kernel_rfl) (fun _ _ _ h => h) (Or.inl ⟨by rfl, ?_⟩) ?_ ?_
            rotate_left
            · intro w'
              go_simp
              with_reducible rfl
            rotate_left
            · simp only [Act.put, List.setIfInBounds_toArray, List.set_cons_zero, List.set_cons_succ, i64_w, i32_w]
              rfl
            refine take_ (i := 1) (N := some 27) (v := ?_) (a' := ?_) #[true, true, false, true, false, false, false, false] rfl rfl (by kernel_rfl) (fun _ _ _ h => h) (Or.inl ⟨by rfl, ?_⟩) hHeld ?_ ?_
            rotate_left
            · intro w' _
              go_simp
              with_reducible rfl
            rotate_left
            · simp only [Act.put, List.setIfInBounds_toArray, List.set_cons_zero, List.set_cons_succ, i64_w, i32_w]
              rfl
            refine take_ (i := 4) (N := some 30) (v := ?_) (a' := ?_) #[true, true, false, true, true, false, false, false] rfl rfl (by kernel_rfl) (fun _ _ _ h => h) (Or.inl ⟨by rfl, ?_⟩) hHeld ?_ ?_
            rotate_left
            · intro w' _
              go_simp
              with_reducible rfl
            rotate_left
            · simp only [Act.put, List.setIfInBounds_toArray, List.set_cons_zero, List.set_cons_succ, i64_w, i32_w]
              rfl
            refine one_ (i := 2) (N := some 28) #[true, true, true, true, true, false, false, false] rfl rfl (by kernel_rfl) (by decide) (fun K hK => ?_)
            refine goes_ Tryd.func40 (by kernel_rfl) rfl #[.string ⟨#[48, 49, 50, 51, 52, 53, 54, 55, 56, 57, 97, 98, 99, 100, 101, 102]⟩, .int .u8 (a.toNat : Int)] (by rfl) rfl rfl (by simp only [List.map_toArray, List.map_cons, List.map_nil]; rfl) ?_
            with_reducible refine (HIA.out wd).mono ?_
            rintro e w8 ⟨rfl, hw8⟩
            refine ⟨_, rfl, ?_⟩
            subst w8
            refine hK.out _ _ trivial (fun hHeld => ?_)
            clear hK K
            refine norm_ (a' := ?_) ?_ ?_
            rotate_left
            · show Act.put _ (some 28) _ = _
              simp only [Act.put, List.setIfInBounds_toArray, List.set_cons_zero, List.set_cons_succ, i64_w, i32_w]
              rfl
            refine one_ (i := 5) (N := some 31) #[true, true, true, true, true, true, false, false] rfl rfl (by kernel_rfl) (by decide) (fun K hK => ?_)
            refine goes_ Tryd.func40 (by kernel_rfl) rfl #[.string ⟨#[48, 49, 50, 51, 52, 53, 54, 55, 56, 57, 97, 98, 99, 100, 101, 102]⟩, .int .u8 (b.toNat : Int)] (by rfl) rfl rfl (by simp only [List.map_toArray, List.map_cons, List.map_nil]; rfl) ?_
            with_reducible refine (HIB.out wd).mono ?_
            rintro e w8 ⟨rfl, hw8⟩
            refine ⟨_, rfl, ?_⟩
            subst w8
            refine hK.out _ _ trivial (fun hHeld => ?_)
            clear hK K
            refine norm_ (a' := ?_) ?_ ?_
            rotate_left
            · show Act.put _ (some 31) _ = _
              simp only [Act.put, List.setIfInBounds_toArray, List.set_cons_zero, List.set_cons_succ, i64_w, i32_w]
              rfl
            refine pure_ (i := 6) (N := some 8) (v := ?_) (a' := ?_) #[true, true, true, true, true, true, true, false] rfl rfl (by kernel_rfl) (fun _ _ _ h => h) (Or.inl ⟨by rfl, ?_⟩) ?_ ?_
            rotate_left
            · intro w'
              go_simp
              with_reducible rfl
            rotate_left
            · simp only [Act.put, List.setIfInBounds_toArray, List.set_cons_zero, List.set_cons_succ, i64_w, i32_w]
              rfl
            refine pure_ (i := 7) (N := some 9) (v := ?_) (a' := ?_) #[true, true, true, true, true, true, true, true] rfl rfl (by kernel_rfl) (fun _ _ _ h => h) (Or.inl ⟨by rfl, ?_⟩) ?_ ?_
            rotate_left
            · intro w'
              go_simp
              with_reducible rfl
            rotate_left
            · simp only [Act.put, List.setIfInBounds_toArray, List.set_cons_zero, List.set_cons_succ, i64_w, i32_w]
              rfl
            refine done_ (by kernel_rfl) ?_
            clear hHeld
            go_upto_region 6 with ((with_reducible refine gate_builtin (b := .append) (xs := #[.tmp 39, .tmp 45]) rfl ?_); at_builtin; refine Kd.R_append (Kd.int .u8) (w0 := w4) (W := wd) w4.heap.size rfl (.tmp 39) (.tmp 45) 60 5 (.int .u8 0) 1 rfl Tryd.underlying60 info5 rfl (by decide) (by omega) _ (nat8 acc) ((n * 16 + m : Nat) : Int) [.int .u8 ((n * 16 + m : Nat) : Int)] (fun _ => True) (fun _ => False) rfl rfl rfl (fun _ hk => hk.elim) (fun _ _ => trivial) HOd.out HBd.out HBd.out.size HAL2.out ?_; intro v5 w5 hR5 hB5 _ _; rw [← HNL.out] at hR5; have HR5 := Aside0.mk hR5; have HB5 := Aside0.mk hB5; clear hR5 hB5)
            have HSZ := Aside0.mk (show (x.extract 2 x.size).size = x.size - 2 by
              have h1 := congrArg List.length (extract_two x)
              rw [List.length_drop, ← Lib.size_eq, ← Lib.size_eq] at h1
              exact h1)
            clear hor ha hb
            go_wp2
            go_roundw
            case rel => exact ⟨x.extract 2 x.size, acc ++ [(n * 16 + m).toUInt8], rfl, HU2, ⟨by have h1 := HA.out; have h2 := HSZ.out; rw [List.length_append, List.length_singleton]; omega⟩, HR5, HB5⟩
            case measure => have h2 := HSZ.out; simp [strSz]; omega
        · have hx1b : decide (1 < (x.size : Int)) = false := decide_eq_false (by omega)
          have hx1i : ¬ (1 : Int) < (x.size : Int) := by omega
          have HUE := Aside0.mk (show unhexU x.data.toList acc = some acc by
            have h1 : x.data.toList.length ≤ 1 := by rw [← Lib.size_eq]; omega
            match hh : x.data.toList, h1 with
            | [], _ => rfl
            | [a], _ => rfl
            | a :: b :: r, h1 => simp at h1)
          have HP := Aside0.mk (show preV s = ((2, 0, ⟨acc.toArray⟩), false) by
            unfold preV
            rw [HPB.out, if_pos rfl, HINN.out, ← HU.out, HUE.out])
          obtain ⟨A7, c7, rfl, hc7, hC7⟩ := Kd.R_reads HO.out
          have hcv := fun W (hW : (Kd.int .u8).C W A7 (nat8 acc).length (nat8 acc)) => Kd.C_string (P := Tryd.prog) (src := 60) (dst := 9) (e := 5) (c := c7) Tryd.underlying60 Tryd.underlying5 Tryd.underlying9 hW
          have hcv1 := hcv wr hC7
          rw [show strOfNums (nat8 acc) = ⟨acc.toArray⟩ from strOf8 acc] at hcv1
          clear hcv hC7 HU HUE HO HA hx1 hx63
          go_wp2_with (go_at_call 19; (with_reducible refine (value_Text.calls ⟨acc.toArray⟩ 2 0 ⟨acc.toArray⟩ wr rfl).mono ?_); rintro e w7 ⟨rfl, hb⟩; have HK47 := Aside0.mk (HK4.out.after hb); have HK27 := Aside0.mk (HK2.out.after hb); have HB7 := Aside0.mk (HB6.out.trans (hb.mono HB6.out.size)); have u0 : w7.cell? ⟨g4, 0, none⟩ = some (.int .i64 3) := HK47.out.cell 0; have u1 : w7.cell? ⟨g4, 1, none⟩ = some (.int .i64 tv) := HK47.out.cell 1; have u2 : w7.cell? ⟨g4, 2, none⟩ = some (.string ⟨#[]⟩) := HK47.out.cell 2; have v0 : w7.frozen? ⟨g4, 0, none⟩ = false := HK47.out.frozen 0; have v1 : w7.frozen? ⟨g4, 1, none⟩ = false := HK47.out.frozen 1; have v2 : w7.frozen? ⟨g4, 2, none⟩ = false := HK47.out.frozen 2; clear hb)
          go_meet
          case rel => exact ⟨2, 0, ⟨acc.toArray⟩, ⟨by simpa using ((HK47.out.set_ 0 (.int .i64 2)).set_ 1 (.int .i64 0)).set_ 2 (.string ⟨acc.toArray⟩)⟩, ⟨((HK27.out.far (p := ⟨g4, 0, none⟩) HNE.out.1 _).far (p := ⟨g4, 1, none⟩) HNE.out.1 _).far (p := ⟨g4, 2, none⟩) HNE.out.1 _⟩, ⟨((HB7.out.setCell (by exact HNE.out.2.2) _).setCell (by exact HNE.out.2.2) _).setCell (by exact HNE.out.2.2) _⟩, HP⟩
  case rest =>
    obtain ⟨f0, f1, f2, HK4, HK2, HB, HP⟩ := hcut
    clear HKc HKd HB4
    have h := H.out
    rw [HP.out] at h
    dsimp only at h
    rw [if_neg (by decide)] at h
    obtain ⟨q, hq, h⟩ := Option.bind_eq_some_iff.1 h
    have HQ := Aside0.mk hq
    clear hq H
    go_upto_region 15 with (fail)
    have HK4d := Aside0.mk HK4.out.drew
    have HK2d := Aside0.mk HK2.out.drew
    have HBd := Aside0.mk HB.out.drew
    have x0 : wc.drew.cell? ⟨g4, 0, none⟩ = some (.int .i64 f0) := HK4d.out.cell 0
    have x1 : wc.drew.cell? ⟨g4, 1, none⟩ = some (.int .i64 f1) := HK4d.out.cell 1
    have x2 : wc.drew.cell? ⟨g4, 2, none⟩ = some (.string f2) := HK4d.out.cell 2
    clear HK4 HK2 HB
    cases q
    · rw [if_neg (by decide)] at h
      have HH := Aside0.mk h
      clear h
      refine start_ (n := 11) (S := fun w' => w'.cell? ⟨g4, 0, none⟩ = some (.int .i64 f0) ∧ w'.cell? ⟨g4, 1, none⟩ = some (.int .i64 f1) ∧ w'.cell? ⟨g4, 2, none⟩ = some (.string f2)) (ds := [9]) #[false, false, false, false, false, false, false, false, false, false, false] (by kernel_rfl) rfl rfl ⟨x0, x1, x2⟩ (fun hHeld => ?_)
      generalize wc.drew = wd at HK4d HK2d HBd x0 x1 x2 hHeld ⊢
      refine take_ (i := 0) (N := some 59) (v := ?_) (a' := ?_) #[true, false, false, false, false, false, false, false, false, false, false] rfl rfl (by kernel_rfl) (fun _ _ _ h => h) (Or.inl ⟨by rfl, ?_⟩) hHeld ?_ ?_
      rotate_left
      · rintro w' ⟨s0, s1, s2⟩
        go_simp
        with_reducible rfl
      rotate_left
      · simp only [Act.put, List.setIfInBounds_toArray, List.set_cons_zero, List.set_cons_succ, i64_w, i32_w]
        rfl
      refine take_ (i := 1) (N := some 60) (v := ?_) (a' := ?_) #[true, true, false, false, false, false, false, false, false, false, false] rfl rfl (by kernel_rfl) (fun _ _ _ h => h) (Or.inl ⟨by rfl, ?_⟩) hHeld ?_ ?_
      rotate_left
      · rintro w' ⟨s0, s1, s2⟩
        go_simp
        with_reducible rfl
      rotate_left
      · simp only [Act.put, List.setIfInBounds_toArray, List.set_cons_zero, List.set_cons_succ, i64_w, i32_w]
        rfl
      refine one_ (i := 2) (N := some 61) #[true, true, true, false, false, false, false, false, false, false, false] rfl rfl (by kernel_rfl) (by decide) (fun K hK => ?_)
      refine goes_ Tryd.func15 (by kernel_rfl) rfl #[.agg #[.int .i64 f0, .int .i64 f1, .string f2]] (by rfl) rfl rfl (by simp only [List.map_toArray, List.map_cons, List.map_nil]; rfl) ?_
      with_reducible refine (value_Right.calls f0 f1 f2 false wd HQ.out).mono ?_
      rintro e w6 ⟨rfl, hb6⟩
      refine ⟨_, rfl, ?_⟩
      have HK46 := Aside0.mk (HK4d.out.after hb6)
      have HK26 := Aside0.mk (HK2d.out.after hb6)
      have HB6 := Aside0.mk (HBd.out.trans (hb6.mono HBd.out.size))
      have z0 : w6.cell? ⟨g2, 0, none⟩ = some (.int .i64 0) := HK26.out.cell 0
      have z1 : w6.cell? ⟨g2, 1, none⟩ = some (.int .i64 0) := HK26.out.cell 1
      have z2 : w6.cell? ⟨g2, 2, none⟩ = some (.string ⟨#[]⟩) := HK26.out.cell 2
      have y0 : w6.frozen? ⟨g2, 0, none⟩ = false := HK26.out.frozen 0
      have y1 : w6.frozen? ⟨g2, 1, none⟩ = false := HK26.out.frozen 1
      have y2 : w6.frozen? ⟨g2, 2, none⟩ = false := HK26.out.frozen 2
      clear hb6
      refine hK.out _ _ ⟨(HK46.out.cell 0), (HK46.out.cell 1), (HK46.out.cell 2)⟩ (fun hHeld => ?_)
      clear hK K
      refine norm_ (a' := ?_) ?_ ?_
      rotate_left
      · show Act.put _ (some 61) _ = _
        simp only [Act.put, List.setIfInBounds_toArray, List.set_cons_zero, List.set_cons_succ, i64_w, i32_w]
        rfl
      refine pure_ (i := 3) (N := some 62) (v := ?_) (a' := ?_) #[true, true, true, true, false, false, false, false, false, false, false] rfl rfl (by kernel_rfl) (fun _ _ _ h => h) (Or.inl ⟨by rfl, ?_⟩) ?_ ?_
      rotate_left
      · intro w'
        go_simp
        with_reducible rfl
      rotate_left
      · simp only [Act.put, List.setIfInBounds_toArray, List.set_cons_zero, List.set_cons_succ, i64_w, i32_w]
        rfl
      refine pure_ (i := 4) (N := some 63) (v := undef) (a' := ?_) #[true, true, true, true, true, false, false, false, false, false, false] rfl rfl (by kernel_rfl) (fun _ _ _ h => h) (Or.inr ⟨by rfl, rfl⟩) ?_ ?_
      rotate_left
      · simp only [Act.put, List.setIfInBounds_toArray, List.set_cons_zero, List.set_cons_succ, i64_w, i32_w]
        rfl
      refine pure_ (i := 5) (N := some 64) (v := undef) (a' := ?_) #[true, true, true, true, true, true, false, false, false, false, false] rfl rfl (by kernel_rfl) (fun _ _ _ h => h) (Or.inr ⟨by rfl, rfl⟩) ?_ ?_
      rotate_left
      · simp only [Act.put, List.setIfInBounds_toArray, List.set_cons_zero, List.set_cons_succ, i64_w, i32_w]
        rfl
      refine pure_ (i := 6) (N := some 65) (v := undef) (a' := ?_) #[true, true, true, true, true, true, true, false, false, false, false] rfl rfl (by kernel_rfl) (fun _ _ _ h => h) (Or.inr ⟨by rfl, rfl⟩) ?_ ?_
      rotate_left
      · simp only [Act.put, List.setIfInBounds_toArray, List.set_cons_zero, List.set_cons_succ, i64_w, i32_w]
        rfl
      refine pure_ (i := 7) (N := some 66) (v := undef) (a' := ?_) #[true, true, true, true, true, true, true, true, false, false, false] rfl rfl (by kernel_rfl) (fun _ _ _ h => h) (Or.inr ⟨by rfl, rfl⟩) ?_ ?_
      rotate_left
      · simp only [Act.put, List.setIfInBounds_toArray, List.set_cons_zero, List.set_cons_succ, i64_w, i32_w]
        rfl
      refine pure_ (i := 8) (N := some 67) (v := ?_) (a' := ?_) #[true, true, true, true, true, true, true, true, true, false, false] rfl rfl (by kernel_rfl) (fun _ _ _ h => h) (Or.inl ⟨by rfl, ?_⟩) ?_ ?_
      rotate_left
      · intro w'
        go_simp
        with_reducible rfl
      rotate_left
      · simp only [Act.put, List.setIfInBounds_toArray, List.set_cons_zero, List.set_cons_succ, i64_w, i32_w]
        rfl
      refine last_ (i := 9) (N := none) #[true, true, true, true, true, true, true, true, true, true, false] rfl rfl (by kernel_rfl) (by decide) (fun K hK => ?_)
      refine skip_ (w1 := ?_) (by rfl) rfl ?_ ?_
      rotate_left
      · go_simp
        rfl
      refine hK.out _ _ ?_
      clear hK K
      refine pure_ (i := 10) (N := some 3) (v := ?_) (a' := ?_) #[true, true, true, true, true, true, true, true, true, true, true] rfl rfl (by kernel_rfl) (fun _ _ _ h => h) (Or.inl ⟨by rfl, ?_⟩) ?_ ?_
      rotate_left
      · intro w'
        go_simp
        with_reducible rfl
      rotate_left
      · simp only [Act.put, List.setIfInBounds_toArray, List.set_cons_zero, List.set_cons_succ, i64_w, i32_w]
        rfl
      refine done_ (by kernel_rfl) ?_
      clear hHeld
      go_wp2
      have hh := HH.out
      simp only [Option.some.injEq, Prod.mk.injEq] at hh
      obtain ⟨rfl, rfl, rfl, rfl⟩ := hh
      refine bodyPost_ret (results_ct rfl _ _ g2 37 #[.int .i64 f0, .int .i64 f1, .string f2] (0, 0) _ rfl (show Blk _ g2 37 #[.int .i64 f0, .int .i64 f1, .string f2] from by simpa using ((HK26.out.set_ 0 (.int .i64 f0)).set_ 1 (.int .i64 f1)).set_ 2 (.string f2)) Tryd.underlying37 rfl (by kernel_rfl)) rfl ?_
      exact ⟨rfl, ((HB6.out.setCell (by exact HNE.out.2.1) _).setCell (by exact HNE.out.2.1) _).setCell (by exact HNE.out.2.1) _⟩
    · rw [if_pos rfl] at h
      obtain ⟨t, ht, h⟩ := Option.bind_eq_some_iff.1 h
      have HX := Aside0.mk ht
      have HH := Aside0.mk h
      clear ht h
      refine start_ (n := 11) (S := fun w' => w'.cell? ⟨g4, 0, none⟩ = some (.int .i64 f0) ∧ w'.cell? ⟨g4, 1, none⟩ = some (.int .i64 f1) ∧ w'.cell? ⟨g4, 2, none⟩ = some (.string f2)) (ds := [9]) #[false, false, false, false, false, false, false, false, false, false, false] (by kernel_rfl) rfl rfl ⟨x0, x1, x2⟩ (fun hHeld => ?_)
      generalize wc.drew = wd at HK4d HK2d HBd x0 x1 x2 hHeld ⊢
      refine take_ (i := 0) (N := some 59) (v := ?_) (a' := ?_) #[true, false, false, false, false, false, false, false, false, false, false] rfl rfl (by kernel_rfl) (fun _ _ _ h => h) (Or.inl ⟨by rfl, ?_⟩) hHeld ?_ ?_
      rotate_left
      · rintro w' ⟨s0, s1, s2⟩
        go_simp
        with_reducible rfl
      rotate_left
      · simp only [Act.put, List.setIfInBounds_toArray, List.set_cons_zero, List.set_cons_succ, i64_w, i32_w]
        rfl
      refine take_ (i := 1) (N := some 60) (v := ?_) (a' := ?_) #[true, true, false, false, false, false, false, false, false, false, false] rfl rfl (by kernel_rfl) (fun _ _ _ h => h) (Or.inl ⟨by rfl, ?_⟩) hHeld ?_ ?_
      rotate_left
      · rintro w' ⟨s0, s1, s2⟩
        go_simp
        with_reducible rfl
      rotate_left
      · simp only [Act.put, List.setIfInBounds_toArray, List.set_cons_zero, List.set_cons_succ, i64_w, i32_w]
        rfl
      refine one_ (i := 2) (N := some 61) #[true, true, true, false, false, false, false, false, false, false, false] rfl rfl (by kernel_rfl) (by decide) (fun K hK => ?_)
      refine goes_ Tryd.func15 (by kernel_rfl) rfl #[.agg #[.int .i64 f0, .int .i64 f1, .string f2]] (by rfl) rfl rfl (by simp only [List.map_toArray, List.map_cons, List.map_nil]; rfl) ?_
      with_reducible refine (value_Right.calls f0 f1 f2 true wd HQ.out).mono ?_
      rintro e w6 ⟨rfl, hb6⟩
      refine ⟨_, rfl, ?_⟩
      have HK46 := Aside0.mk (HK4d.out.after hb6)
      have HK26 := Aside0.mk (HK2d.out.after hb6)
      have HB6 := Aside0.mk (HBd.out.trans (hb6.mono HBd.out.size))
      clear hb6
      refine hK.out _ _ ⟨(HK46.out.cell 0), (HK46.out.cell 1), (HK46.out.cell 2)⟩ (fun hHeld => ?_)
      clear hK K
      refine norm_ (a' := ?_) ?_ ?_
      rotate_left
      · show Act.put _ (some 61) _ = _
        simp only [Act.put, List.setIfInBounds_toArray, List.set_cons_zero, List.set_cons_succ, i64_w, i32_w]
        rfl
      refine pure_ (i := 3) (N := some 62) (v := ?_) (a' := ?_) #[true, true, true, true, false, false, false, false, false, false, false] rfl rfl (by kernel_rfl) (fun _ _ _ h => h) (Or.inl ⟨by rfl, ?_⟩) ?_ ?_
      rotate_left
      · intro w'
        go_simp
        with_reducible rfl
      rotate_left
      · simp only [Act.put, List.setIfInBounds_toArray, List.set_cons_zero, List.set_cons_succ, i64_w, i32_w]
        rfl
      refine pure_ (i := 6) (N := some 65) (v := ?_) (a' := ?_) #[true, true, true, true, false, false, true, false, false, false, false] rfl rfl (by kernel_rfl) (fun _ _ _ h => h) (Or.inl ⟨by rfl, ?_⟩) ?_ ?_
      rotate_left
      · intro w'
        go_simp
        with_reducible rfl
      rotate_left
      · simp only [Act.put, List.setIfInBounds_toArray, List.set_cons_zero, List.set_cons_succ, i64_w, i32_w]
        rfl
      refine take_ (i := 4) (N := some 63) (v := ?_) (a' := ?_) #[true, true, true, true, true, false, true, false, false, false, false] rfl rfl (by kernel_rfl) (fun _ _ _ h => h) (Or.inl ⟨by rfl, ?_⟩) hHeld ?_ ?_
      rotate_left
      · rintro w' ⟨s0, s1, s2⟩
        go_simp
        with_reducible rfl
      rotate_left
      · simp only [Act.put, List.setIfInBounds_toArray, List.set_cons_zero, List.set_cons_succ, i64_w, i32_w]
        rfl
      refine one_ (i := 5) (N := some 64) #[true, true, true, true, true, true, true, false, false, false, false] rfl rfl (by kernel_rfl) (by decide) (fun K hK => ?_)
      refine goes_ Tryd.func31 (by kernel_rfl) rfl #[.agg #[.int .i64 f0, .int .i64 f1, .string f2]] (by rfl) rfl rfl (by simp only [List.map_toArray, List.map_cons, List.map_nil]; rfl) ?_
      with_reducible refine (value_text.calls f0 f1 f2 t w6 HX.out (HV.out.below HB6.out)).mono ?_
      rintro e w7 ⟨rfl, hb7⟩
      refine ⟨_, rfl, ?_⟩
      have HK27 := Aside0.mk (HK26.out.after hb7)
      have HK47 := Aside0.mk (HK46.out.after hb7)
      have HB7 := Aside0.mk (HB6.out.trans (hb7.mono HB6.out.size))
      have z0 : w7.cell? ⟨g2, 0, none⟩ = some (.int .i64 0) := HK27.out.cell 0
      have z1 : w7.cell? ⟨g2, 1, none⟩ = some (.int .i64 0) := HK27.out.cell 1
      have z2 : w7.cell? ⟨g2, 2, none⟩ = some (.string ⟨#[]⟩) := HK27.out.cell 2
      have y0 : w7.frozen? ⟨g2, 0, none⟩ = false := HK27.out.frozen 0
      have y1 : w7.frozen? ⟨g2, 1, none⟩ = false := HK27.out.frozen 1
      have y2 : w7.frozen? ⟨g2, 2, none⟩ = false := HK27.out.frozen 2
      clear hb7
      refine hK.out _ _ ⟨(HK47.out.cell 0), (HK47.out.cell 1), (HK47.out.cell 2)⟩ (fun hHeld => ?_)
      clear hK K
      refine norm_ (a' := ?_) ?_ ?_
      rotate_left
      · show Act.put _ (some 64) _ = _
        simp only [Act.put, List.setIfInBounds_toArray, List.set_cons_zero, List.set_cons_succ, i64_w, i32_w]
        rfl
      refine pure_ (i := 7) (N := some 66) (v := ?_) (a' := ?_) #[true, true, true, true, true, true, true, true, false, false, false] rfl rfl (by kernel_rfl) (fun _ _ _ h => h) (Or.inl ⟨by rfl, ?_⟩) ?_ ?_
      rotate_left
      · intro w'
        go_simp
        with_reducible rfl
      rotate_left
      · simp only [Act.put, List.setIfInBounds_toArray, List.set_cons_zero, List.set_cons_succ, i64_w, i32_w]
        rfl
      refine pure_ (i := 8) (N := some 67) (v := ?_) (a' := ?_) #[true, true, true, true, true, true, true, true, true, false, false] rfl rfl (by kernel_rfl) (fun _ _ _ h => h) (Or.inl ⟨by rfl, ?_⟩) ?_ ?_
      rotate_left
      · intro w'
        go_simp
        with_reducible rfl
      rotate_left
      · simp only [Act.put, List.setIfInBounds_toArray, List.set_cons_zero, List.set_cons_succ, i64_w, i32_w]
        rfl
      refine last_ (i := 9) (N := none) #[true, true, true, true, true, true, true, true, true, true, false] rfl rfl (by kernel_rfl) (by decide) (fun K hK => ?_)
      refine skip_ (w1 := ?_) (by rfl) rfl ?_ ?_
      rotate_left
      · go_simp
        rfl
      refine hK.out _ _ ?_
      clear hK K
      refine pure_ (i := 10) (N := some 3) (v := ?_) (a' := ?_) #[true, true, true, true, true, true, true, true, true, true, true] rfl rfl (by kernel_rfl) (fun _ _ _ h => h) (Or.inl ⟨by rfl, ?_⟩) ?_ ?_
      rotate_left
      · intro w'
        go_simp
        with_reducible rfl
      rotate_left
      · simp only [Act.put, List.setIfInBounds_toArray, List.set_cons_zero, List.set_cons_succ, i64_w, i32_w]
        rfl
      refine done_ (by kernel_rfl) ?_
      clear hHeld
      go_wp2
      have hh := HH.out
      simp only [Option.some.injEq, Prod.mk.injEq] at hh
      obtain ⟨rfl, rfl, rfl, rfl⟩ := hh
      refine bodyPost_ret (results_ct rfl _ _ g2 37 #[.int .i64 f0, .int .i64 f1, .string f2] (0, 0) _ rfl (show Blk _ g2 37 #[.int .i64 f0, .int .i64 f1, .string f2] from by simpa using ((HK27.out.set_ 0 (.int .i64 f0)).set_ 1 (.int .i64 f1)).set_ 2 (.string f2)) Tryd.underlying37 rfl (by kernel_rfl)) rfl ?_
      exact ⟨rfl, ((HB7.out.setCell (by exact HNE.out.2.1) _).setCell (by exact HNE.out.2.1) _).setCell (by exact HNE.out.2.1) _⟩


end Go.Proofs.YtblaibigjhlblaaDoor.Q
end

section
-- written by hprint.py (a program of these sessions) out of the translation; Lean checks it
namespace Go.Proofs.YtblaibigjhlblaaDoor.Q
open Go.RowKit Go.Proofs.YtblaibigjhlblaaDoorW.Hb Go.Proofs.YtblaibigjhlblaaDoorW.PrintWords Go.Proofs.YtblaibigjhlblaaDoorW.PrintLast Go.Proofs.YtblaibigjhlblaaDoorW.PrintMore
attribute [local go_sem] max2_int min2_int max_two min_two max_three min_three max_four min_four   -- for this text's walks alone
set_option linter.unusedVariables false
set_option linter.unusedSimpArgs false

/-! ### value_Parse: function 8, by hand -/
def parseL : List ByteArray → List S37 → Option (List S37 × Int)
  | [], acc => some (acc, 0)
  | s :: r, acc => (value_word.f s).bind fun v => if v.2.2.2 = true then parseL r (acc ++ [⟨v.1, v.2.1, v.2.2.1⟩]) else some ([], 21)
def spB (s : ByteArray) : List ByteArray := Lib.splitB ⟨#[32]⟩ 0 (Lib.countB s ⟨#[32]⟩) s
theorem at_strP {w : World} {A : Option Addr} {n : Nat} {xs : List ByteArray} (h : Kd.string.C w A n xs) (i : Nat) (hi : i < xs.length) : ∃ ad, A = some ad ∧ w.cell? (ad.add i) = some (.string xs[i]) := by
  obtain ⟨ad, e, hc⟩ := Kd.at_string h i (by omega) (by have := h.1; omega)
  refine ⟨ad, e, ?_⟩
  rw [Int.toNat_natCast] at hc
  rw [hc]
  simp [rdOf, List.getD_eq_getElem?_getD, hi]
theorem parseC (w : World) (P : List ByteArray) (hP : P.length ≤ 9223372036854775807) : Kd.string.C (w.alloc (.cells (P.map Value.string).toArray 9)) (some ⟨w.heap.size, 0, none⟩) P.length P := by
  refine ⟨rfl, hP, fun _ => ⟨_, rfl, fun j p hj => ⟨[.string p], rfl, rfl, fun i u hu => ?_⟩⟩⟩
  have hi : i = 0 := by
    rcases i with _ | i
    · rfl
    · simp at hu
  subst hi
  obtain rfl : Value.string p = u := by simpa using hu
  have e : j * Kd.string.sz + 0 = j := by show j * 1 + 0 = j; omega
  rw [e, Addr.add_lit, Nat.zero_add, (Blk.new w 9 (P.map Value.string).toArray).cell j]
  simp [hj]
def value_Parse.f (s : ByteArray) : Option (List S37 × Int) := if s.size = 0 then some ([], 0) else if 4294967281 ≤ s.size then none else if (spB s).length = Lib.countB s ⟨#[32]⟩ + 1 ∧ (spB s).length * 32 ≤ 140737488355328 then parseL (spB s) [] else none
set_option maxRecDepth 100000 in
set_option maxHeartbeats 4000000 in
theorem value_Parse.calls (s : ByteArray) (r1 : List S37) (r2 : Int) (w : World) (h : value_Parse.f s = some (r1, r2)) (hV : VarsOk w) :
    Calls Tryd.prog 8 #[.string s] w fun e w' => ∃ v0_ : Value, e = .returned (.tuple #[v0_, .int .i64 r2]) ∧ Kd.R k37 37 w' w.heap.size (fun _ => True) v0_ r1 ∧ Below w.heap.size w w' := by
  unfold value_Parse.f at h
  by_cases h0 : s.size = 0
  · rw [if_pos h0] at h
    simp only [Option.some.injEq, Prod.mk.injEq] at h
    obtain ⟨rfl, rfl⟩ := h
    have hs : s = ⟨#[]⟩ := by
      have : s.data.toList = [] := List.eq_nil_of_length_eq_zero (by rw [← Lib.size_eq]; exact h0)
      cases s with
      | mk d => simpa using this
    subst hs
    clear h0
    go_enter Tryd.func8, Tryd.ntmps8
    go_wp2
    go_ret2
    exact ⟨_, rfl, Kd.R_nil _ _ _ _ _, Below.refl _ _⟩
  rw [if_neg h0] at h
  by_cases hbig : 4294967281 ≤ s.size
  · rw [if_pos hbig] at h
    cases h
  rw [if_neg hbig] at h
  by_cases hsp : (spB s).length = Lib.countB s ⟨#[32]⟩ + 1 ∧ (spB s).length * 32 ≤ 140737488355328
  rotate_left
  · rw [if_neg hsp] at h
    cases h
  rw [if_pos hsp] at h
  have H0 := Aside0.mk h
  have HV := Aside0.mk hV
  have hne : (s.toList == []) = false := by
    have : s.toList ≠ [] := by
      intro he
      rw [ByteArray.toList_eq] at he
      exact h0 (by rw [Lib.size_eq, he]; rfl)
    simpa using this
  have HSP := Aside0.mk (splitV s ⟨#[32]⟩ (by omega) (by decide) w hV)
  obtain ⟨P, hP⟩ : ∃ P, spB s = P := ⟨_, rfl⟩
  rw [show Lib.splitB ⟨#[32]⟩ 0 (Lib.countB s ⟨#[32]⟩) s = P from hP, ← hsp.1, hP] at HSP
  rw [hP] at H0
  have HPL := Aside0.mk (show P.length * 32 ≤ 140737488355328 by rw [← hP]; exact hsp.2)
  have HPC := Aside0.mk (show Kd.string.C (w.alloc (.cells (P.map Value.string).toArray 9)) (some ⟨w.heap.size, 0, none⟩) P.length P from parseC w P (by rw [← hP]; have := hsp.2; omega))
  have HB1 := Aside0.mk ((Below.refl w.heap.size w).alloc (Nat.le_refl _) (.cells (P.map Value.string).toArray 9))
  have hPm : P.length ≤ 9223372036854775807 := by rw [← hP]; have := hsp.2; omega
  clear h hV h0 hbig hsp hP
  go_enter Tryd.func8, Tryd.ntmps8
  go_wp2_with (go_at_call 27; (with_reducible refine HSP.out.mono ?_); rintro e w1 ⟨rfl, rfl⟩)
  obtain ⟨w1, hw1⟩ : ∃ w1, w1 = w.alloc (.cells (P.map Value.string).toArray 9) := ⟨_, rfl⟩
  rw [← hw1] at HPC HB1 ⊢
  clear hw1 HSP hne
  go_loopw [4, 14] (fun v4 v14 wl => ∃ (j : Nat) (acc : List S37), j ≤ P.length ∧ v14 = .int .i64 j ∧ Aside0 (parseL (P.drop j) acc = some (r1, r2)) ∧ Aside0 (acc.length ≤ j) ∧ Aside0 (Kd.R k37 37 wl w1.heap.size (fun _ => True) v4 acc) ∧ Aside0 (Below w1.heap.size w1 wl)) (fun _ v _ => P.length - (intOf v).toNat)
  case atStart => exact ⟨0, [], Nat.zero_le _, rfl, H0, ⟨Nat.le_refl _⟩, ⟨Kd.R_nil _ _ _ _ _⟩, ⟨Below.refl _ _⟩⟩
  case round =>
    clear H0
    obtain ⟨j, acc, hj, rfl, HU, HA, HO, HBl⟩ := hrel
    have HB := Aside0.mk (HB1.out.trans (HBl.out.mono HB1.out.size))
    by_cases hlt : j < P.length
    · obtain ⟨ad, e, hc⟩ := at_strP (Kd.C_below HPC.out HBl.out) j hlt
      cases e
      obtain ⟨x, hx⟩ : ∃ x, P[j] = x := ⟨_, rfl⟩
      have h := HU.out
      rw [List.drop_eq_getElem_cons hlt, parseL] at h
      rw [hx] at hc h
      obtain ⟨⟨a, b, c, ok⟩, hwd, h⟩ := Option.bind_eq_some_iff.1 h
      dsimp only at h
      have HW := Aside0.mk (value_word.calls x a b c ok wr hwd (HV.out.below HB.out))
      have hlti : (j : Int) < (P.length : Int) := by omega
      have HAL := Aside0.mk (show (acc.length + 1) * 32 ≤ 140737488355328 by have := HA.out; have := HPL.out; omega)
      rw [Addr.add_lit, Nat.zero_add] at hc
      clear hwd hx HU
      cases ok
      · rw [if_neg (by decide)] at h
        simp only [Option.some.injEq, Prod.mk.injEq] at h
        obtain ⟨rfl, rfl⟩ := h
        go_wp2_with (go_at_call 28; (with_reducible refine HW.out.mono ?_); rintro e w4 ⟨rfl, hb4⟩; have HB4 := Aside0.mk (HB.out.trans (hb4.mono HB.out.size)); clear hb4)
        go_ret2
        exact ⟨_, rfl, Kd.R_nil _ _ _ _ _, HB4.out.alloc HB4.out.size _⟩
      · rw [if_pos rfl] at h
        have HU2 := Aside0.mk h
        clear h
        go_upto_region 10 with (go_at_call 28; (with_reducible refine HW.out.mono ?_); rintro e w4 ⟨rfl, hb4⟩; have HBl4 := Aside0.mk ((HBl.out.trans (hb4.mono HBl.out.size)).alloc (HBl.out.trans (hb4.mono HBl.out.size)).size (.cells #[.int .i64 a, .int .i64 b, .string c] 37)); have HB4 := Aside0.mk (HB1.out.trans (HBl4.out.mono HB1.out.size)); have HO4 := Aside0.mk (Kd.R_alloc (Kd.R_below HO.out hb4) (.cells #[.int .i64 a, .int .i64 b, .string c] 37)); clear hb4)
        have k0 : (w4.alloc (.cells #[.int .i64 a, .int .i64 b, .string c] 37)).cell? ⟨w4.heap.size, 0, none⟩ = some (.int .i64 a) := (Blk.new w4 37 #[.int .i64 a, .int .i64 b, .string c]).cell 0
        have k1 : (w4.alloc (.cells #[.int .i64 a, .int .i64 b, .string c] 37)).cell? ⟨w4.heap.size, 1, none⟩ = some (.int .i64 b) := (Blk.new w4 37 #[.int .i64 a, .int .i64 b, .string c]).cell 1
        have k2 : (w4.alloc (.cells #[.int .i64 a, .int .i64 b, .string c] 37)).cell? ⟨w4.heap.size, 2, none⟩ = some (.string c) := (Blk.new w4 37 #[.int .i64 a, .int .i64 b, .string c]).cell 2
        generalize w4.alloc (.cells #[.int .i64 a, .int .i64 b, .string c] 37) = w6 at HBl4 HB4 HO4 k0 k1 k2 ⊢
        go_wp2_with ((with_reducible refine gate_builtin (b := .append) (xs := #[.tmp 25, .tmp 27]) rfl ?_); at_builtin; refine Kd.R_append k37 (w0 := w1) w1.heap.size rfl (.tmp 25) (.tmp 27) 22 37 (.agg #[(.int .i64 0), (.int .i64 0), (.string ⟨#[]⟩)]) 32 rfl Tryd.underlying22 info37 rfl (by decide) (by omega) _ acc ⟨a, b, c⟩ [.int .i64 a, .int .i64 b, .string c] (fun _ => True) (fun _ => False) rfl rfl ?aP (fun _ hk => hk.elim) (fun _ _ => trivial) HO4.out HBl4.out HBl4.out.size HAL.out ?_; (case aP => exact k37_mkM _ _ _ ⟨a, b, c⟩); intro v5 w5 hR5 hB5 _ _; have HR5 := Aside0.mk hR5; have HB5 := Aside0.mk hB5; clear hR5 hB5)
        go_roundw
        case rel => exact ⟨j + 1, _, by omega, by go_num, HU2, ⟨by have := HA.out; rw [List.length_append, List.length_singleton]; omega⟩, HR5, HB5⟩
        case measure => simp [intOf]; omega
    · have hdr : P.drop j = [] := List.drop_eq_nil_of_le (by omega)
      have h := HU.out
      rw [hdr, parseL] at h
      simp only [Option.some.injEq, Prod.mk.injEq] at h
      obtain ⟨rfl, rfl⟩ := h
      have hlti : ¬ (j : Int) < (P.length : Int) := by omega
      clear hdr HU
      go_wp2
      go_ret2
      exact ⟨_, rfl, Kd.R_lower HO.out HB1.out.size, HB.out⟩


end Go.Proofs.YtblaibigjhlblaaDoor.Q
end

section
-- written by hprint.py (a program of these sessions) out of the translation; Lean checks it
namespace Go.Proofs.YtblaibigjhlblaaDoor.Q
open Go.RowKit Go.Proofs.YtblaibigjhlblaaDoorW.Hb Go.Proofs.YtblaibigjhlblaaDoorW.PrintWords Go.Proofs.YtblaibigjhlblaaDoorW.PrintLast Go.Proofs.YtblaibigjhlblaaDoorW.PrintMore
attribute [local go_sem] max2_int min2_int max_two min_two max_three min_three max_four min_four   -- for this text's walks alone
set_option linter.unusedVariables false
set_option linter.unusedSimpArgs false

/-! ### value_all: function 30 -/
def value_all.l0 : Nat → List (S37) → Int → Int → Option (Bool)
  | 0, _, _, _ => none
  | k + 1, x5, x6, x7 => if x7 < x6 then (if 0 ≤ x7 then (if x7 < (x5.length : Int) then ((value_Right.f ((rd_T37 x5 x7).f0) ((rd_T37 x5 x7).f1) ((rd_T37 x5 x7).f2)).bind fun t196 => (if t196 = true then (value_all.l0 k x5 x6 (wrap64 (x7 + 1))) else (some false))) else (none)) else (none)) else (some true)
def value_all.f (k : Nat) (l0 : List (S37)) : Option (Bool) := value_all.l0 k l0 (l0.length : Int) 0
theorem value_all.mono_l : ∀ k, (∀ y0 y1 y2, LeO (value_all.l0 k y0 y1 y2) (value_all.l0 (k + 1) y0 y1 y2))
  | 0 => fun _ _ _ r h => by simp [value_all.l0] at h
  | k + 1 => by
    have ih0 := value_all.mono_l k
    · intro y0 y1 y2
      unfold value_all.l0
      repeat' first
      | (with_reducible exact ih0 _ _ _)
      | (with_reducible exact LeO.refl _)
      | (with_reducible exact LeO.none _)
      | (with_reducible refine LeO.ite ?_ ?_)
      | (with_reducible refine LeO.bind ?_ (fun _ => ?_))
      | exact ih0 _ _ _
      | exact LeO.none _
      | refine LeO.ite ?_ ?_
      | refine LeO.bind ?_ (fun _ => ?_)
theorem value_all.mono : ∀ a0 k, LeO (value_all.f k a0) (value_all.f (k + 1) a0) := by
  intro a0 k
  have ih0 := value_all.mono_l k
  unfold value_all.f
  repeat' first
      | (with_reducible exact ih0 _ _ _)
      | (with_reducible exact LeO.refl _)
      | (with_reducible exact LeO.none _)
      | (with_reducible refine LeO.ite ?_ ?_)
      | (with_reducible refine LeO.bind ?_ (fun _ => ?_))
      | exact ih0 _ _ _
      | exact LeO.none _
      | refine LeO.ite ?_ ?_
      | refine LeO.bind ?_ (fun _ => ?_)
set_option maxHeartbeats 8000000 in
set_option maxRecDepth 100000 in
theorem value_all.calls (k : Nat) (A0 : Option Addr) (c0 : Nat) (l0 : List (S37)) (r : Bool) (w : World) (hr0 : Kd.C k37 w A0 l0.length l0) (hc0 : l0.length ≤ c0) (h : value_all.f k l0 = some r) :
    Calls Tryd.prog 30 #[.slice A0 l0.length c0] w fun e w' => e = .returned (.bool r) ∧ Below w.heap.size w w' := by
  have hu37 := Tryd.underlying37
  have HR0 := Aside0.mk hr0
  have HC0 := Aside0.mk hc0
  clear hr0 hc0
  have HB := Aside0.mk (Below.refl w.heap.size w)
  have H : (value_all.l0 k l0 (l0.length : Int) 0) = some r := h
  clear h
  have H' := Aside0.mk H
  clear H
  go_enter Tryd.func30, Tryd.ntmps30
  go_wp2
  go_loopg [7] k (fun kq v7 w' => ∃ (x7_1 : Int), v7 = .int .i64 x7_1 ∧ Aside0 (value_all.l0 kq l0 (l0.length : Int) x7_1 = some r) ∧ Aside0 (kq ≤ k) ∧ Aside0 (Below w.heap.size w w'))
  case atStart => exact ⟨(0), (by first | rfl | (simp; done) | (simp [*]; done)), H', ⟨Nat.le_refl _⟩, ⟨by repeat (first | (with_reducible first | exact HB.out | apply below_alloc | apply pw_below_drewN | apply below_drew1) | exact HB.out)⟩⟩
  case round =>
    clear H'
    obtain ⟨x7_1, rfl, HA, HK1, HB⟩ := hrel
    cases gk with
    | zero => exact absurd HA.out (by simp [value_all.l0])
    | succ k1 =>
      have H := HA.out
      clear HA
      simp only [value_all.l0] at H
      by_cases c2 : x7_1 < (l0.length : Int)
      · rw [if_pos c2] at H
        have c2b0 : decide (x7_1 < (l0.length : Int)) = true := decide_eq_true c2
        clear c2
        by_cases c3 : 0 ≤ x7_1
        · rw [if_pos c3] at H
          have c3b0 : decide (0 ≤ x7_1) = true := decide_eq_true c3
          clear c3
          by_cases c4 : x7_1 < (l0.length : Int)
          · rw [if_pos c4] at H
            have c4b0 : decide (x7_1 < (l0.length : Int)) = true := decide_eq_true c4
            clear c4
            replace H := Option.bind_eq_some_iff.mp H
            obtain ⟨t196, A50, H⟩ := H
            replace H : (if t196 = true then (value_all.l0 k1 l0 (l0.length : Int) (wrap64 (x7_1 + 1))) else (some false)) = some r := H
            have A5 := Aside0.mk A50
            clear A50
            by_cases c6 : t196 = true
            · subst c6
              have H1 : (value_all.l0 k1 l0 (l0.length : Int) (wrap64 (x7_1 + 1))) = some r := by rw [if_pos rfl] at H; exact H
              clear H
              have H := H1
              clear H1
              have H' := Aside0.mk H
              clear H
              have p194 : 0 ≤ (x7_1 : Int) := of_decide_eq_true (by first | (with_reducible assumption) | assumption)
              have q194 : x7_1 < (l0.length : Int) := of_decide_eq_true (by first | (with_reducible assumption) | assumption)
              obtain ⟨ad194, e194, hx194_0, hx194_1, hx194_2⟩ := at_T37 HR0.out x7_1 p194 q194
              cases e194
              replace hx194_0 := (HB.out.cell (World.block_lt_of_cell? w _ hx194_0)).trans hx194_0
              replace hx194_1 := (HB.out.cell (World.block_lt_of_cell? w _ hx194_1)).trans hx194_1
              replace hx194_2 := (HB.out.cell (World.block_lt_of_cell? w _ hx194_2)).trans hx194_2
              replace p194 := eq_true p194
              replace q194 := eq_true q194
              go_wp2_with (first | ((with_reducible refine gate_dst (N := 4) rfl ?_); refine box_event ?hg (N := 4) ?hd (cs := #[.int .i64 0, .int .i64 0, .string (⟨#[]⟩ : ByteArray)]) (t := 37) ?hr ?_; (case hd => rfl); (case hg => rfl); (case hr => first | (go_simp; done) | (go_simp; rfl)); intro gb195 hg w7 hbox hb; have n0_ := Aside0.mk (below_step (by repeat (first | (with_reducible first | exact HB.out | apply below_alloc | apply pw_below_drewN | apply below_drew1) | exact HB.out)) hb); have n1_ := Aside0.mk (hbox); have n2_ := Aside0.mk ((by rw [hg]; exact (below_size (by repeat (first | (with_reducible first | exact HB.out | apply below_alloc | apply pw_below_drewN | apply below_drew1) | exact HB.out))) : w.heap.size ≤ gb195)); have n3_ := Aside0.mk ((by rw [hg]; exact (below_size (by repeat (first | (with_reducible first | exact HB.out | apply below_alloc | apply pw_below_drewN | apply below_drew1) | exact HB.out))) : w.heap.size ≤ gb195)); clear HB; have HB := n0_; have BK195 := n1_; have GW195 := n2_; have GE195 := n3_; clear n0_ n1_ n2_ n3_; clear hb hbox hg; have hcz8_0 : w7.cell? ⟨gb195, 0, none⟩ = some (.int .i64 0) := (blk_cell BK195.out 0).trans rfl; have hcz8_1 : w7.cell? ⟨gb195, 1, none⟩ = some (.int .i64 0) := (blk_cell BK195.out 1).trans rfl; have hcz8_2 : w7.cell? ⟨gb195, 2, none⟩ = some (.string (⟨#[]⟩ : ByteArray)) := (blk_cell BK195.out 2).trans rfl; have hfz8_0 := blk_frozen BK195.out 0; have hfz8_1 := blk_frozen BK195.out 1; have hfz8_2 := blk_frozen BK195.out 2) | ((with_reducible refine gate_callee (f := 15) rfl ?_); refine goesL_ (some 12) rfl rfl Tryd.func15 (by kernel_rfl) rfl #[.agg #[.int .i64 ((rd_T37 l0 x7_1).f0), .int .i64 ((rd_T37 l0 x7_1).f1), .string ((rd_T37 l0 x7_1).f2)]] rfl (by (try simp only [List.map_toArray, List.map_cons, List.map_nil]); first | done | rfl | (simp only [List.length_drop, List.length_take]; rfl)) ?_; (with_reducible refine (value_Right.calls ((rd_T37 l0 x7_1).f0) ((rd_T37 l0 x7_1).f1) ((rd_T37 l0 x7_1).f2) true _ A5.out).mono ?_); rintro e w9 ⟨rfl, hb⟩; refine ⟨_, rfl, ?_⟩; have n0_ := Aside0.mk (blk_below (g := gb195) (o := .cells #[.int .i64 ((rd_T37 l0 x7_1).f0), .int .i64 ((rd_T37 l0 x7_1).f1), .string ((rd_T37 l0 x7_1).f2)] 37 (0, 0)) (by (with_reducible repeat (first | refine blk_drewN ?_ _ | refine blk_drew ?_ | refine blk_alloc ?_ _)); refine blk_put (cs := #[.int .i64 ((rd_T37 l0 x7_1).f0), .int .i64 ((rd_T37 l0 x7_1).f1), .string (⟨#[]⟩ : ByteArray)]) ?_ 2 _ rfl; (with_reducible repeat (first | refine blk_drewN ?_ _ | refine blk_drew ?_ | refine blk_alloc ?_ _)); refine blk_put (cs := #[.int .i64 ((rd_T37 l0 x7_1).f0), .int .i64 0, .string (⟨#[]⟩ : ByteArray)]) ?_ 1 _ rfl; (with_reducible repeat (first | refine blk_drewN ?_ _ | refine blk_drew ?_ | refine blk_alloc ?_ _)); refine blk_put (cs := #[.int .i64 0, .int .i64 0, .string (⟨#[]⟩ : ByteArray)]) ?_ 0 _ rfl; (with_reducible repeat (first | refine blk_drewN ?_ _ | refine blk_drew ?_ | refine blk_alloc ?_ _)); exact BK195.out) hb); have n1_ := Aside0.mk (below_step (by repeat (first | (with_reducible first | exact HB.out | apply below_alloc | apply pw_below_drewN | apply below_drew1 | refine below_set ?_ GE195.out) | exact HB.out)) hb); clear BK195; clear HB; have BK195 := n0_; have HB := n1_; clear n0_ n1_; (try clear hb); (try clear hb2); (try clear hk); (try clear hi)))
              go_roundg k1
              case measure => have := HK1.out; omega
              case rel => exact ⟨(wrap64 (x7_1 + 1)), (by first | rfl | (simp; done) | (simp [*]; done)), H', ⟨by have := HK1.out; omega⟩, ⟨by repeat (first | (with_reducible first | exact HB.out | apply below_alloc | apply pw_below_drewN | apply below_drew1 | refine below_set ?_ GE195.out) | exact HB.out)⟩⟩
            · replace c6 := Bool.eq_false_iff.mpr c6
              subst c6
              have H1 : (some false) = some r := by rw [if_neg (show ¬ (false = true) by decide)] at H; exact H
              clear H
              have H := H1
              clear H1
              obtain rfl := Option.some.inj H
              have p194 : 0 ≤ (x7_1 : Int) := of_decide_eq_true (by first | (with_reducible assumption) | assumption)
              have q194 : x7_1 < (l0.length : Int) := of_decide_eq_true (by first | (with_reducible assumption) | assumption)
              obtain ⟨ad194, e194, hx194_0, hx194_1, hx194_2⟩ := at_T37 HR0.out x7_1 p194 q194
              cases e194
              replace hx194_0 := (HB.out.cell (World.block_lt_of_cell? w _ hx194_0)).trans hx194_0
              replace hx194_1 := (HB.out.cell (World.block_lt_of_cell? w _ hx194_1)).trans hx194_1
              replace hx194_2 := (HB.out.cell (World.block_lt_of_cell? w _ hx194_2)).trans hx194_2
              replace p194 := eq_true p194
              replace q194 := eq_true q194
              go_wp2_with (first | ((with_reducible refine gate_dst (N := 4) rfl ?_); refine box_event ?hg (N := 4) ?hd (cs := #[.int .i64 0, .int .i64 0, .string (⟨#[]⟩ : ByteArray)]) (t := 37) ?hr ?_; (case hd => rfl); (case hg => rfl); (case hr => first | (go_simp; done) | (go_simp; rfl)); intro gb195 hg w10 hbox hb; have n0_ := Aside0.mk (below_step (by repeat (first | (with_reducible first | exact HB.out | apply below_alloc | apply pw_below_drewN | apply below_drew1) | exact HB.out)) hb); have n1_ := Aside0.mk (hbox); have n2_ := Aside0.mk ((by rw [hg]; exact (below_size (by repeat (first | (with_reducible first | exact HB.out | apply below_alloc | apply pw_below_drewN | apply below_drew1) | exact HB.out))) : w.heap.size ≤ gb195)); have n3_ := Aside0.mk ((by rw [hg]; exact (below_size (by repeat (first | (with_reducible first | exact HB.out | apply below_alloc | apply pw_below_drewN | apply below_drew1) | exact HB.out))) : w.heap.size ≤ gb195)); clear HB; have HB := n0_; have BK195 := n1_; have GW195 := n2_; have GE195 := n3_; clear n0_ n1_ n2_ n3_; clear hb hbox hg; have hcz11_0 : w10.cell? ⟨gb195, 0, none⟩ = some (.int .i64 0) := (blk_cell BK195.out 0).trans rfl; have hcz11_1 : w10.cell? ⟨gb195, 1, none⟩ = some (.int .i64 0) := (blk_cell BK195.out 1).trans rfl; have hcz11_2 : w10.cell? ⟨gb195, 2, none⟩ = some (.string (⟨#[]⟩ : ByteArray)) := (blk_cell BK195.out 2).trans rfl; have hfz11_0 := blk_frozen BK195.out 0; have hfz11_1 := blk_frozen BK195.out 1; have hfz11_2 := blk_frozen BK195.out 2) | ((with_reducible refine gate_callee (f := 15) rfl ?_); refine goesL_ (some 12) rfl rfl Tryd.func15 (by kernel_rfl) rfl #[.agg #[.int .i64 ((rd_T37 l0 x7_1).f0), .int .i64 ((rd_T37 l0 x7_1).f1), .string ((rd_T37 l0 x7_1).f2)]] rfl (by (try simp only [List.map_toArray, List.map_cons, List.map_nil]); first | done | rfl | (simp only [List.length_drop, List.length_take]; rfl)) ?_; (with_reducible refine (value_Right.calls ((rd_T37 l0 x7_1).f0) ((rd_T37 l0 x7_1).f1) ((rd_T37 l0 x7_1).f2) false _ A5.out).mono ?_); rintro e w12 ⟨rfl, hb⟩; refine ⟨_, rfl, ?_⟩; have n0_ := Aside0.mk (blk_below (g := gb195) (o := .cells #[.int .i64 ((rd_T37 l0 x7_1).f0), .int .i64 ((rd_T37 l0 x7_1).f1), .string ((rd_T37 l0 x7_1).f2)] 37 (0, 0)) (by (with_reducible repeat (first | refine blk_drewN ?_ _ | refine blk_drew ?_ | refine blk_alloc ?_ _)); refine blk_put (cs := #[.int .i64 ((rd_T37 l0 x7_1).f0), .int .i64 ((rd_T37 l0 x7_1).f1), .string (⟨#[]⟩ : ByteArray)]) ?_ 2 _ rfl; (with_reducible repeat (first | refine blk_drewN ?_ _ | refine blk_drew ?_ | refine blk_alloc ?_ _)); refine blk_put (cs := #[.int .i64 ((rd_T37 l0 x7_1).f0), .int .i64 0, .string (⟨#[]⟩ : ByteArray)]) ?_ 1 _ rfl; (with_reducible repeat (first | refine blk_drewN ?_ _ | refine blk_drew ?_ | refine blk_alloc ?_ _)); refine blk_put (cs := #[.int .i64 0, .int .i64 0, .string (⟨#[]⟩ : ByteArray)]) ?_ 0 _ rfl; (with_reducible repeat (first | refine blk_drewN ?_ _ | refine blk_drew ?_ | refine blk_alloc ?_ _)); exact BK195.out) hb); have n1_ := Aside0.mk (below_step (by repeat (first | (with_reducible first | exact HB.out | apply below_alloc | apply pw_below_drewN | apply below_drew1 | refine below_set ?_ GE195.out) | exact HB.out)) hb); clear BK195; clear HB; have BK195 := n0_; have HB := n1_; clear n0_ n1_; (try clear hb); (try clear hb2); (try clear hk); (try clear hi)))
              go_ret
              exact ⟨by first | rfl | (simp [errW_none, errW_some] <;> rfl) | (simp [*, errW_none, errW_some] <;> rfl), by repeat (first | (with_reducible first | exact HB.out | apply below_alloc | apply pw_below_drewN | apply below_drew1 | refine below_set ?_ GE195.out) | exact HB.out)⟩
          · rw [if_neg c4] at H
            exact absurd H (by simp)
        · rw [if_neg c3] at H
          exact absurd H (by simp)
      · rw [if_neg c2] at H
        have c2b0 : decide (x7_1 < (l0.length : Int)) = false := decide_eq_false c2
        clear c2
        obtain rfl := Option.some.inj H
        go_wp2
        go_ret
        exact ⟨by first | rfl | (simp [errW_none, errW_some] <;> rfl) | (simp [*, errW_none, errW_some] <;> rfl), by repeat (first | (with_reducible first | exact HB.out | apply below_alloc | apply pw_below_drewN | apply below_drew1) | exact HB.out)⟩

end Go.Proofs.YtblaibigjhlblaaDoor.Q
end

section
-- written by hprint.py (a program of these sessions) out of the translation; Lean checks it
namespace Go.Proofs.YtblaibigjhlblaaDoor.Q
open Go.RowKit Go.Proofs.YtblaibigjhlblaaDoorW.Hb Go.Proofs.YtblaibigjhlblaaDoorW.PrintWords Go.Proofs.YtblaibigjhlblaaDoorW.PrintLast Go.Proofs.YtblaibigjhlblaaDoorW.PrintMore
attribute [local go_sem] max2_int min2_int max_two min_two max_three min_three max_four min_four   -- for this text's walks alone
set_option linter.unusedVariables false
set_option linter.unusedSimpArgs false

/-! ### value_Print: function 10, by hand -/
def textsOf : List S37 → Option (List ByteArray)
  | [] => some []
  | v :: r => (value_text.f v.f0 v.f1 v.f2).bind fun t => (textsOf r).bind fun ts => some (t :: ts)
theorem textsOf_at : ∀ {l : List S37} {ts : List ByteArray}, textsOf l = some ts → ts.length = l.length ∧ ∀ (j : Nat) (v : S37), l[j]? = some v → ∃ t, ts[j]? = some t ∧ value_text.f v.f0 v.f1 v.f2 = some t
  | [], ts, h => by
    obtain rfl := Option.some.inj h
    exact ⟨rfl, fun j v hv => by simp at hv⟩
  | v :: r, ts, h => by
    obtain ⟨t, h1, h⟩ := Option.bind_eq_some_iff.1 h
    obtain ⟨ts', h2, h⟩ := Option.bind_eq_some_iff.1 h
    obtain rfl := Option.some.inj h
    obtain ⟨i1, i2⟩ := textsOf_at h2
    refine ⟨by rw [List.length_cons, List.length_cons, i1], fun j v' hv => ?_⟩
    cases j with
    | zero => obtain rfl : v = v' := by simpa using hv
              exact ⟨t, rfl, h1⟩
    | succ j => exact i2 j v' (by simpa using hv)
def joinB (ts : List ByteArray) : List UInt8 := Lib.join (ts.map (·.data.toList)) [32]
def value_Print.f (k : Nat) (l0 : List S37) : Option ByteArray := (value_all.f k l0).bind fun q => if q = true then (textsOf l0).bind fun ts => (if (l0.length + 1) * 16 ≤ 140737488355328 ∧ (joinB ts).length ≤ 140737488355328 then some ⟨(joinB ts).toArray⟩ else none) else some ⟨#[]⟩
theorem value_Print.mono : ∀ a0 k, LeO (value_Print.f k a0) (value_Print.f (k + 1) a0) := fun a0 k => LeO.bind (value_all.mono _ _) (fun _ => LeO.refl _)
set_option maxRecDepth 100000 in
set_option maxHeartbeats 4000000 in
theorem value_Print.calls (k : Nat) (A0 : Option Addr) (c0 : Nat) (l0 : List S37) (r : ByteArray) (w : World) (hr0 : Kd.C k37 w A0 l0.length l0) (hc0 : l0.length ≤ c0) (h : value_Print.f k l0 = some r) (hV : VarsOk w) :
    Calls Tryd.prog 10 #[.slice A0 l0.length c0] w fun e w' => e = .returned (.string r) ∧ Below w.heap.size w w' := by
  unfold value_Print.f at h
  obtain ⟨q, hq, h⟩ := Option.bind_eq_some_iff.1 h
  have HR := Aside0.mk hr0
  have HV := Aside0.mk hV
  have HQ := Aside0.mk (value_all.calls k A0 c0 l0 q w hr0 hc0 hq)
  have hm := hr0.2.1
  clear hr0 hV hq
  cases q
  · rw [if_neg (by decide)] at h
    obtain rfl := Option.some.inj h
    clear h
    go_enter Tryd.func10, Tryd.ntmps10
    go_wp2_with (go_at_call 30; (with_reducible refine HQ.out.mono ?_); rintro e w1 ⟨rfl, hb⟩; have HB1 := Aside0.mk hb; clear hb)
    go_ret
    exact ⟨rfl, HB1.out⟩
  · rw [if_pos rfl] at h
    obtain ⟨ts, hts, h⟩ := Option.bind_eq_some_iff.1 h
    by_cases hsz : (l0.length + 1) * 16 ≤ 140737488355328 ∧ (joinB ts).length ≤ 140737488355328
    · rw [if_pos hsz] at h
      obtain rfl := Option.some.inj h
      have HSZ := Aside0.mk hsz
      have HTS := Aside0.mk (textsOf_at hts)
      clear h hsz hts
      go_enter Tryd.func10, Tryd.ntmps10
      go_upto_region 3 with (go_at_call 30; (with_reducible refine HQ.out.mono ?_); rintro e w1 ⟨rfl, hb⟩; have HB1 := Aside0.mk hb; clear hb)
      clear HQ
      go_wp2
      go_loopw [3, 11] (fun v3 v11 wl => ∃ j : Nat, j ≤ l0.length ∧ v11 = .int .i64 j ∧ Aside0 (Kd.string.R 9 wl w.heap.size (fun _ => True) v3 (ts.take j)) ∧ Aside0 (Below w.heap.size w wl)) (fun _ v _ => l0.length - (intOf v).toNat)
      case atStart => exact ⟨0, Nat.zero_le _, rfl, ⟨Kd.R_nil _ _ _ _ _⟩, HB1⟩
      case round =>
        clear HB1
        obtain ⟨j, hj, rfl, HO, HB⟩ := hrel
        by_cases hlt : j < l0.length
        · obtain ⟨ad, e, x0, x1, x2⟩ := at_T37 (Kd.C_below HR.out HB.out) (j : Int) (by omega) (by omega)
          cases e
          obtain ⟨v, hv⟩ : ∃ v, l0[j]? = some v := ⟨_, List.getElem?_eq_getElem hlt⟩
          have hrd : rd_T37 l0 (j : Int) = v := by unfold rd_T37; rw [Int.toNat_natCast, List.getD_eq_getElem?_getD, hv]; rfl
          rw [hrd, Int.toNat_natCast] at x0 x1 x2
          obtain ⟨t, ht, htx⟩ := HTS.out.2 j v hv
          obtain ⟨f0, f1, f2⟩ := v
          dsimp only at x0 x1 x2 htx
          have HBa := Aside0.mk (HB.out.alloc HB.out.size (.cells #[.int .i64 f0, .int .i64 f1, .string f2] 37))
          have HTX := Aside0.mk (value_text.calls f0 f1 f2 t (wr.alloc (.cells #[.int .i64 f0, .int .i64 f1, .string f2] 37)) htx (HV.out.below HBa.out))
          have HOa := Aside0.mk (Kd.R_alloc HO.out (.cells #[.int .i64 f0, .int .i64 f1, .string f2] 37))
          have HTK := Aside0.mk (show ts.take (j + 1) = ts.take j ++ [t] by rw [List.take_add_one, ht]; rfl)
          have HTL := Aside0.mk (show ((ts.take j).length + 1) * 16 ≤ 140737488355328 by have := HSZ.out.1; rw [List.length_take]; have := HTS.out.1; omega)
          have hlti : (j : Int) < (l0.length : Int) := by omega
          clear hv hrd ht htx HO
          go_wp2_with (first | (go_at_call 31; (with_reducible refine HTX.out.mono ?_); rintro e w4 ⟨rfl, hb4⟩; have HO4 := Aside0.mk (Kd.R_below HOa.out hb4); have HB4 := Aside0.mk (HBa.out.trans (hb4.mono HBa.out.size)); clear hb4) | ((with_reducible refine gate_builtin (b := .append) (xs := #[.tmp 15, .tmp 18]) rfl ?_); at_builtin; refine Kd.R_append Kd.string (w0 := w) w.heap.size rfl (.tmp 15) (.tmp 18) 47 9 (.string ⟨#[]⟩) 16 rfl Tryd.underlying47 info9 rfl (by decide) (by omega) _ (ts.take j) t [.string t] (fun _ => True) (fun _ => False) rfl rfl rfl (fun _ hk => hk.elim) (fun _ _ => trivial) HO4.out HB4.out HB4.out.size HTL.out ?_; intro v5 w5 hR5 hB5 _ _; rw [← HTK.out] at hR5; have HR5 := Aside0.mk hR5; have HB5 := Aside0.mk hB5; clear hR5 hB5))
          go_roundw
          case rel => exact ⟨j + 1, by omega, by go_num, HR5, HB5⟩
          case measure => simp [intOf]; omega
        · have hlti : ¬ (j : Int) < (l0.length : Int) := by omega
          have hall : ts.take j = ts := List.take_of_length_le (by rw [HTS.out.1]; omega)
          rw [hall] at HO
          obtain ⟨A3, c3, rfl, hc3, hC3⟩ := Kd.R_reads HO.out
          have HJ : Aside0 (Calls Tryd.prog 32 #[.slice A3 ts.length c3, .string ⟨#[32]⟩] wr fun e w' => e = .returned (.string ⟨(joinB ts).toArray⟩) ∧ Below wr.heap.size wr w') := ⟨by
            by_cases h0 : ts = []
            · subst h0
              refine (Tryd.strings_Join_none A3 c3 ⟨#[32]⟩ wr).mono ?_
              rintro e w' ⟨rfl, rfl⟩
              exact ⟨rfl, Below.refl _ _⟩
            · obtain ⟨g, cap, hv, _, hlt', _⟩ := Kd.R_form HO.out (by rcases ts with _ | _; exact absurd rfl h0; simp)
              injection hv with h1 h2 h3
              subst h1 h3
              refine Tryd.strings_Join g 0 c3 ts ⟨#[32]⟩ wr (fun i x hx => ?_) hlt' (by have := HSZ.out.1; rw [HTS.out.1]; omega) hc3 HSZ.out.2
              have hi : i < ts.length := (List.getElem?_eq_some_iff.1 hx).1
              have hcel := (Kd.R_celln (⟨#[]⟩ : ByteArray) HO.out (i : Int) (by omega) (by omega)).1
              rw [Int.toNat_natCast] at hcel
              rw [Nat.zero_add, hcel]
              unfold rdOf
              rw [Int.toNat_natCast, List.getD_eq_getElem?_getD, hx]
              rfl⟩
          clear hC3 hall HO
          go_wp2_with (go_at_call 32; (with_reducible refine HJ.out.mono ?_); rintro e w4 ⟨rfl, hb4⟩; have HB4 := Aside0.mk hb4; clear hb4)
          go_ret
          exact ⟨rfl, HB.out.trans (HB4.out.mono HB.out.size)⟩
    · rw [if_neg hsz] at h
      cases h


end Go.Proofs.YtblaibigjhlblaaDoor.Q
end

section
-- written by hprint.py (a program of these sessions) out of the translation; Lean checks it
namespace Go.Proofs.YtblaibigjhlblaaDoor.Q
open Go.RowKit Go.Proofs.YtblaibigjhlblaaDoorW.Hb Go.Proofs.YtblaibigjhlblaaDoorW.PrintWords Go.Proofs.YtblaibigjhlblaaDoorW.PrintLast Go.Proofs.YtblaibigjhlblaaDoorW.PrintMore
attribute [local go_sem] max2_int min2_int max_two min_two max_three min_three max_four min_four   -- for this text's walks alone
set_option linter.unusedVariables false
set_option linter.unusedSimpArgs false

/-! ### weighhouselaw02_num: function 13 -/
def weighhouselaw02_num.f (a0 : Int) : Option (Int) := some a0
set_option maxHeartbeats 8000000 in
set_option maxRecDepth 100000 in
theorem weighhouselaw02_num.calls (a0 : Int) (r : Int) (w : World) (h : weighhouselaw02_num.f a0 = some r) :
    Calls Tryd.prog 13 #[.int .i64 a0] w fun e w' => e = .returned (.int .i64 r) ∧ Drawn0 w w' := by
  have H : (some a0) = some r := h
  clear h
  obtain rfl := Option.some.inj H
  go_enter Tryd.func13, Tryd.ntmps13
  go_wp2
  go_ret
  exact ⟨by first | rfl | (simp; done) | (simp [*]; done), by repeat (first | exact Drawn0.refl _ | apply Drawn0.step)⟩

end Go.Proofs.YtblaibigjhlblaaDoor.Q
end

section
-- written by hprint.py (a program of these sessions) out of the translation; Lean checks it
namespace Go.Proofs.YtblaibigjhlblaaDoor.Q
open Go.RowKit Go.Proofs.YtblaibigjhlblaaDoorW.Hb Go.Proofs.YtblaibigjhlblaaDoorW.PrintWords Go.Proofs.YtblaibigjhlblaaDoorW.PrintLast Go.Proofs.YtblaibigjhlblaaDoorW.PrintMore
attribute [local go_sem] max2_int min2_int max_two min_two max_three min_three max_four min_four   -- for this text's walks alone
set_option linter.unusedVariables false
set_option linter.unusedSimpArgs false

/-! ### weighhouselaw02_knows: function 14 -/
def weighhouselaw02_knows.f (k : Nat)  : Option (Bool) := (value_Number.f (-5)).bind fun bt222 => ((value_Text.f (⟨#[97]⟩ : ByteArray)).bind fun bt225 => ((value_Truth.f true).bind fun bt228 => ((value_Print.f k (([(⟨bt222.1, bt222.2.1, bt222.2.2⟩ : S37), (⟨bt225.1, bt225.2.1, bt225.2.2⟩ : S37), (⟨bt228.1, bt228.2.1, bt228.2.2⟩ : S37)] : List (S37)))).bind fun t234 => ((value_Parse.f t234).bind fun bt235 => (if t234.toList = ([45, 53, 32, 120, 39, 54, 49, 39, 32, 116, 114, 117, 101] : List UInt8) then ((weighhouselaw02_num.f bt235.2).bind fun t239 => (if t239 = 0 then (if (bt235.1.length : Int) = 3 then (if 0 < (bt235.1.length : Int) then ((value_Right.f ((rd_T37 bt235.1 0).f0) ((rd_T37 bt235.1 0).f1) ((rd_T37 bt235.1 0).f2)).bind fun t241 => (some t241)) else (none)) else (some false)) else (some false))) else (some false))))))
theorem weighhouselaw02_knows.mono : ∀ k, LeO (weighhouselaw02_knows.f k ) (weighhouselaw02_knows.f (k + 1) ) := by
  intro  k
  unfold weighhouselaw02_knows.f
  repeat' first
      | (with_reducible exact value_Print.mono _ _)
      | (with_reducible exact LeO.refl _)
      | (with_reducible exact LeO.none _)
      | (with_reducible refine LeO.ite ?_ ?_)
      | (with_reducible refine LeO.bind ?_ (fun _ => ?_))
      | exact value_Print.mono _ _
      | exact LeO.none _
      | refine LeO.ite ?_ ?_
      | refine LeO.bind ?_ (fun _ => ?_)
set_option maxHeartbeats 8000000 in
set_option maxRecDepth 100000 in
theorem weighhouselaw02_knows.calls (k : Nat)  (r : Bool) (w : World) (h : weighhouselaw02_knows.f k  = some r) (hV : VarsOk w) :
    Calls Tryd.prog 14 #[] w fun e w' => e = .returned (.bool r) ∧ Below w.heap.size w w' := by
  have hu37 := Tryd.underlying37
  have HB := Aside0.mk (Below.refl w.heap.size w)
  have HV := Aside0.mk hV
  clear hV
  have H : ((value_Number.f (-5)).bind fun bt222 => ((value_Text.f (⟨#[97]⟩ : ByteArray)).bind fun bt225 => ((value_Truth.f true).bind fun bt228 => ((value_Print.f k (([(⟨bt222.1, bt222.2.1, bt222.2.2⟩ : S37), (⟨bt225.1, bt225.2.1, bt225.2.2⟩ : S37), (⟨bt228.1, bt228.2.1, bt228.2.2⟩ : S37)] : List (S37)))).bind fun t234 => ((value_Parse.f t234).bind fun bt235 => (if t234.toList = ([45, 53, 32, 120, 39, 54, 49, 39, 32, 116, 114, 117, 101] : List UInt8) then ((weighhouselaw02_num.f bt235.2).bind fun t239 => (if t239 = 0 then (if (bt235.1.length : Int) = 3 then (if 0 < (bt235.1.length : Int) then ((value_Right.f ((rd_T37 bt235.1 0).f0) ((rd_T37 bt235.1 0).f1) ((rd_T37 bt235.1 0).f2)).bind fun t241 => (some t241)) else (none)) else (some false)) else (some false))) else (some false))))))) = some r := h
  clear h
  replace H := Option.bind_eq_some_iff.mp H
  obtain ⟨⟨t222, t223, t224⟩, A10, H⟩ := H
  replace H : ((value_Text.f (⟨#[97]⟩ : ByteArray)).bind fun bt225 => ((value_Truth.f true).bind fun bt228 => ((value_Print.f k (([(⟨t222, t223, t224⟩ : S37), (⟨bt225.1, bt225.2.1, bt225.2.2⟩ : S37), (⟨bt228.1, bt228.2.1, bt228.2.2⟩ : S37)] : List (S37)))).bind fun t234 => ((value_Parse.f t234).bind fun bt235 => (if t234.toList = ([45, 53, 32, 120, 39, 54, 49, 39, 32, 116, 114, 117, 101] : List UInt8) then ((weighhouselaw02_num.f bt235.2).bind fun t239 => (if t239 = 0 then (if (bt235.1.length : Int) = 3 then (if 0 < (bt235.1.length : Int) then ((value_Right.f ((rd_T37 bt235.1 0).f0) ((rd_T37 bt235.1 0).f1) ((rd_T37 bt235.1 0).f2)).bind fun t241 => (some t241)) else (none)) else (some false)) else (some false))) else (some false)))))) = some r := H
  have A1 := Aside0.mk A10
  clear A10
  replace H := Option.bind_eq_some_iff.mp H
  obtain ⟨⟨t225, t226, t227⟩, A20, H⟩ := H
  replace H : ((value_Truth.f true).bind fun bt228 => ((value_Print.f k (([(⟨t222, t223, t224⟩ : S37), (⟨t225, t226, t227⟩ : S37), (⟨bt228.1, bt228.2.1, bt228.2.2⟩ : S37)] : List (S37)))).bind fun t234 => ((value_Parse.f t234).bind fun bt235 => (if t234.toList = ([45, 53, 32, 120, 39, 54, 49, 39, 32, 116, 114, 117, 101] : List UInt8) then ((weighhouselaw02_num.f bt235.2).bind fun t239 => (if t239 = 0 then (if (bt235.1.length : Int) = 3 then (if 0 < (bt235.1.length : Int) then ((value_Right.f ((rd_T37 bt235.1 0).f0) ((rd_T37 bt235.1 0).f1) ((rd_T37 bt235.1 0).f2)).bind fun t241 => (some t241)) else (none)) else (some false)) else (some false))) else (some false))))) = some r := H
  have A2 := Aside0.mk A20
  clear A20
  replace H := Option.bind_eq_some_iff.mp H
  obtain ⟨⟨t228, t229, t230⟩, A30, H⟩ := H
  replace H : ((value_Print.f k (([(⟨t222, t223, t224⟩ : S37), (⟨t225, t226, t227⟩ : S37), (⟨t228, t229, t230⟩ : S37)] : List (S37)))).bind fun t234 => ((value_Parse.f t234).bind fun bt235 => (if t234.toList = ([45, 53, 32, 120, 39, 54, 49, 39, 32, 116, 114, 117, 101] : List UInt8) then ((weighhouselaw02_num.f bt235.2).bind fun t239 => (if t239 = 0 then (if (bt235.1.length : Int) = 3 then (if 0 < (bt235.1.length : Int) then ((value_Right.f ((rd_T37 bt235.1 0).f0) ((rd_T37 bt235.1 0).f1) ((rd_T37 bt235.1 0).f2)).bind fun t241 => (some t241)) else (none)) else (some false)) else (some false))) else (some false)))) = some r := H
  have A3 := Aside0.mk A30
  clear A30
  obtain ⟨y231, hy231⟩ : ∃ y_ : List (S37), y_ = (([(⟨t222, t223, t224⟩ : S37), (⟨t225, t226, t227⟩ : S37), (⟨t228, t229, t230⟩ : S37)] : List (S37))) := ⟨_, rfl⟩
  replace H : ((value_Print.f k y231).bind fun t234 => ((value_Parse.f t234).bind fun bt235 => (if t234.toList = ([45, 53, 32, 120, 39, 54, 49, 39, 32, 116, 114, 117, 101] : List UInt8) then ((weighhouselaw02_num.f bt235.2).bind fun t239 => (if t239 = 0 then (if (bt235.1.length : Int) = 3 then (if 0 < (bt235.1.length : Int) then ((value_Right.f ((rd_T37 bt235.1 0).f0) ((rd_T37 bt235.1 0).f1) ((rd_T37 bt235.1 0).f2)).bind fun t241 => (some t241)) else (none)) else (some false)) else (some false))) else (some false)))) = some r := by first | (rw [hy231]; with_reducible exact H) | (have H2_ := (Option.bind_some _ _).symm.trans H; rw [hy231]; with_reducible exact H2_) | (have H2_ := (Option.bind_some _ _).symm.trans H; with_reducible exact H2_) | with_reducible exact H | (rw [hy231]; exact H) | exact H
  have Ny231 := Aside0.mk hy231
  clear hy231
  replace H := Option.bind_eq_some_iff.mp H
  obtain ⟨t234, A40, H⟩ := H
  replace H : ((value_Parse.f t234).bind fun bt235 => (if t234.toList = ([45, 53, 32, 120, 39, 54, 49, 39, 32, 116, 114, 117, 101] : List UInt8) then ((weighhouselaw02_num.f bt235.2).bind fun t239 => (if t239 = 0 then (if (bt235.1.length : Int) = 3 then (if 0 < (bt235.1.length : Int) then ((value_Right.f ((rd_T37 bt235.1 0).f0) ((rd_T37 bt235.1 0).f1) ((rd_T37 bt235.1 0).f2)).bind fun t241 => (some t241)) else (none)) else (some false)) else (some false))) else (some false))) = some r := H
  have A4 := Aside0.mk A40
  clear A40
  replace H := Option.bind_eq_some_iff.mp H
  obtain ⟨⟨t235, t236⟩, A50, H⟩ := H
  replace H : (if t234.toList = ([45, 53, 32, 120, 39, 54, 49, 39, 32, 116, 114, 117, 101] : List UInt8) then ((weighhouselaw02_num.f t236).bind fun t239 => (if t239 = 0 then (if (t235.length : Int) = 3 then (if 0 < (t235.length : Int) then ((value_Right.f ((rd_T37 t235 0).f0) ((rd_T37 t235 0).f1) ((rd_T37 t235 0).f2)).bind fun t241 => (some t241)) else (none)) else (some false)) else (some false))) else (some false)) = some r := H
  have A5 := Aside0.mk A50
  clear A50
  by_cases c6 : t234.toList = ([45, 53, 32, 120, 39, 54, 49, 39, 32, 116, 114, 117, 101] : List UInt8)
  · rw [if_pos c6] at H
    have c6b0 : (t234.toList == ([45, 53, 32, 120, 39, 54, 49, 39, 32, 116, 114, 117, 101] : List UInt8)) = true := beq_iff_eq.mpr c6
    have c6b1 : (t234.toList != ([45, 53, 32, 120, 39, 54, 49, 39, 32, 116, 114, 117, 101] : List UInt8)) = false := bne_eq_false_iff_eq.mpr c6
    clear c6
    replace H := Option.bind_eq_some_iff.mp H
    obtain ⟨t239, A70, H⟩ := H
    replace H : (if t239 = 0 then (if (t235.length : Int) = 3 then (if 0 < (t235.length : Int) then ((value_Right.f ((rd_T37 t235 0).f0) ((rd_T37 t235 0).f1) ((rd_T37 t235 0).f2)).bind fun t241 => (some t241)) else (none)) else (some false)) else (some false)) = some r := H
    have A7 := Aside0.mk A70
    clear A70
    by_cases c8 : t239 = 0
    · rw [if_pos c8] at H
      have c8b0 : (t239 == 0) = true := beq_iff_eq.mpr c8
      have c8b1 : (t239 != 0) = false := bne_eq_false_iff_eq.mpr c8
      clear c8
      by_cases c9 : (t235.length : Int) = 3
      · rw [if_pos c9] at H
        have c9b0 : ((t235.length : Int) == 3) = true := beq_iff_eq.mpr c9
        have c9b1 : ((t235.length : Int) != 3) = false := bne_eq_false_iff_eq.mpr c9
        clear c9
        by_cases c10 : 0 < (t235.length : Int)
        · rw [if_pos c10] at H
          have c10b0 : decide (0 < (t235.length : Int)) = true := decide_eq_true c10
          have c10b1 : decide (0 < t235.length) = true := decide_eq_true (by omega)
          clear c10
          replace H := Option.bind_eq_some_iff.mp H
          obtain ⟨t241, A110, H⟩ := H
          replace H : (some t241) = some r := H
          have A11 := Aside0.mk A110
          clear A110
          obtain rfl := Option.some.inj H
          go_enter Tryd.func14, Tryd.ntmps14
          go_wp2_with (first | ((with_reducible refine gate_callee (f := 18) rfl ?_); refine goesL_ (some 4) rfl rfl Tryd.func18 (by kernel_rfl) rfl #[.int .i64 (-5)] rfl (by (try simp only [List.map_toArray, List.map_cons, List.map_nil]); first | done | rfl | (simp only [List.length_drop, List.length_take]; rfl)) ?_; (with_reducible refine (value_Number.calls (-5) t222 t223 t224 _ A1.out).mono ?_); rintro e w12 ⟨rfl, hb⟩; refine ⟨_, rfl, ?_⟩; have n0_ := Aside0.mk (below_step (by repeat (first | (with_reducible first | exact HB.out | apply below_alloc | apply pw_below_drewN | apply below_drew1) | exact HB.out)) hb); clear HB; have HB := n0_; clear n0_; (try clear hb); (try clear hb2); (try clear hk); (try clear hi)) | ((with_reducible refine gate_callee (f := 19) rfl ?_); refine goesL_ (some 5) rfl rfl Tryd.func19 (by kernel_rfl) rfl #[.string (⟨#[97]⟩ : ByteArray)] rfl (by (try simp only [List.map_toArray, List.map_cons, List.map_nil]); first | done | rfl | (simp only [List.length_drop, List.length_take]; rfl)) ?_; (with_reducible refine (value_Text.calls (⟨#[97]⟩ : ByteArray) t225 t226 t227 _ A2.out).mono ?_); rintro e w13 ⟨rfl, hb⟩; refine ⟨_, rfl, ?_⟩; have n0_ := Aside0.mk (below_step (by repeat (first | (with_reducible first | exact HB.out | apply below_alloc | apply pw_below_drewN | apply below_drew1) | exact HB.out)) hb); clear HB; have HB := n0_; clear n0_; (try clear hb); (try clear hb2); (try clear hk); (try clear hi)) | ((with_reducible refine gate_callee (f := 20) rfl ?_); refine goesL_ (some 6) rfl rfl Tryd.func20 (by kernel_rfl) rfl #[.bool true] rfl (by (try simp only [List.map_toArray, List.map_cons, List.map_nil]); first | done | rfl | (simp only [List.length_drop, List.length_take]; rfl)) ?_; (with_reducible refine (value_Truth.calls true t228 t229 t230 _ A3.out).mono ?_); rintro e w14 ⟨rfl, hb⟩; refine ⟨_, rfl, ?_⟩; have n0_ := Aside0.mk (below_step (by repeat (first | (with_reducible first | exact HB.out | apply below_alloc | apply pw_below_drewN | apply below_drew1) | exact HB.out)) hb); clear HB; have HB := n0_; clear n0_; (try clear hb); (try clear hb2); (try clear hk); (try clear hi)) | ((with_reducible refine gate_dst (N := 7) rfl ?_); (try (refine gate_guard (by rfl) ?_; dsimp only)); refine Kd.R_lit k37 _ 37 ?hg (N := 7) ?hd (xs := ([(⟨t222, t223, t224⟩ : S37), (⟨t225, t226, t227⟩ : S37), (⟨t228, t229, t230⟩ : S37)] : List (S37))) (inner := [.int .i64 t222, .int .i64 t223, .string t224, .int .i64 t225, .int .i64 t226, .string t227, .int .i64 t228, .int .i64 t229, .string t230]) (ok := fun _ => True) (okp := fun _ => True) ?hr ?hp (fun _ hk => hk) trivial (Below.refl _ _) (Nat.le_refl _) (by simp) ?_; (case hd => rfl); (case hg => rfl); (case hr => first | (go_simp; done) | (go_simp; rfl)); (case hp => exact (Reps.c3 (show Kd.M k37 _ _ _ (⟨t222, t223, t224⟩ : S37) [.int .i64 t222, .int .i64 t223, .string t224] from (k37_mkM _ _ _ (⟨t222, t223, t224⟩ : S37) )) (Reps.c3 (show Kd.M k37 _ _ _ (⟨t225, t226, t227⟩ : S37) [.int .i64 t225, .int .i64 t226, .string t227] from (k37_mkM _ _ _ (⟨t225, t226, t227⟩ : S37) )) (Reps.c3 (show Kd.M k37 _ _ _ (⟨t228, t229, t230⟩ : S37) [.int .i64 t228, .int .i64 t229, .string t230] from (k37_mkM _ _ _ (⟨t228, t229, t230⟩ : S37) )) (Reps.none _ _))))); intro v232 w15 ho16 hb hg_ hnew_; clear hg_ hnew_; (first | rw [← Ny231.out] at ho16 | (simp only [Int.reduceToNat] at ho16; rw [← Ny231.out] at ho16)); have n0_ := Aside0.mk (Kd.R_lower ho16 (below_size (by repeat (first | (with_reducible first | exact HB.out | apply below_alloc | apply pw_below_drewN | apply below_drew1) | exact HB.out)))); have n1_ := Aside0.mk (below_step (by repeat (first | (with_reducible first | exact HB.out | apply below_alloc | apply pw_below_drewN | apply below_drew1) | exact HB.out)) hb); clear HB; have HO233 := n0_; have HB := n1_; clear n0_ n1_; clear hb ho16; obtain ⟨Ao17, co17, eo17⟩ := Kd.R_slice HO233.out; subst eo17) | ((with_reducible refine gate_callee (f := 10) rfl ?_); refine goesL_ (some 8) rfl rfl Tryd.func10 (by kernel_rfl) rfl #[.slice Ao17 y231.length co17] rfl (by (try simp only [List.map_toArray, List.map_cons, List.map_nil]); first | done | rfl | (simp only [List.length_drop, List.length_take]; rfl)) ?_; (with_reducible refine (value_Print.calls k _ _ y231 t234 _ ?side1 ?side2 A4.out ?sideV).mono ?_); (case sideV => exact HV.out.below (by repeat (first | (with_reducible first | exact HB.out | apply below_alloc | apply pw_below_drewN | apply below_drew1) | exact HB.out))); (case side1 => repeat (first | exact (Kd.R_reads' HO233.out).2.2 | (with_reducible refine Kd.C_alloc ?_ _) | (with_reducible refine Kd.C_drewN ?_ _) | (with_reducible refine Kd.C_drew ?_))); (case side2 => exact (Kd.R_reads' HO233.out).2.1); rintro e w18 ⟨rfl, hb⟩; refine ⟨_, rfl, ?_⟩; have n0_ := Aside0.mk (Kd.R_below (by (with_reducible repeat (first | apply Kd.R_alloc | apply Kd.R_drewN | apply Kd.R_drew)); exact HO233.out) hb); have n1_ := Aside0.mk (below_step (by repeat (first | (with_reducible first | exact HB.out | apply below_alloc | apply pw_below_drewN | apply below_drew1) | exact HB.out)) hb); clear HO233; clear HB; have HO233 := n0_; have HB := n1_; clear n0_ n1_; (try clear hb); (try clear hb2); (try clear hk); (try clear hi)) | ((with_reducible refine gate_callee (f := 8) rfl ?_); refine goesL_ (some 11) rfl rfl Tryd.func8 (by kernel_rfl) rfl #[.string t234] rfl (by (try simp only [List.map_toArray, List.map_cons, List.map_nil]); first | done | rfl | (simp only [List.length_drop, List.length_take]; rfl)) ?_; (with_reducible refine (value_Parse.calls t234 t235 t236 _ A5.out ?sideV).mono ?_); (case sideV => exact HV.out.below (by repeat (first | (with_reducible first | exact HB.out | apply below_alloc | apply pw_below_drewN | apply below_drew1) | exact HB.out))); rintro e w19 ⟨v237, rfl, ho0, hb⟩; refine ⟨_, rfl, ?_⟩; have n0_ := Aside0.mk (Kd.R_elder' (by (with_reducible repeat (first | apply Kd.R_alloc | apply Kd.R_drewN | apply Kd.R_drew)); exact HO233.out) (Kd.R_base ho0) hb); have n1_ := Aside0.mk (Kd.R_lower (Kd.R_new' ho0 (Kd.R_lt (by (with_reducible repeat (first | apply Kd.R_alloc | apply Kd.R_drewN | apply Kd.R_drew)); exact HO233.out))) (below_size (by repeat (first | (with_reducible first | exact HB.out | apply below_alloc | apply pw_below_drewN | apply below_drew1) | exact HB.out)))); have n2_ := Aside0.mk (below_step (by repeat (first | (with_reducible first | exact HB.out | apply below_alloc | apply pw_below_drewN | apply below_drew1) | exact HB.out)) hb); clear HO233; clear HB; have HO233 := n0_; have HO238 := n1_; have HB := n2_; clear n0_ n1_ n2_; (try clear hb); (try clear hb2); (try clear hk); (try clear hi); (try clear ho0)) | (go_at_call 13; (with_reducible refine (weighhouselaw02_num.calls t236 t239 _ A7.out).mono ?_); rintro e w' ⟨rfl, ⟨nd, rfl⟩⟩; obtain ⟨Ao20, co20, eo20⟩ := Kd.R_slice HO238.out; subst eo20; have p240 : 0 ≤ (0 : Int) := (by omega); have q240 : 0 < (t235.length : Int) := of_decide_eq_true (by first | (with_reducible assumption) | assumption); obtain ⟨ad240, e240, hx240_0, hx240_1, hx240_2⟩ := at_T37 (Kd.R_reads' HO238.out).2.2 0 p240 q240; cases e240; have qi240 : (0 < t235.length) = True := eq_true (by omega); (try rw [show ((0 : Int)).toNat = 0 from rfl] at hx240_0); (try rw [show 0 * 3 = 0 from rfl] at hx240_0); (try rw [Addr.add_zero'] at hx240_0); (try rw [show ((0 : Int)).toNat = 0 from rfl] at hx240_1); (try rw [show 0 * 3 = 0 from rfl] at hx240_1); (try rw [Addr.add_zero'] at hx240_1); (try rw [show ((0 : Int)).toNat = 0 from rfl] at hx240_2); (try rw [show 0 * 3 = 0 from rfl] at hx240_2); (try rw [Addr.add_zero'] at hx240_2); replace p240 := eq_true p240; replace q240 := eq_true q240) | (go_at_call 15; (with_reducible refine (value_Right.calls ((rd_T37 t235 0).f0) ((rd_T37 t235 0).f1) ((rd_T37 t235 0).f2) t241 _ A11.out).mono ?_); rintro e w21 ⟨rfl, hb⟩; have n0_ := Aside0.mk (Kd.R_below (by (with_reducible repeat (first | apply Kd.R_alloc | apply Kd.R_drewN | apply Kd.R_drew)); exact HO233.out) hb); have n1_ := Aside0.mk (Kd.R_below (by (with_reducible repeat (first | apply Kd.R_alloc | apply Kd.R_drewN | apply Kd.R_drew)); exact HO238.out) hb); have n2_ := Aside0.mk (below_step (by repeat (first | (with_reducible first | exact HB.out | apply below_alloc | apply pw_below_drewN | apply below_drew1) | exact HB.out)) hb); clear HO233; clear HO238; clear HB; have HO233 := n0_; have HO238 := n1_; have HB := n2_; clear n0_ n1_ n2_; (try clear hb); (try clear hb2); (try clear hk); (try clear hi)))
          go_ret
          exact ⟨by first | rfl | (simp [errW_none, errW_some] <;> rfl) | (simp [*, errW_none, errW_some] <;> rfl), by repeat (first | (with_reducible first | exact HB.out | apply below_alloc | apply pw_below_drewN | apply below_drew1) | exact HB.out)⟩
        · rw [if_neg c10] at H
          exact absurd H (by simp)
      · rw [if_neg c9] at H
        have c9b0 : ((t235.length : Int) == 3) = false := beq_eq_false_iff_ne.mpr c9
        have c9b1 : ((t235.length : Int) != 3) = true := bne_iff_ne.mpr c9
        obtain rfl := Option.some.inj H
        go_enter Tryd.func14, Tryd.ntmps14
        go_wp2_with (first | ((with_reducible refine gate_callee (f := 18) rfl ?_); refine goesL_ (some 4) rfl rfl Tryd.func18 (by kernel_rfl) rfl #[.int .i64 (-5)] rfl (by (try simp only [List.map_toArray, List.map_cons, List.map_nil]); first | done | rfl | (simp only [List.length_drop, List.length_take]; rfl)) ?_; (with_reducible refine (value_Number.calls (-5) t222 t223 t224 _ A1.out).mono ?_); rintro e w22 ⟨rfl, hb⟩; refine ⟨_, rfl, ?_⟩; have n0_ := Aside0.mk (below_step (by repeat (first | (with_reducible first | exact HB.out | apply below_alloc | apply pw_below_drewN | apply below_drew1) | exact HB.out)) hb); clear HB; have HB := n0_; clear n0_; (try clear hb); (try clear hb2); (try clear hk); (try clear hi)) | ((with_reducible refine gate_callee (f := 19) rfl ?_); refine goesL_ (some 5) rfl rfl Tryd.func19 (by kernel_rfl) rfl #[.string (⟨#[97]⟩ : ByteArray)] rfl (by (try simp only [List.map_toArray, List.map_cons, List.map_nil]); first | done | rfl | (simp only [List.length_drop, List.length_take]; rfl)) ?_; (with_reducible refine (value_Text.calls (⟨#[97]⟩ : ByteArray) t225 t226 t227 _ A2.out).mono ?_); rintro e w23 ⟨rfl, hb⟩; refine ⟨_, rfl, ?_⟩; have n0_ := Aside0.mk (below_step (by repeat (first | (with_reducible first | exact HB.out | apply below_alloc | apply pw_below_drewN | apply below_drew1) | exact HB.out)) hb); clear HB; have HB := n0_; clear n0_; (try clear hb); (try clear hb2); (try clear hk); (try clear hi)) | ((with_reducible refine gate_callee (f := 20) rfl ?_); refine goesL_ (some 6) rfl rfl Tryd.func20 (by kernel_rfl) rfl #[.bool true] rfl (by (try simp only [List.map_toArray, List.map_cons, List.map_nil]); first | done | rfl | (simp only [List.length_drop, List.length_take]; rfl)) ?_; (with_reducible refine (value_Truth.calls true t228 t229 t230 _ A3.out).mono ?_); rintro e w24 ⟨rfl, hb⟩; refine ⟨_, rfl, ?_⟩; have n0_ := Aside0.mk (below_step (by repeat (first | (with_reducible first | exact HB.out | apply below_alloc | apply pw_below_drewN | apply below_drew1) | exact HB.out)) hb); clear HB; have HB := n0_; clear n0_; (try clear hb); (try clear hb2); (try clear hk); (try clear hi)) | ((with_reducible refine gate_dst (N := 7) rfl ?_); (try (refine gate_guard (by rfl) ?_; dsimp only)); refine Kd.R_lit k37 _ 37 ?hg (N := 7) ?hd (xs := ([(⟨t222, t223, t224⟩ : S37), (⟨t225, t226, t227⟩ : S37), (⟨t228, t229, t230⟩ : S37)] : List (S37))) (inner := [.int .i64 t222, .int .i64 t223, .string t224, .int .i64 t225, .int .i64 t226, .string t227, .int .i64 t228, .int .i64 t229, .string t230]) (ok := fun _ => True) (okp := fun _ => True) ?hr ?hp (fun _ hk => hk) trivial (Below.refl _ _) (Nat.le_refl _) (by simp) ?_; (case hd => rfl); (case hg => rfl); (case hr => first | (go_simp; done) | (go_simp; rfl)); (case hp => exact (Reps.c3 (show Kd.M k37 _ _ _ (⟨t222, t223, t224⟩ : S37) [.int .i64 t222, .int .i64 t223, .string t224] from (k37_mkM _ _ _ (⟨t222, t223, t224⟩ : S37) )) (Reps.c3 (show Kd.M k37 _ _ _ (⟨t225, t226, t227⟩ : S37) [.int .i64 t225, .int .i64 t226, .string t227] from (k37_mkM _ _ _ (⟨t225, t226, t227⟩ : S37) )) (Reps.c3 (show Kd.M k37 _ _ _ (⟨t228, t229, t230⟩ : S37) [.int .i64 t228, .int .i64 t229, .string t230] from (k37_mkM _ _ _ (⟨t228, t229, t230⟩ : S37) )) (Reps.none _ _))))); intro v232 w25 ho26 hb hg_ hnew_; clear hg_ hnew_; (first | rw [← Ny231.out] at ho26 | (simp only [Int.reduceToNat] at ho26; rw [← Ny231.out] at ho26)); have n0_ := Aside0.mk (Kd.R_lower ho26 (below_size (by repeat (first | (with_reducible first | exact HB.out | apply below_alloc | apply pw_below_drewN | apply below_drew1) | exact HB.out)))); have n1_ := Aside0.mk (below_step (by repeat (first | (with_reducible first | exact HB.out | apply below_alloc | apply pw_below_drewN | apply below_drew1) | exact HB.out)) hb); clear HB; have HO233 := n0_; have HB := n1_; clear n0_ n1_; clear hb ho26; obtain ⟨Ao27, co27, eo27⟩ := Kd.R_slice HO233.out; subst eo27) | ((with_reducible refine gate_callee (f := 10) rfl ?_); refine goesL_ (some 8) rfl rfl Tryd.func10 (by kernel_rfl) rfl #[.slice Ao27 y231.length co27] rfl (by (try simp only [List.map_toArray, List.map_cons, List.map_nil]); first | done | rfl | (simp only [List.length_drop, List.length_take]; rfl)) ?_; (with_reducible refine (value_Print.calls k _ _ y231 t234 _ ?side1 ?side2 A4.out ?sideV).mono ?_); (case sideV => exact HV.out.below (by repeat (first | (with_reducible first | exact HB.out | apply below_alloc | apply pw_below_drewN | apply below_drew1) | exact HB.out))); (case side1 => repeat (first | exact (Kd.R_reads' HO233.out).2.2 | (with_reducible refine Kd.C_alloc ?_ _) | (with_reducible refine Kd.C_drewN ?_ _) | (with_reducible refine Kd.C_drew ?_))); (case side2 => exact (Kd.R_reads' HO233.out).2.1); rintro e w28 ⟨rfl, hb⟩; refine ⟨_, rfl, ?_⟩; have n0_ := Aside0.mk (Kd.R_below (by (with_reducible repeat (first | apply Kd.R_alloc | apply Kd.R_drewN | apply Kd.R_drew)); exact HO233.out) hb); have n1_ := Aside0.mk (below_step (by repeat (first | (with_reducible first | exact HB.out | apply below_alloc | apply pw_below_drewN | apply below_drew1) | exact HB.out)) hb); clear HO233; clear HB; have HO233 := n0_; have HB := n1_; clear n0_ n1_; (try clear hb); (try clear hb2); (try clear hk); (try clear hi)) | ((with_reducible refine gate_callee (f := 8) rfl ?_); refine goesL_ (some 11) rfl rfl Tryd.func8 (by kernel_rfl) rfl #[.string t234] rfl (by (try simp only [List.map_toArray, List.map_cons, List.map_nil]); first | done | rfl | (simp only [List.length_drop, List.length_take]; rfl)) ?_; (with_reducible refine (value_Parse.calls t234 t235 t236 _ A5.out ?sideV).mono ?_); (case sideV => exact HV.out.below (by repeat (first | (with_reducible first | exact HB.out | apply below_alloc | apply pw_below_drewN | apply below_drew1) | exact HB.out))); rintro e w29 ⟨v237, rfl, ho0, hb⟩; refine ⟨_, rfl, ?_⟩; have n0_ := Aside0.mk (Kd.R_elder' (by (with_reducible repeat (first | apply Kd.R_alloc | apply Kd.R_drewN | apply Kd.R_drew)); exact HO233.out) (Kd.R_base ho0) hb); have n1_ := Aside0.mk (Kd.R_lower (Kd.R_new' ho0 (Kd.R_lt (by (with_reducible repeat (first | apply Kd.R_alloc | apply Kd.R_drewN | apply Kd.R_drew)); exact HO233.out))) (below_size (by repeat (first | (with_reducible first | exact HB.out | apply below_alloc | apply pw_below_drewN | apply below_drew1) | exact HB.out)))); have n2_ := Aside0.mk (below_step (by repeat (first | (with_reducible first | exact HB.out | apply below_alloc | apply pw_below_drewN | apply below_drew1) | exact HB.out)) hb); clear HO233; clear HB; have HO233 := n0_; have HO238 := n1_; have HB := n2_; clear n0_ n1_ n2_; (try clear hb); (try clear hb2); (try clear hk); (try clear hi); (try clear ho0)) | (go_at_call 13; (with_reducible refine (weighhouselaw02_num.calls t236 t239 _ A7.out).mono ?_); rintro e w' ⟨rfl, ⟨nd, rfl⟩⟩; obtain ⟨Ao30, co30, eo30⟩ := Kd.R_slice HO238.out; subst eo30))
        go_ret
        exact ⟨by first | rfl | (simp [errW_none, errW_some] <;> rfl) | (simp [*, errW_none, errW_some] <;> rfl), by repeat (first | (with_reducible first | exact HB.out | apply below_alloc | apply pw_below_drewN | apply below_drew1) | exact HB.out)⟩
    · rw [if_neg c8] at H
      have c8b0 : (t239 == 0) = false := beq_eq_false_iff_ne.mpr c8
      have c8b1 : (t239 != 0) = true := bne_iff_ne.mpr c8
      obtain rfl := Option.some.inj H
      go_enter Tryd.func14, Tryd.ntmps14
      go_wp2_with (first | ((with_reducible refine gate_callee (f := 18) rfl ?_); refine goesL_ (some 4) rfl rfl Tryd.func18 (by kernel_rfl) rfl #[.int .i64 (-5)] rfl (by (try simp only [List.map_toArray, List.map_cons, List.map_nil]); first | done | rfl | (simp only [List.length_drop, List.length_take]; rfl)) ?_; (with_reducible refine (value_Number.calls (-5) t222 t223 t224 _ A1.out).mono ?_); rintro e w31 ⟨rfl, hb⟩; refine ⟨_, rfl, ?_⟩; have n0_ := Aside0.mk (below_step (by repeat (first | (with_reducible first | exact HB.out | apply below_alloc | apply pw_below_drewN | apply below_drew1) | exact HB.out)) hb); clear HB; have HB := n0_; clear n0_; (try clear hb); (try clear hb2); (try clear hk); (try clear hi)) | ((with_reducible refine gate_callee (f := 19) rfl ?_); refine goesL_ (some 5) rfl rfl Tryd.func19 (by kernel_rfl) rfl #[.string (⟨#[97]⟩ : ByteArray)] rfl (by (try simp only [List.map_toArray, List.map_cons, List.map_nil]); first | done | rfl | (simp only [List.length_drop, List.length_take]; rfl)) ?_; (with_reducible refine (value_Text.calls (⟨#[97]⟩ : ByteArray) t225 t226 t227 _ A2.out).mono ?_); rintro e w32 ⟨rfl, hb⟩; refine ⟨_, rfl, ?_⟩; have n0_ := Aside0.mk (below_step (by repeat (first | (with_reducible first | exact HB.out | apply below_alloc | apply pw_below_drewN | apply below_drew1) | exact HB.out)) hb); clear HB; have HB := n0_; clear n0_; (try clear hb); (try clear hb2); (try clear hk); (try clear hi)) | ((with_reducible refine gate_callee (f := 20) rfl ?_); refine goesL_ (some 6) rfl rfl Tryd.func20 (by kernel_rfl) rfl #[.bool true] rfl (by (try simp only [List.map_toArray, List.map_cons, List.map_nil]); first | done | rfl | (simp only [List.length_drop, List.length_take]; rfl)) ?_; (with_reducible refine (value_Truth.calls true t228 t229 t230 _ A3.out).mono ?_); rintro e w33 ⟨rfl, hb⟩; refine ⟨_, rfl, ?_⟩; have n0_ := Aside0.mk (below_step (by repeat (first | (with_reducible first | exact HB.out | apply below_alloc | apply pw_below_drewN | apply below_drew1) | exact HB.out)) hb); clear HB; have HB := n0_; clear n0_; (try clear hb); (try clear hb2); (try clear hk); (try clear hi)) | ((with_reducible refine gate_dst (N := 7) rfl ?_); (try (refine gate_guard (by rfl) ?_; dsimp only)); refine Kd.R_lit k37 _ 37 ?hg (N := 7) ?hd (xs := ([(⟨t222, t223, t224⟩ : S37), (⟨t225, t226, t227⟩ : S37), (⟨t228, t229, t230⟩ : S37)] : List (S37))) (inner := [.int .i64 t222, .int .i64 t223, .string t224, .int .i64 t225, .int .i64 t226, .string t227, .int .i64 t228, .int .i64 t229, .string t230]) (ok := fun _ => True) (okp := fun _ => True) ?hr ?hp (fun _ hk => hk) trivial (Below.refl _ _) (Nat.le_refl _) (by simp) ?_; (case hd => rfl); (case hg => rfl); (case hr => first | (go_simp; done) | (go_simp; rfl)); (case hp => exact (Reps.c3 (show Kd.M k37 _ _ _ (⟨t222, t223, t224⟩ : S37) [.int .i64 t222, .int .i64 t223, .string t224] from (k37_mkM _ _ _ (⟨t222, t223, t224⟩ : S37) )) (Reps.c3 (show Kd.M k37 _ _ _ (⟨t225, t226, t227⟩ : S37) [.int .i64 t225, .int .i64 t226, .string t227] from (k37_mkM _ _ _ (⟨t225, t226, t227⟩ : S37) )) (Reps.c3 (show Kd.M k37 _ _ _ (⟨t228, t229, t230⟩ : S37) [.int .i64 t228, .int .i64 t229, .string t230] from (k37_mkM _ _ _ (⟨t228, t229, t230⟩ : S37) )) (Reps.none _ _))))); intro v232 w34 ho35 hb hg_ hnew_; clear hg_ hnew_; (first | rw [← Ny231.out] at ho35 | (simp only [Int.reduceToNat] at ho35; rw [← Ny231.out] at ho35)); have n0_ := Aside0.mk (Kd.R_lower ho35 (below_size (by repeat (first | (with_reducible first | exact HB.out | apply below_alloc | apply pw_below_drewN | apply below_drew1) | exact HB.out)))); have n1_ := Aside0.mk (below_step (by repeat (first | (with_reducible first | exact HB.out | apply below_alloc | apply pw_below_drewN | apply below_drew1) | exact HB.out)) hb); clear HB; have HO233 := n0_; have HB := n1_; clear n0_ n1_; clear hb ho35; obtain ⟨Ao36, co36, eo36⟩ := Kd.R_slice HO233.out; subst eo36) | ((with_reducible refine gate_callee (f := 10) rfl ?_); refine goesL_ (some 8) rfl rfl Tryd.func10 (by kernel_rfl) rfl #[.slice Ao36 y231.length co36] rfl (by (try simp only [List.map_toArray, List.map_cons, List.map_nil]); first | done | rfl | (simp only [List.length_drop, List.length_take]; rfl)) ?_; (with_reducible refine (value_Print.calls k _ _ y231 t234 _ ?side1 ?side2 A4.out ?sideV).mono ?_); (case sideV => exact HV.out.below (by repeat (first | (with_reducible first | exact HB.out | apply below_alloc | apply pw_below_drewN | apply below_drew1) | exact HB.out))); (case side1 => repeat (first | exact (Kd.R_reads' HO233.out).2.2 | (with_reducible refine Kd.C_alloc ?_ _) | (with_reducible refine Kd.C_drewN ?_ _) | (with_reducible refine Kd.C_drew ?_))); (case side2 => exact (Kd.R_reads' HO233.out).2.1); rintro e w37 ⟨rfl, hb⟩; refine ⟨_, rfl, ?_⟩; have n0_ := Aside0.mk (Kd.R_below (by (with_reducible repeat (first | apply Kd.R_alloc | apply Kd.R_drewN | apply Kd.R_drew)); exact HO233.out) hb); have n1_ := Aside0.mk (below_step (by repeat (first | (with_reducible first | exact HB.out | apply below_alloc | apply pw_below_drewN | apply below_drew1) | exact HB.out)) hb); clear HO233; clear HB; have HO233 := n0_; have HB := n1_; clear n0_ n1_; (try clear hb); (try clear hb2); (try clear hk); (try clear hi)) | ((with_reducible refine gate_callee (f := 8) rfl ?_); refine goesL_ (some 11) rfl rfl Tryd.func8 (by kernel_rfl) rfl #[.string t234] rfl (by (try simp only [List.map_toArray, List.map_cons, List.map_nil]); first | done | rfl | (simp only [List.length_drop, List.length_take]; rfl)) ?_; (with_reducible refine (value_Parse.calls t234 t235 t236 _ A5.out ?sideV).mono ?_); (case sideV => exact HV.out.below (by repeat (first | (with_reducible first | exact HB.out | apply below_alloc | apply pw_below_drewN | apply below_drew1) | exact HB.out))); rintro e w38 ⟨v237, rfl, ho0, hb⟩; refine ⟨_, rfl, ?_⟩; have n0_ := Aside0.mk (Kd.R_elder' (by (with_reducible repeat (first | apply Kd.R_alloc | apply Kd.R_drewN | apply Kd.R_drew)); exact HO233.out) (Kd.R_base ho0) hb); have n1_ := Aside0.mk (Kd.R_lower (Kd.R_new' ho0 (Kd.R_lt (by (with_reducible repeat (first | apply Kd.R_alloc | apply Kd.R_drewN | apply Kd.R_drew)); exact HO233.out))) (below_size (by repeat (first | (with_reducible first | exact HB.out | apply below_alloc | apply pw_below_drewN | apply below_drew1) | exact HB.out)))); have n2_ := Aside0.mk (below_step (by repeat (first | (with_reducible first | exact HB.out | apply below_alloc | apply pw_below_drewN | apply below_drew1) | exact HB.out)) hb); clear HO233; clear HB; have HO233 := n0_; have HO238 := n1_; have HB := n2_; clear n0_ n1_ n2_; (try clear hb); (try clear hb2); (try clear hk); (try clear hi); (try clear ho0)) | (go_at_call 13; (with_reducible refine (weighhouselaw02_num.calls t236 t239 _ A7.out).mono ?_); rintro e w' ⟨rfl, ⟨nd, rfl⟩⟩))
      go_ret
      exact ⟨by first | rfl | (simp [errW_none, errW_some] <;> rfl) | (simp [*, errW_none, errW_some] <;> rfl), by repeat (first | (with_reducible first | exact HB.out | apply below_alloc | apply pw_below_drewN | apply below_drew1) | exact HB.out)⟩
  · rw [if_neg c6] at H
    have c6b0 : (t234.toList == ([45, 53, 32, 120, 39, 54, 49, 39, 32, 116, 114, 117, 101] : List UInt8)) = false := beq_eq_false_iff_ne.mpr c6
    have c6b1 : (t234.toList != ([45, 53, 32, 120, 39, 54, 49, 39, 32, 116, 114, 117, 101] : List UInt8)) = true := bne_iff_ne.mpr c6
    obtain rfl := Option.some.inj H
    go_enter Tryd.func14, Tryd.ntmps14
    go_wp2_with (first | ((with_reducible refine gate_callee (f := 18) rfl ?_); refine goesL_ (some 4) rfl rfl Tryd.func18 (by kernel_rfl) rfl #[.int .i64 (-5)] rfl (by (try simp only [List.map_toArray, List.map_cons, List.map_nil]); first | done | rfl | (simp only [List.length_drop, List.length_take]; rfl)) ?_; (with_reducible refine (value_Number.calls (-5) t222 t223 t224 _ A1.out).mono ?_); rintro e w39 ⟨rfl, hb⟩; refine ⟨_, rfl, ?_⟩; have n0_ := Aside0.mk (below_step (by repeat (first | (with_reducible first | exact HB.out | apply below_alloc | apply pw_below_drewN | apply below_drew1) | exact HB.out)) hb); clear HB; have HB := n0_; clear n0_; (try clear hb); (try clear hb2); (try clear hk); (try clear hi)) | ((with_reducible refine gate_callee (f := 19) rfl ?_); refine goesL_ (some 5) rfl rfl Tryd.func19 (by kernel_rfl) rfl #[.string (⟨#[97]⟩ : ByteArray)] rfl (by (try simp only [List.map_toArray, List.map_cons, List.map_nil]); first | done | rfl | (simp only [List.length_drop, List.length_take]; rfl)) ?_; (with_reducible refine (value_Text.calls (⟨#[97]⟩ : ByteArray) t225 t226 t227 _ A2.out).mono ?_); rintro e w40 ⟨rfl, hb⟩; refine ⟨_, rfl, ?_⟩; have n0_ := Aside0.mk (below_step (by repeat (first | (with_reducible first | exact HB.out | apply below_alloc | apply pw_below_drewN | apply below_drew1) | exact HB.out)) hb); clear HB; have HB := n0_; clear n0_; (try clear hb); (try clear hb2); (try clear hk); (try clear hi)) | ((with_reducible refine gate_callee (f := 20) rfl ?_); refine goesL_ (some 6) rfl rfl Tryd.func20 (by kernel_rfl) rfl #[.bool true] rfl (by (try simp only [List.map_toArray, List.map_cons, List.map_nil]); first | done | rfl | (simp only [List.length_drop, List.length_take]; rfl)) ?_; (with_reducible refine (value_Truth.calls true t228 t229 t230 _ A3.out).mono ?_); rintro e w41 ⟨rfl, hb⟩; refine ⟨_, rfl, ?_⟩; have n0_ := Aside0.mk (below_step (by repeat (first | (with_reducible first | exact HB.out | apply below_alloc | apply pw_below_drewN | apply below_drew1) | exact HB.out)) hb); clear HB; have HB := n0_; clear n0_; (try clear hb); (try clear hb2); (try clear hk); (try clear hi)) | ((with_reducible refine gate_dst (N := 7) rfl ?_); (try (refine gate_guard (by rfl) ?_; dsimp only)); refine Kd.R_lit k37 _ 37 ?hg (N := 7) ?hd (xs := ([(⟨t222, t223, t224⟩ : S37), (⟨t225, t226, t227⟩ : S37), (⟨t228, t229, t230⟩ : S37)] : List (S37))) (inner := [.int .i64 t222, .int .i64 t223, .string t224, .int .i64 t225, .int .i64 t226, .string t227, .int .i64 t228, .int .i64 t229, .string t230]) (ok := fun _ => True) (okp := fun _ => True) ?hr ?hp (fun _ hk => hk) trivial (Below.refl _ _) (Nat.le_refl _) (by simp) ?_; (case hd => rfl); (case hg => rfl); (case hr => first | (go_simp; done) | (go_simp; rfl)); (case hp => exact (Reps.c3 (show Kd.M k37 _ _ _ (⟨t222, t223, t224⟩ : S37) [.int .i64 t222, .int .i64 t223, .string t224] from (k37_mkM _ _ _ (⟨t222, t223, t224⟩ : S37) )) (Reps.c3 (show Kd.M k37 _ _ _ (⟨t225, t226, t227⟩ : S37) [.int .i64 t225, .int .i64 t226, .string t227] from (k37_mkM _ _ _ (⟨t225, t226, t227⟩ : S37) )) (Reps.c3 (show Kd.M k37 _ _ _ (⟨t228, t229, t230⟩ : S37) [.int .i64 t228, .int .i64 t229, .string t230] from (k37_mkM _ _ _ (⟨t228, t229, t230⟩ : S37) )) (Reps.none _ _))))); intro v232 w42 ho43 hb hg_ hnew_; clear hg_ hnew_; (first | rw [← Ny231.out] at ho43 | (simp only [Int.reduceToNat] at ho43; rw [← Ny231.out] at ho43)); have n0_ := Aside0.mk (Kd.R_lower ho43 (below_size (by repeat (first | (with_reducible first | exact HB.out | apply below_alloc | apply pw_below_drewN | apply below_drew1) | exact HB.out)))); have n1_ := Aside0.mk (below_step (by repeat (first | (with_reducible first | exact HB.out | apply below_alloc | apply pw_below_drewN | apply below_drew1) | exact HB.out)) hb); clear HB; have HO233 := n0_; have HB := n1_; clear n0_ n1_; clear hb ho43; obtain ⟨Ao44, co44, eo44⟩ := Kd.R_slice HO233.out; subst eo44) | ((with_reducible refine gate_callee (f := 10) rfl ?_); refine goesL_ (some 8) rfl rfl Tryd.func10 (by kernel_rfl) rfl #[.slice Ao44 y231.length co44] rfl (by (try simp only [List.map_toArray, List.map_cons, List.map_nil]); first | done | rfl | (simp only [List.length_drop, List.length_take]; rfl)) ?_; (with_reducible refine (value_Print.calls k _ _ y231 t234 _ ?side1 ?side2 A4.out ?sideV).mono ?_); (case sideV => exact HV.out.below (by repeat (first | (with_reducible first | exact HB.out | apply below_alloc | apply pw_below_drewN | apply below_drew1) | exact HB.out))); (case side1 => repeat (first | exact (Kd.R_reads' HO233.out).2.2 | (with_reducible refine Kd.C_alloc ?_ _) | (with_reducible refine Kd.C_drewN ?_ _) | (with_reducible refine Kd.C_drew ?_))); (case side2 => exact (Kd.R_reads' HO233.out).2.1); rintro e w45 ⟨rfl, hb⟩; refine ⟨_, rfl, ?_⟩; have n0_ := Aside0.mk (Kd.R_below (by (with_reducible repeat (first | apply Kd.R_alloc | apply Kd.R_drewN | apply Kd.R_drew)); exact HO233.out) hb); have n1_ := Aside0.mk (below_step (by repeat (first | (with_reducible first | exact HB.out | apply below_alloc | apply pw_below_drewN | apply below_drew1) | exact HB.out)) hb); clear HO233; clear HB; have HO233 := n0_; have HB := n1_; clear n0_ n1_; (try clear hb); (try clear hb2); (try clear hk); (try clear hi)) | ((with_reducible refine gate_callee (f := 8) rfl ?_); refine goesL_ (some 11) rfl rfl Tryd.func8 (by kernel_rfl) rfl #[.string t234] rfl (by (try simp only [List.map_toArray, List.map_cons, List.map_nil]); first | done | rfl | (simp only [List.length_drop, List.length_take]; rfl)) ?_; (with_reducible refine (value_Parse.calls t234 t235 t236 _ A5.out ?sideV).mono ?_); (case sideV => exact HV.out.below (by repeat (first | (with_reducible first | exact HB.out | apply below_alloc | apply pw_below_drewN | apply below_drew1) | exact HB.out))); rintro e w46 ⟨v237, rfl, ho0, hb⟩; refine ⟨_, rfl, ?_⟩; have n0_ := Aside0.mk (Kd.R_elder' (by (with_reducible repeat (first | apply Kd.R_alloc | apply Kd.R_drewN | apply Kd.R_drew)); exact HO233.out) (Kd.R_base ho0) hb); have n1_ := Aside0.mk (Kd.R_lower (Kd.R_new' ho0 (Kd.R_lt (by (with_reducible repeat (first | apply Kd.R_alloc | apply Kd.R_drewN | apply Kd.R_drew)); exact HO233.out))) (below_size (by repeat (first | (with_reducible first | exact HB.out | apply below_alloc | apply pw_below_drewN | apply below_drew1) | exact HB.out)))); have n2_ := Aside0.mk (below_step (by repeat (first | (with_reducible first | exact HB.out | apply below_alloc | apply pw_below_drewN | apply below_drew1) | exact HB.out)) hb); clear HO233; clear HB; have HO233 := n0_; have HO238 := n1_; have HB := n2_; clear n0_ n1_ n2_; (try clear hb); (try clear hb2); (try clear hk); (try clear hi); (try clear ho0)))
    go_ret
    exact ⟨by first | rfl | (simp [errW_none, errW_some] <;> rfl) | (simp [*, errW_none, errW_some] <;> rfl), by repeat (first | (with_reducible first | exact HB.out | apply below_alloc | apply pw_below_drewN | apply below_drew1) | exact HB.out)⟩

end Go.Proofs.YtblaibigjhlblaaDoor.Q
end

section
-- written by hprint.py (a program of these sessions) out of the translation; Lean checks it
namespace Go.Proofs.YtblaibigjhlblaaDoor.Q
open Go.RowKit Go.Proofs.YtblaibigjhlblaaDoorW.Hb Go.Proofs.YtblaibigjhlblaaDoorW.PrintWords Go.Proofs.YtblaibigjhlblaaDoorW.PrintLast Go.Proofs.YtblaibigjhlblaaDoorW.PrintMore
attribute [local go_sem] max2_int min2_int max_two min_two max_three min_three max_four min_four   -- for this text's walks alone
set_option linter.unusedVariables false
set_option linter.unusedSimpArgs false

/-! ### cmp_Or_int: function 35 -/
def cmp_Or_int.l0 : Nat → Int → List Int → Int → Int → Option (Int)
  | 0, _, _, _, _ => none
  | k + 1, x3, x6, x7, x8 => if x8 < x7 then (if 0 ≤ x8 then (if x8 < (x6.length : Int) then (if (rd x6 x8) = x3 then (cmp_Or_int.l0 k x3 x6 x7 (wrap64 (x8 + 1))) else (some (rd x6 x8))) else (none)) else (none)) else (some x3)
def cmp_Or_int.f (k : Nat) (l0 : List Int) : Option (Int) := cmp_Or_int.l0 k 0 l0 (l0.length : Int) 0
theorem cmp_Or_int.mono_l : ∀ k, (∀ y0 y1 y2 y3, LeO (cmp_Or_int.l0 k y0 y1 y2 y3) (cmp_Or_int.l0 (k + 1) y0 y1 y2 y3))
  | 0 => fun _ _ _ _ r h => by simp [cmp_Or_int.l0] at h
  | k + 1 => by
    have ih0 := cmp_Or_int.mono_l k
    · intro y0 y1 y2 y3
      unfold cmp_Or_int.l0
      repeat' first
      | (with_reducible exact ih0 _ _ _ _)
      | (with_reducible exact LeO.refl _)
      | (with_reducible exact LeO.none _)
      | (with_reducible refine LeO.ite ?_ ?_)
      | (with_reducible refine LeO.bind ?_ (fun _ => ?_))
      | exact ih0 _ _ _ _
      | exact LeO.none _
      | refine LeO.ite ?_ ?_
      | refine LeO.bind ?_ (fun _ => ?_)
theorem cmp_Or_int.mono : ∀ a0 k, LeO (cmp_Or_int.f k a0) (cmp_Or_int.f (k + 1) a0) := by
  intro a0 k
  have ih0 := cmp_Or_int.mono_l k
  unfold cmp_Or_int.f
  repeat' first
      | (with_reducible exact ih0 _ _ _ _)
      | (with_reducible exact LeO.refl _)
      | (with_reducible exact LeO.none _)
      | (with_reducible refine LeO.ite ?_ ?_)
      | (with_reducible refine LeO.bind ?_ (fun _ => ?_))
      | exact ih0 _ _ _ _
      | exact LeO.none _
      | refine LeO.ite ?_ ?_
      | refine LeO.bind ?_ (fun _ => ?_)
set_option maxHeartbeats 8000000 in
set_option maxRecDepth 100000 in
theorem cmp_Or_int.calls (k : Nat) (A0 : Option Addr) (c0 : Nat) (l0 : List Int) (r : Int) (w : World) (hr0 : Kd.C (Kd.int .i64) w A0 l0.length l0) (hc0 : l0.length ≤ c0) (h : cmp_Or_int.f k l0 = some r) :
    Calls Tryd.prog 35 #[.slice A0 l0.length c0] w fun e w' => e = .returned (.int .i64 r) ∧ Drawn0 w w' := by
  have HR0 := Aside0.mk hr0
  have HC0 := Aside0.mk hc0
  clear hr0 hc0
  have H : (cmp_Or_int.l0 k 0 l0 (l0.length : Int) 0) = some r := h
  clear h
  have H' := Aside0.mk H
  clear H
  go_enter Tryd.func35, Tryd.ntmps35
  go_wp2
  go_loopg [8] k (fun kq v8 w' => ∃ (x8_1 : Int), v8 = .int .i64 x8_1 ∧ Aside0 (cmp_Or_int.l0 kq 0 l0 (l0.length : Int) x8_1 = some r) ∧ Aside0 (kq ≤ k) ∧ Drawn0 w w')
  case atStart => exact ⟨(0), (by first | rfl | (simp; done) | (simp [*]; done)), H', ⟨Nat.le_refl _⟩, by repeat (first | exact Drawn0.refl _ | apply Drawn0.step)⟩
  case round =>
    clear H'
    obtain ⟨x8_1, rfl, HA, HK1, ⟨m1, rfl⟩⟩ := hrel
    cases gk with
    | zero => exact absurd HA.out (by simp [cmp_Or_int.l0])
    | succ k1 =>
      have H := HA.out
      clear HA
      simp only [cmp_Or_int.l0] at H
      by_cases c2 : x8_1 < (l0.length : Int)
      · rw [if_pos c2] at H
        have c2b0 : decide (x8_1 < (l0.length : Int)) = true := decide_eq_true c2
        clear c2
        by_cases c3 : 0 ≤ x8_1
        · rw [if_pos c3] at H
          have c3b0 : decide (0 ≤ x8_1) = true := decide_eq_true c3
          clear c3
          by_cases c4 : x8_1 < (l0.length : Int)
          · rw [if_pos c4] at H
            have c4b0 : decide (x8_1 < (l0.length : Int)) = true := decide_eq_true c4
            clear c4
            by_cases c5 : (rd l0 x8_1) = 0
            · rw [if_pos c5] at H
              have c5b0 : ((rd l0 x8_1) == 0) = true := beq_iff_eq.mpr c5
              have c5b1 : ((rd l0 x8_1) != 0) = false := bne_eq_false_iff_eq.mpr c5
              clear c5
              have H' := Aside0.mk H
              clear H
              have p338 : 0 ≤ (x8_1 : Int) := of_decide_eq_true (by first | (with_reducible assumption) | assumption)
              have q338 : x8_1 < (l0.length : Int) := of_decide_eq_true (by first | (with_reducible assumption) | assumption)
              obtain ⟨ad338, e338, hx338_0⟩ := Kd.at_int HR0.out x8_1 p338 q338
              cases e338
              replace p338 := eq_true p338
              replace q338 := eq_true q338
              go_wp2
              go_roundg k1
              case measure => have := HK1.out; omega
              case rel => exact ⟨(wrap64 (x8_1 + 1)), (by first | rfl | (simp; done) | (simp [*]; done)), H', ⟨by have := HK1.out; omega⟩, by repeat (first | exact Drawn0.refl _ | apply Drawn0.step)⟩
            · rw [if_neg c5] at H
              have c5b0 : ((rd l0 x8_1) == 0) = false := beq_eq_false_iff_ne.mpr c5
              have c5b1 : ((rd l0 x8_1) != 0) = true := bne_iff_ne.mpr c5
              obtain rfl := Option.some.inj H
              have p338 : 0 ≤ (x8_1 : Int) := of_decide_eq_true (by first | (with_reducible assumption) | assumption)
              have q338 : x8_1 < (l0.length : Int) := of_decide_eq_true (by first | (with_reducible assumption) | assumption)
              obtain ⟨ad338, e338, hx338_0⟩ := Kd.at_int HR0.out x8_1 p338 q338
              cases e338
              replace p338 := eq_true p338
              replace q338 := eq_true q338
              go_wp2
              go_ret
              exact ⟨by first | rfl | (simp; done) | (simp [*]; done), by repeat (first | exact Drawn0.refl _ | apply Drawn0.step)⟩
          · rw [if_neg c4] at H
            exact absurd H (by simp)
        · rw [if_neg c3] at H
          exact absurd H (by simp)
      · rw [if_neg c2] at H
        have c2b0 : decide (x8_1 < (l0.length : Int)) = false := decide_eq_false c2
        clear c2
        obtain rfl := Option.some.inj H
        go_wp2
        go_ret
        exact ⟨by first | rfl | (simp; done) | (simp [*]; done), by repeat (first | exact Drawn0.refl _ | apply Drawn0.step)⟩

end Go.Proofs.YtblaibigjhlblaaDoor.Q
end

section
-- written by hprint.py (a program of these sessions) out of the translation; Lean checks it
namespace Go.Proofs.YtblaibigjhlblaaDoor.Q
open Go.RowKit Go.Proofs.YtblaibigjhlblaaDoorW.Hb Go.Proofs.YtblaibigjhlblaaDoorW.PrintWords Go.Proofs.YtblaibigjhlblaaDoorW.PrintLast Go.Proofs.YtblaibigjhlblaaDoorW.PrintMore
attribute [local go_sem] max2_int min2_int max_two min_two max_three min_three max_four min_four   -- for this text's walks alone
set_option linter.unusedVariables false
set_option linter.unusedSimpArgs false

/-! ### cmp_isNaN_int: function 52 -/
def cmp_isNaN_int.f (a0 : Int) : Option (Bool) := some (a0 != a0)
set_option maxHeartbeats 8000000 in
set_option maxRecDepth 100000 in
theorem cmp_isNaN_int.calls (a0 : Int) (r : Bool) (w : World) (h : cmp_isNaN_int.f a0 = some r) :
    Calls Tryd.prog 52 #[.int .i64 a0] w fun e w' => e = .returned (.bool r) ∧ Drawn0 w w' := by
  have H : (some (a0 != a0)) = some r := h
  clear h
  obtain rfl := Option.some.inj H
  go_enter Tryd.func52, Tryd.ntmps52
  go_wp2
  go_ret
  exact ⟨by first | rfl | (simp; done) | (simp [*]; done), by repeat (first | exact Drawn0.refl _ | apply Drawn0.step)⟩

end Go.Proofs.YtblaibigjhlblaaDoor.Q
end

section
-- written by hprint.py (a program of these sessions) out of the translation; Lean checks it
namespace Go.Proofs.YtblaibigjhlblaaDoor.Q
open Go.RowKit Go.Proofs.YtblaibigjhlblaaDoorW.Hb Go.Proofs.YtblaibigjhlblaaDoorW.PrintWords Go.Proofs.YtblaibigjhlblaaDoorW.PrintLast Go.Proofs.YtblaibigjhlblaaDoorW.PrintMore
attribute [local go_sem] max2_int min2_int max_two min_two max_three min_three max_four min_four   -- for this text's walks alone
set_option linter.unusedVariables false
set_option linter.unusedSimpArgs false

/-! ### cmp_Compare_int: function 36 -/
def cmp_Compare_int.f (a0 : Int) (a1 : Int) : Option (Int) := (cmp_isNaN_int.f a0).bind fun t339 => ((cmp_isNaN_int.f a1).bind fun t340 => (if t339 = true then (if t340 = true then (some 0) else (some (-1))) else (if t340 = true then (some 1) else (if a0 < a1 then (some (-1)) else (if a0 > a1 then (some 1) else (some 0))))))
set_option maxHeartbeats 8000000 in
set_option maxRecDepth 100000 in
theorem cmp_Compare_int.calls (a0 : Int) (a1 : Int) (r : Int) (w : World) (h : cmp_Compare_int.f a0 a1 = some r) :
    Calls Tryd.prog 36 #[.int .i64 a0, .int .i64 a1] w fun e w' => e = .returned (.int .i64 r) ∧ Drawn0 w w' := by
  have H : ((cmp_isNaN_int.f a0).bind fun t339 => ((cmp_isNaN_int.f a1).bind fun t340 => (if t339 = true then (if t340 = true then (some 0) else (some (-1))) else (if t340 = true then (some 1) else (if a0 < a1 then (some (-1)) else (if a0 > a1 then (some 1) else (some 0))))))) = some r := h
  clear h
  replace H := Option.bind_eq_some_iff.mp H
  obtain ⟨t339, A30, H⟩ := H
  replace H : ((cmp_isNaN_int.f a1).bind fun t340 => (if t339 = true then (if t340 = true then (some 0) else (some (-1))) else (if t340 = true then (some 1) else (if a0 < a1 then (some (-1)) else (if a0 > a1 then (some 1) else (some 0)))))) = some r := H
  have A3 := Aside0.mk A30
  clear A30
  replace H := Option.bind_eq_some_iff.mp H
  obtain ⟨t340, A40, H⟩ := H
  replace H : (if t339 = true then (if t340 = true then (some 0) else (some (-1))) else (if t340 = true then (some 1) else (if a0 < a1 then (some (-1)) else (if a0 > a1 then (some 1) else (some 0))))) = some r := H
  have A4 := Aside0.mk A40
  clear A40
  by_cases c5 : t339 = true
  · subst c5
    have H1 : (if t340 = true then (some 0) else (some (-1))) = some r := by rw [if_pos rfl] at H; exact H
    clear H
    have H := H1
    clear H1
    by_cases c6 : t340 = true
    · subst c6
      have H1 : (some 0) = some r := by rw [if_pos rfl] at H; exact H
      clear H
      have H := H1
      clear H1
      obtain rfl := Option.some.inj H
      go_enter Tryd.func36, Tryd.ntmps36
      go_wp2_with (first | ((with_reducible refine gate_callee (f := 52) rfl ?_); refine goesL_ (some 8) rfl rfl Tryd.func52 (by kernel_rfl) rfl #[.int .i64 a0] rfl (by (try simp only [List.map_toArray, List.map_cons, List.map_nil]); first | done | rfl | (simp only [List.length_drop, List.length_take]; rfl)) ?_; (with_reducible refine (cmp_isNaN_int.calls a0 true _ A3.out).mono ?_); rintro e w' ⟨rfl, ⟨nd, rfl⟩⟩; refine ⟨_, rfl, ?_⟩) | ((with_reducible refine gate_callee (f := 52) rfl ?_); refine goesL_ (some 10) rfl rfl Tryd.func52 (by kernel_rfl) rfl #[.int .i64 a1] rfl (by (try simp only [List.map_toArray, List.map_cons, List.map_nil]); first | done | rfl | (simp only [List.length_drop, List.length_take]; rfl)) ?_; (with_reducible refine (cmp_isNaN_int.calls a1 true _ A4.out).mono ?_); rintro e w' ⟨rfl, ⟨nd, rfl⟩⟩; refine ⟨_, rfl, ?_⟩))
      go_ret
      exact ⟨by first | rfl | (simp; done) | (simp [*]; done), by repeat (first | exact Drawn0.refl _ | apply Drawn0.step)⟩
    · replace c6 := Bool.eq_false_iff.mpr c6
      subst c6
      have H1 : (some (-1)) = some r := by rw [if_neg (show ¬ (false = true) by decide)] at H; exact H
      clear H
      have H := H1
      clear H1
      obtain rfl := Option.some.inj H
      go_enter Tryd.func36, Tryd.ntmps36
      go_wp2_with (first | ((with_reducible refine gate_callee (f := 52) rfl ?_); refine goesL_ (some 8) rfl rfl Tryd.func52 (by kernel_rfl) rfl #[.int .i64 a0] rfl (by (try simp only [List.map_toArray, List.map_cons, List.map_nil]); first | done | rfl | (simp only [List.length_drop, List.length_take]; rfl)) ?_; (with_reducible refine (cmp_isNaN_int.calls a0 true _ A3.out).mono ?_); rintro e w' ⟨rfl, ⟨nd, rfl⟩⟩; refine ⟨_, rfl, ?_⟩) | ((with_reducible refine gate_callee (f := 52) rfl ?_); refine goesL_ (some 10) rfl rfl Tryd.func52 (by kernel_rfl) rfl #[.int .i64 a1] rfl (by (try simp only [List.map_toArray, List.map_cons, List.map_nil]); first | done | rfl | (simp only [List.length_drop, List.length_take]; rfl)) ?_; (with_reducible refine (cmp_isNaN_int.calls a1 false _ A4.out).mono ?_); rintro e w' ⟨rfl, ⟨nd, rfl⟩⟩; refine ⟨_, rfl, ?_⟩))
      go_ret
      exact ⟨by first | rfl | (simp; done) | (simp [*]; done), by repeat (first | exact Drawn0.refl _ | apply Drawn0.step)⟩
  · replace c5 := Bool.eq_false_iff.mpr c5
    subst c5
    have H1 : (if t340 = true then (some 1) else (if a0 < a1 then (some (-1)) else (if a0 > a1 then (some 1) else (some 0)))) = some r := by rw [if_neg (show ¬ (false = true) by decide)] at H; exact H
    clear H
    have H := H1
    clear H1
    by_cases c7 : t340 = true
    · subst c7
      have H1 : (some 1) = some r := by rw [if_pos rfl] at H; exact H
      clear H
      have H := H1
      clear H1
      obtain rfl := Option.some.inj H
      go_enter Tryd.func36, Tryd.ntmps36
      go_wp2_with (first | ((with_reducible refine gate_callee (f := 52) rfl ?_); refine goesL_ (some 8) rfl rfl Tryd.func52 (by kernel_rfl) rfl #[.int .i64 a0] rfl (by (try simp only [List.map_toArray, List.map_cons, List.map_nil]); first | done | rfl | (simp only [List.length_drop, List.length_take]; rfl)) ?_; (with_reducible refine (cmp_isNaN_int.calls a0 false _ A3.out).mono ?_); rintro e w' ⟨rfl, ⟨nd, rfl⟩⟩; refine ⟨_, rfl, ?_⟩) | ((with_reducible refine gate_callee (f := 52) rfl ?_); refine goesL_ (some 10) rfl rfl Tryd.func52 (by kernel_rfl) rfl #[.int .i64 a1] rfl (by (try simp only [List.map_toArray, List.map_cons, List.map_nil]); first | done | rfl | (simp only [List.length_drop, List.length_take]; rfl)) ?_; (with_reducible refine (cmp_isNaN_int.calls a1 true _ A4.out).mono ?_); rintro e w' ⟨rfl, ⟨nd, rfl⟩⟩; refine ⟨_, rfl, ?_⟩))
      go_ret
      exact ⟨by first | rfl | (simp; done) | (simp [*]; done), by repeat (first | exact Drawn0.refl _ | apply Drawn0.step)⟩
    · replace c7 := Bool.eq_false_iff.mpr c7
      subst c7
      have H1 : (if a0 < a1 then (some (-1)) else (if a0 > a1 then (some 1) else (some 0))) = some r := by rw [if_neg (show ¬ (false = true) by decide)] at H; exact H
      clear H
      have H := H1
      clear H1
      by_cases c8 : a0 < a1
      · rw [if_pos c8] at H
        have c8b0 : decide (a0 < a1) = true := decide_eq_true c8
        clear c8
        obtain rfl := Option.some.inj H
        go_enter Tryd.func36, Tryd.ntmps36
        go_wp2_with (first | ((with_reducible refine gate_callee (f := 52) rfl ?_); refine goesL_ (some 8) rfl rfl Tryd.func52 (by kernel_rfl) rfl #[.int .i64 a0] rfl (by (try simp only [List.map_toArray, List.map_cons, List.map_nil]); first | done | rfl | (simp only [List.length_drop, List.length_take]; rfl)) ?_; (with_reducible refine (cmp_isNaN_int.calls a0 false _ A3.out).mono ?_); rintro e w' ⟨rfl, ⟨nd, rfl⟩⟩; refine ⟨_, rfl, ?_⟩) | ((with_reducible refine gate_callee (f := 52) rfl ?_); refine goesL_ (some 10) rfl rfl Tryd.func52 (by kernel_rfl) rfl #[.int .i64 a1] rfl (by (try simp only [List.map_toArray, List.map_cons, List.map_nil]); first | done | rfl | (simp only [List.length_drop, List.length_take]; rfl)) ?_; (with_reducible refine (cmp_isNaN_int.calls a1 false _ A4.out).mono ?_); rintro e w' ⟨rfl, ⟨nd, rfl⟩⟩; refine ⟨_, rfl, ?_⟩))
        go_ret
        exact ⟨by first | rfl | (simp; done) | (simp [*]; done), by repeat (first | exact Drawn0.refl _ | apply Drawn0.step)⟩
      · rw [if_neg c8] at H
        have c8b0 : decide (a0 < a1) = false := decide_eq_false c8
        clear c8
        by_cases c9 : a0 > a1
        · rw [if_pos c9] at H
          have c9b0 : decide (a1 < a0) = true := decide_eq_true c9
          clear c9
          obtain rfl := Option.some.inj H
          go_enter Tryd.func36, Tryd.ntmps36
          go_wp2_with (first | ((with_reducible refine gate_callee (f := 52) rfl ?_); refine goesL_ (some 8) rfl rfl Tryd.func52 (by kernel_rfl) rfl #[.int .i64 a0] rfl (by (try simp only [List.map_toArray, List.map_cons, List.map_nil]); first | done | rfl | (simp only [List.length_drop, List.length_take]; rfl)) ?_; (with_reducible refine (cmp_isNaN_int.calls a0 false _ A3.out).mono ?_); rintro e w' ⟨rfl, ⟨nd, rfl⟩⟩; refine ⟨_, rfl, ?_⟩) | ((with_reducible refine gate_callee (f := 52) rfl ?_); refine goesL_ (some 10) rfl rfl Tryd.func52 (by kernel_rfl) rfl #[.int .i64 a1] rfl (by (try simp only [List.map_toArray, List.map_cons, List.map_nil]); first | done | rfl | (simp only [List.length_drop, List.length_take]; rfl)) ?_; (with_reducible refine (cmp_isNaN_int.calls a1 false _ A4.out).mono ?_); rintro e w' ⟨rfl, ⟨nd, rfl⟩⟩; refine ⟨_, rfl, ?_⟩))
          go_ret
          exact ⟨by first | rfl | (simp; done) | (simp [*]; done), by repeat (first | exact Drawn0.refl _ | apply Drawn0.step)⟩
        · rw [if_neg c9] at H
          have c9b0 : decide (a1 < a0) = false := decide_eq_false c9
          clear c9
          obtain rfl := Option.some.inj H
          go_enter Tryd.func36, Tryd.ntmps36
          go_wp2_with (first | ((with_reducible refine gate_callee (f := 52) rfl ?_); refine goesL_ (some 8) rfl rfl Tryd.func52 (by kernel_rfl) rfl #[.int .i64 a0] rfl (by (try simp only [List.map_toArray, List.map_cons, List.map_nil]); first | done | rfl | (simp only [List.length_drop, List.length_take]; rfl)) ?_; (with_reducible refine (cmp_isNaN_int.calls a0 false _ A3.out).mono ?_); rintro e w' ⟨rfl, ⟨nd, rfl⟩⟩; refine ⟨_, rfl, ?_⟩) | ((with_reducible refine gate_callee (f := 52) rfl ?_); refine goesL_ (some 10) rfl rfl Tryd.func52 (by kernel_rfl) rfl #[.int .i64 a1] rfl (by (try simp only [List.map_toArray, List.map_cons, List.map_nil]); first | done | rfl | (simp only [List.length_drop, List.length_take]; rfl)) ?_; (with_reducible refine (cmp_isNaN_int.calls a1 false _ A4.out).mono ?_); rintro e w' ⟨rfl, ⟨nd, rfl⟩⟩; refine ⟨_, rfl, ?_⟩))
          go_ret
          exact ⟨by first | rfl | (simp; done) | (simp [*]; done), by repeat (first | exact Drawn0.refl _ | apply Drawn0.step)⟩

end Go.Proofs.YtblaibigjhlblaaDoor.Q
end

section
-- written by hprint.py (a program of these sessions) out of the translation; Lean checks it
namespace Go.Proofs.YtblaibigjhlblaaDoor.Q
open Go.RowKit Go.Proofs.YtblaibigjhlblaaDoorW.Hb Go.Proofs.YtblaibigjhlblaaDoorW.PrintWords Go.Proofs.YtblaibigjhlblaaDoorW.PrintLast Go.Proofs.YtblaibigjhlblaaDoorW.PrintMore
attribute [local go_sem] max2_int min2_int max_two min_two max_three min_three max_four min_four   -- for this text's walks alone
set_option linter.unusedVariables false
set_option linter.unusedSimpArgs false

/-! ### strings_Compare: function 37, by hand -/
def strings_Compare.f (a0 a1 : ByteArray) : Option Int := some (Lib.compareBytes a0.data.toList a1.data.toList)
theorem strings_Compare.calls (a0 a1 : ByteArray) (r : Int) (w : World) (h : strings_Compare.f a0 a1 = some r) :
    Calls Tryd.prog 37 #[.string a0, .string a1] w fun e w' => e = .returned (.int .i64 r) ∧ Below w.heap.size w w' := by
  refine (Tryd.strings_Compare a0 a1 w).mono ?_
  rintro e w' ⟨rfl, rfl⟩
  obtain rfl := Option.some.inj h
  exact ⟨rfl, Below.refl _ _⟩


end Go.Proofs.YtblaibigjhlblaaDoor.Q
end

section
-- written by hprint.py (a program of these sessions) out of the translation; Lean checks it
namespace Go.Proofs.YtblaibigjhlblaaDoor.Q
open Go.RowKit Go.Proofs.YtblaibigjhlblaaDoorW.Hb Go.Proofs.YtblaibigjhlblaaDoorW.PrintWords Go.Proofs.YtblaibigjhlblaaDoorW.PrintLast Go.Proofs.YtblaibigjhlblaaDoorW.PrintMore
attribute [local go_sem] max2_int min2_int max_two min_two max_three min_three max_four min_four   -- for this text's walks alone
set_option linter.unusedVariables false
set_option linter.unusedSimpArgs false

/-! ### value_Compare: function 25 -/
def value_Compare.f (k : Nat) (a0_0 : Int) (a0_1 : Int) (a0_2 : ByteArray) (a1_0 : Int) (a1_1 : Int) (a1_2 : ByteArray) : Option (Int) := (cmp_Compare_int.f a0_0 a1_0).bind fun t343 => ((cmp_Compare_int.f a0_1 a1_1).bind fun t344 => ((strings_Compare.f a0_2 a1_2).bind fun t345 => ((cmp_Or_int.f k (([t343, t344, t345] : List Int))).bind fun t349 => (some t349))))
theorem value_Compare.mono : ∀ a0 a1 a2 a3 a4 a5 k, LeO (value_Compare.f k a0 a1 a2 a3 a4 a5) (value_Compare.f (k + 1) a0 a1 a2 a3 a4 a5) := by
  intro a0 a1 a2 a3 a4 a5 k
  unfold value_Compare.f
  repeat' first
      | (with_reducible exact cmp_Or_int.mono _ _)
      | (with_reducible exact LeO.refl _)
      | (with_reducible exact LeO.none _)
      | (with_reducible refine LeO.ite ?_ ?_)
      | (with_reducible refine LeO.bind ?_ (fun _ => ?_))
      | exact cmp_Or_int.mono _ _
      | exact LeO.none _
      | refine LeO.ite ?_ ?_
      | refine LeO.bind ?_ (fun _ => ?_)
def value_Compare.T1 : Bool × List (List Nat × List Nat) := (true, [([], []), ([0], [0]), ([], []), ([2], [2]), ([1, 3], [1, 3]), ([], []), ([5], [5]), ([], []), ([7], [7]), ([6, 8, 4], [6, 8]), ([], []), ([10], [10]), ([], []), ([12], [12]), ([11, 13, 9], [11, 13]), ([4, 9, 14], [4, 9, 14]), ([15, 14], [15]), ([16, 16, 0, 1, 2, 3, 4, 5, 6, 7, 8, 9, 10, 11, 12, 13, 14, 15, 16], [16])])
def value_Compare.B1 : List Nat := [0, 1, 0, 4, 15, 0, 32, 0, 128, 511, 0, 1024, 0, 4096, 16383, 32767, 65535, 131071]
theorem value_Compare.tab1 : rtab .any (opsOf Tryd.f25 1) = value_Compare.T1 := by kernel_rfl
theorem value_Compare.bits1 : waitsOk value_Compare.T1.2 value_Compare.B1 = true := by kernel_rfl
set_option maxHeartbeats 8000000 in
set_option maxRecDepth 100000 in
theorem value_Compare.calls (k : Nat) (a0_0 : Int) (a0_1 : Int) (a0_2 : ByteArray) (a1_0 : Int) (a1_1 : Int) (a1_2 : ByteArray) (r : Int) (w : World) (h : value_Compare.f k a0_0 a0_1 a0_2 a1_0 a1_1 a1_2 = some r) :
    Calls Tryd.prog 25 #[.agg #[.int .i64 a0_0, .int .i64 a0_1, .string a0_2], .agg #[.int .i64 a1_0, .int .i64 a1_1, .string a1_2]] w fun e w' => e = .returned (.int .i64 r) ∧ Below w.heap.size w w' := by
  have hu37 := Tryd.underlying37
  have HB := Aside0.mk (Below.refl w.heap.size w)
  have H : ((cmp_Compare_int.f a0_0 a1_0).bind fun t343 => ((cmp_Compare_int.f a0_1 a1_1).bind fun t344 => ((strings_Compare.f a0_2 a1_2).bind fun t345 => ((cmp_Or_int.f k (([t343, t344, t345] : List Int))).bind fun t349 => (some t349))))) = some r := h
  clear h
  replace H := Option.bind_eq_some_iff.mp H
  obtain ⟨t343, A30, H⟩ := H
  replace H : ((cmp_Compare_int.f a0_1 a1_1).bind fun t344 => ((strings_Compare.f a0_2 a1_2).bind fun t345 => ((cmp_Or_int.f k (([t343, t344, t345] : List Int))).bind fun t349 => (some t349)))) = some r := H
  have A3 := Aside0.mk A30
  clear A30
  replace H := Option.bind_eq_some_iff.mp H
  obtain ⟨t344, A40, H⟩ := H
  replace H : ((strings_Compare.f a0_2 a1_2).bind fun t345 => ((cmp_Or_int.f k (([t343, t344, t345] : List Int))).bind fun t349 => (some t349))) = some r := H
  have A4 := Aside0.mk A40
  clear A40
  replace H := Option.bind_eq_some_iff.mp H
  obtain ⟨t345, A50, H⟩ := H
  replace H : ((cmp_Or_int.f k (([t343, t344, t345] : List Int))).bind fun t349 => (some t349)) = some r := H
  have A5 := Aside0.mk A50
  clear A50
  obtain ⟨y346, hy346⟩ : ∃ y_ : List Int, y_ = (([t343, t344, t345] : List Int)) := ⟨_, rfl⟩
  replace H : ((cmp_Or_int.f k y346).bind fun t349 => (some t349)) = some r := by first | (rw [hy346]; with_reducible exact H) | (have H2_ := (Option.bind_some _ _).symm.trans H; rw [hy346]; with_reducible exact H2_) | (have H2_ := (Option.bind_some _ _).symm.trans H; with_reducible exact H2_) | with_reducible exact H | (rw [hy346]; exact H) | exact H
  have Ny346 := Aside0.mk hy346
  clear hy346
  replace H := Option.bind_eq_some_iff.mp H
  obtain ⟨t349, A60, H⟩ := H
  replace H : (some t349) = some r := H
  have A6 := Aside0.mk A60
  clear A60
  obtain rfl := Option.some.inj H
  go_enter Tryd.func25, Tryd.ntmps25
  try go_wp2_with (first | ((with_reducible refine gate_dst (N := 2) rfl ?_); refine box_event ?hg (N := 2) ?hd (cs := #[.int .i64 a0_0, .int .i64 a0_1, .string a0_2]) (t := 37) ?hr ?_; (case hd => rfl); (case hg => rfl); (case hr => first | (go_simp; done) | (go_simp; rfl)); intro gb341 hg w7 hbox hb; have n0_ := Aside0.mk (below_step (by repeat (first | (with_reducible first | exact HB.out | apply below_alloc | apply pw_below_drewN | apply below_drew1) | exact HB.out)) hb); have n1_ := Aside0.mk (hbox); have n2_ := Aside0.mk ((by rw [hg]; exact (below_size (by repeat (first | (with_reducible first | exact HB.out | apply below_alloc | apply pw_below_drewN | apply below_drew1) | exact HB.out))) : w.heap.size ≤ gb341)); have n3_ := Aside0.mk ((by rw [hg]; exact (below_size (by repeat (first | (with_reducible first | exact HB.out | apply below_alloc | apply pw_below_drewN | apply below_drew1) | exact HB.out))) : w.heap.size ≤ gb341)); clear HB; have HB := n0_; have BK341 := n1_; have GW341 := n2_; have GE341 := n3_; clear n0_ n1_ n2_ n3_; clear hb hbox hg) | ((with_reducible refine gate_dst (N := 3) rfl ?_); refine box_event ?hg (N := 3) ?hd (cs := #[.int .i64 a1_0, .int .i64 a1_1, .string a1_2]) (t := 37) ?hr ?_; (case hd => rfl); (case hg => rfl); (case hr => first | (go_simp; done) | (go_simp; rfl)); intro gb342 hg w8 hbox hb; have n0_ := Aside0.mk (blk_below (g := gb341) (o := .cells #[.int .i64 a0_0, .int .i64 a0_1, .string a0_2] 37 (0, 0)) (by (with_reducible repeat (first | refine blk_drewN ?_ _ | refine blk_drew ?_ | refine blk_alloc ?_ _)); exact BK341.out) hb); have n1_ := Aside0.mk (below_step (by repeat (first | (with_reducible first | exact HB.out | apply below_alloc | apply pw_below_drewN | apply below_drew1 | refine below_set ?_ GE341.out) | exact HB.out)) hb); have n2_ := Aside0.mk (hbox); have n3_ := Aside0.mk ((by rw [hg]; exact (below_size (by repeat (first | (with_reducible first | exact HB.out | apply below_alloc | apply pw_below_drewN | apply below_drew1 | refine below_set ?_ GE341.out) | exact HB.out))) : w.heap.size ≤ gb342)); have n4_ := Aside0.mk ((by rw [hg]; exact (below_size (by repeat (first | (with_reducible first | exact HB.out | apply below_alloc | apply pw_below_drewN | apply below_drew1 | refine below_set ?_ GE341.out) | exact HB.out))) : w.heap.size ≤ gb342)); have n5_ := Aside0.mk ((by rw [hg]; exact Nat.ne_of_lt (blk_lt (g := gb341) (o := .cells #[.int .i64 a0_0, .int .i64 a0_1, .string a0_2] 37 (0, 0)) (by (with_reducible repeat (first | refine blk_drewN ?_ _ | refine blk_drew ?_ | refine blk_alloc ?_ _)); exact BK341.out)) : gb341 ≠ gb342)); have n6_ := Aside0.mk ((by rw [hg]; exact Nat.ne_of_gt (blk_lt (g := gb341) (o := .cells #[.int .i64 a0_0, .int .i64 a0_1, .string a0_2] 37 (0, 0)) (by (with_reducible repeat (first | refine blk_drewN ?_ _ | refine blk_drew ?_ | refine blk_alloc ?_ _)); exact BK341.out)) : gb342 ≠ gb341)); clear BK341; clear HB; have BK341 := n0_; have HB := n1_; have BK342 := n2_; have GW342 := n3_; have GE342 := n4_; have NB341_342 := n5_; have NB342_341 := n6_; clear n0_ n1_ n2_ n3_ n4_ n5_ n6_; clear hb hbox hg))
  have n0_ := Aside0.mk (blk_drew BK341.out)
  have n1_ := Aside0.mk (blk_drew BK342.out)
  have n2_ := Aside0.mk (below_drew1 HB.out)
  clear BK341
  clear BK342
  clear HB
  have BK341 := n0_
  have BK342 := n1_
  have HB := n2_
  clear n0_ n1_ n2_
  refine start_ (n := 18) (S := fun w' => w'.cell? ⟨gb341, 0, none⟩ = some (.int .i64 a0_0) ∧ w'.cell? ⟨gb341, 1, none⟩ = some (.int .i64 a0_1) ∧ w'.cell? ⟨gb341, 2, none⟩ = some (.string a0_2) ∧ w'.cell? ⟨gb342, 0, none⟩ = some (.int .i64 a1_0) ∧ w'.cell? ⟨gb342, 1, none⟩ = some (.int .i64 a1_1) ∧ w'.cell? ⟨gb342, 2, none⟩ = some (.string a1_2)) (ds := []) #[false, false, false, false, false, false, false, false, false, false, false, false, false, false, false, false, false, false] (by kernel_rfl) rfl rfl ⟨(blk_cell BK341.out 0).trans rfl, (blk_cell BK341.out 1).trans rfl, (blk_cell BK341.out 2).trans rfl, (blk_cell BK342.out 0).trans rfl, (blk_cell BK342.out 1).trans rfl, (blk_cell BK342.out 2).trans rfl⟩ (fun hHeld => ?_); refine with_tabW value_Compare.tab1 value_Compare.bits1 (fun HT_ HW_ => ?_)
  generalize w8.drew = w9 at BK341 BK342 HB hHeld ⊢
  refine pure_ (i := 0) (N := some 5) (v := ?_) (a' := ?_) #[true, false, false, false, false, false, false, false, false, false, false, false, false, false, false, false, false, false] rfl rfl (any_of HT_.out (by kernel_rfl)) (fun _ _ _ h => h) (Or.inl ⟨by rfl, ?_⟩) ?_ ?_
  rotate_left
  · intro w'
    go_simp
    with_reducible rfl
  rotate_left
  · simp only [Act.put, List.setIfInBounds_toArray, List.set_cons_zero, List.set_cons_succ, i64_w, i32_w]
    rfl
  refine pure_ (i := 2) (N := some 7) (v := ?_) (a' := ?_) #[true, false, true, false, false, false, false, false, false, false, false, false, false, false, false, false, false, false] rfl rfl (any_of HT_.out (by kernel_rfl)) (fun _ _ _ h => h) (Or.inl ⟨by rfl, ?_⟩) ?_ ?_
  rotate_left
  · intro w'
    go_simp
    with_reducible rfl
  rotate_left
  · simp only [Act.put, List.setIfInBounds_toArray, List.set_cons_zero, List.set_cons_succ, i64_w, i32_w]
    rfl
  refine pure_ (i := 5) (N := some 10) (v := ?_) (a' := ?_) #[true, false, true, false, false, true, false, false, false, false, false, false, false, false, false, false, false, false] rfl rfl (any_of HT_.out (by kernel_rfl)) (fun _ _ _ h => h) (Or.inl ⟨by rfl, ?_⟩) ?_ ?_
  rotate_left
  · intro w'
    go_simp
    with_reducible rfl
  rotate_left
  · simp only [Act.put, List.setIfInBounds_toArray, List.set_cons_zero, List.set_cons_succ, i64_w, i32_w]
    rfl
  refine pure_ (i := 7) (N := some 12) (v := ?_) (a' := ?_) #[true, false, true, false, false, true, false, true, false, false, false, false, false, false, false, false, false, false] rfl rfl (any_of HT_.out (by kernel_rfl)) (fun _ _ _ h => h) (Or.inl ⟨by rfl, ?_⟩) ?_ ?_
  rotate_left
  · intro w'
    go_simp
    with_reducible rfl
  rotate_left
  · simp only [Act.put, List.setIfInBounds_toArray, List.set_cons_zero, List.set_cons_succ, i64_w, i32_w]
    rfl
  refine pure_ (i := 10) (N := some 15) (v := ?_) (a' := ?_) #[true, false, true, false, false, true, false, true, false, false, true, false, false, false, false, false, false, false] rfl rfl (any_of HT_.out (by kernel_rfl)) (fun _ _ _ h => h) (Or.inl ⟨by rfl, ?_⟩) ?_ ?_
  rotate_left
  · intro w'
    go_simp
    with_reducible rfl
  rotate_left
  · simp only [Act.put, List.setIfInBounds_toArray, List.set_cons_zero, List.set_cons_succ, i64_w, i32_w]
    rfl
  refine pure_ (i := 12) (N := some 17) (v := ?_) (a' := ?_) #[true, false, true, false, false, true, false, true, false, false, true, false, true, false, false, false, false, false] rfl rfl (any_of HT_.out (by kernel_rfl)) (fun _ _ _ h => h) (Or.inl ⟨by rfl, ?_⟩) ?_ ?_
  rotate_left
  · intro w'
    go_simp
    with_reducible rfl
  rotate_left
  · simp only [Act.put, List.setIfInBounds_toArray, List.set_cons_zero, List.set_cons_succ, i64_w, i32_w]
    rfl
  refine take_ (i := 1) (N := some 6) (v := ?_) (a' := ?_) #[true, true, true, false, false, true, false, true, false, false, true, false, true, false, false, false, false, false] rfl rfl (take_ofW HT_.out HW_.out (by kernel_rfl)) (fun _ _ _ h => h) (Or.inl ⟨by rfl, ?_⟩) hHeld ?_ ?_
  rotate_left
  · rintro w' ⟨s0, s1, s2, s3, s4, s5⟩
    go_simp
    with_reducible rfl
  rotate_left
  · simp only [Act.put, List.setIfInBounds_toArray, List.set_cons_zero, List.set_cons_succ, i64_w, i32_w]
    rfl
  refine take_ (i := 3) (N := some 8) (v := ?_) (a' := ?_) #[true, true, true, true, false, true, false, true, false, false, true, false, true, false, false, false, false, false] rfl rfl (take_ofW HT_.out HW_.out (by kernel_rfl)) (fun _ _ _ h => h) (Or.inl ⟨by rfl, ?_⟩) hHeld ?_ ?_
  rotate_left
  · rintro w' ⟨s0, s1, s2, s3, s4, s5⟩
    go_simp
    with_reducible rfl
  rotate_left
  · simp only [Act.put, List.setIfInBounds_toArray, List.set_cons_zero, List.set_cons_succ, i64_w, i32_w]
    rfl
  refine take_ (i := 6) (N := some 11) (v := ?_) (a' := ?_) #[true, true, true, true, false, true, true, true, false, false, true, false, true, false, false, false, false, false] rfl rfl (take_ofW HT_.out HW_.out (by kernel_rfl)) (fun _ _ _ h => h) (Or.inl ⟨by rfl, ?_⟩) hHeld ?_ ?_
  rotate_left
  · rintro w' ⟨s0, s1, s2, s3, s4, s5⟩
    go_simp
    with_reducible rfl
  rotate_left
  · simp only [Act.put, List.setIfInBounds_toArray, List.set_cons_zero, List.set_cons_succ, i64_w, i32_w]
    rfl
  refine take_ (i := 8) (N := some 13) (v := ?_) (a' := ?_) #[true, true, true, true, false, true, true, true, true, false, true, false, true, false, false, false, false, false] rfl rfl (take_ofW HT_.out HW_.out (by kernel_rfl)) (fun _ _ _ h => h) (Or.inl ⟨by rfl, ?_⟩) hHeld ?_ ?_
  rotate_left
  · rintro w' ⟨s0, s1, s2, s3, s4, s5⟩
    go_simp
    with_reducible rfl
  rotate_left
  · simp only [Act.put, List.setIfInBounds_toArray, List.set_cons_zero, List.set_cons_succ, i64_w, i32_w]
    rfl
  refine take_ (i := 11) (N := some 16) (v := ?_) (a' := ?_) #[true, true, true, true, false, true, true, true, true, false, true, true, true, false, false, false, false, false] rfl rfl (take_ofW HT_.out HW_.out (by kernel_rfl)) (fun _ _ _ h => h) (Or.inl ⟨by rfl, ?_⟩) hHeld ?_ ?_
  rotate_left
  · rintro w' ⟨s0, s1, s2, s3, s4, s5⟩
    go_simp
    with_reducible rfl
  rotate_left
  · simp only [Act.put, List.setIfInBounds_toArray, List.set_cons_zero, List.set_cons_succ, i64_w, i32_w]
    rfl
  refine take_ (i := 13) (N := some 18) (v := ?_) (a' := ?_) #[true, true, true, true, false, true, true, true, true, false, true, true, true, true, false, false, false, false] rfl rfl (take_ofW HT_.out HW_.out (by kernel_rfl)) (fun _ _ _ h => h) (Or.inl ⟨by rfl, ?_⟩) hHeld ?_ ?_
  rotate_left
  · rintro w' ⟨s0, s1, s2, s3, s4, s5⟩
    go_simp
    with_reducible rfl
  rotate_left
  · simp only [Act.put, List.setIfInBounds_toArray, List.set_cons_zero, List.set_cons_succ, i64_w, i32_w]
    rfl
  refine one_ (i := 4) (N := some 9) #[true, true, true, true, true, true, true, true, true, false, true, true, true, true, false, false, false, false] rfl rfl (one_of HT_.out (by kernel_rfl)) (by decide) (fun K hK => ?_)
  refine goes_ Tryd.func36 (by kernel_rfl) rfl #[.int .i64 a0_0, .int .i64 a1_0] (by rfl) rfl rfl (by (try simp only [List.map_toArray, List.map_cons, List.map_nil]); first | done | rfl | (simp only [List.length_drop, List.length_take]; rfl)) ?_
  with_reducible refine (cmp_Compare_int.calls a0_0 a1_0 t343 _ A3.out).mono ?_
  rintro e w' ⟨rfl, ⟨nd, rfl⟩⟩
  refine ⟨_, rfl, ?_⟩
  refine hK.out _ _ ⟨(blk_cell BK341.out 0).trans rfl, (blk_cell BK341.out 1).trans rfl, (blk_cell BK341.out 2).trans rfl, (blk_cell BK342.out 0).trans rfl, (blk_cell BK342.out 1).trans rfl, (blk_cell BK342.out 2).trans rfl⟩ (fun hHeld => ?_)
  clear hK K
  refine norm_ (a' := ?_) ?_ ?_
  rotate_left
  · show Act.put _ (some 9) _ = _
    simp only [Act.put, List.setIfInBounds_toArray, List.set_cons_zero, List.set_cons_succ, i64_w, i32_w]
    rfl
  refine one_ (i := 9) (N := some 14) #[true, true, true, true, true, true, true, true, true, true, true, true, true, true, false, false, false, false] rfl rfl (one_of HT_.out (by kernel_rfl)) (by decide) (fun K hK => ?_)
  refine goes_ Tryd.func36 (by kernel_rfl) rfl #[.int .i64 a0_1, .int .i64 a1_1] (by rfl) rfl rfl (by (try simp only [List.map_toArray, List.map_cons, List.map_nil]); first | done | rfl | (simp only [List.length_drop, List.length_take]; rfl)) ?_
  with_reducible refine (cmp_Compare_int.calls a0_1 a1_1 t344 _ A4.out).mono ?_
  rintro e w' ⟨rfl, ⟨nd, rfl⟩⟩
  refine ⟨_, rfl, ?_⟩
  refine hK.out _ _ ⟨(blk_cell BK341.out 0).trans rfl, (blk_cell BK341.out 1).trans rfl, (blk_cell BK341.out 2).trans rfl, (blk_cell BK342.out 0).trans rfl, (blk_cell BK342.out 1).trans rfl, (blk_cell BK342.out 2).trans rfl⟩ (fun hHeld => ?_)
  clear hK K
  refine norm_ (a' := ?_) ?_ ?_
  rotate_left
  · show Act.put _ (some 14) _ = _
    simp only [Act.put, List.setIfInBounds_toArray, List.set_cons_zero, List.set_cons_succ, i64_w, i32_w]
    rfl
  refine one_ (i := 14) (N := some 19) #[true, true, true, true, true, true, true, true, true, true, true, true, true, true, true, false, false, false] rfl rfl (one_of HT_.out (by kernel_rfl)) (by decide) (fun K hK => ?_)
  refine goes_ Tryd.func37 (by kernel_rfl) rfl #[.string a0_2, .string a1_2] (by rfl) rfl rfl (by (try simp only [List.map_toArray, List.map_cons, List.map_nil]); first | done | rfl | (simp only [List.length_drop, List.length_take]; rfl)) ?_
  with_reducible refine (strings_Compare.calls a0_2 a1_2 t345 _ A5.out).mono ?_
  rintro e w10 ⟨rfl, hb⟩
  refine ⟨_, rfl, ?_⟩
  have n0_ := Aside0.mk (blk_below (g := gb341) (o := .cells #[.int .i64 a0_0, .int .i64 a0_1, .string a0_2] 37 (0, 0)) (by (with_reducible repeat (first | refine blk_drewN ?_ _ | refine blk_drew ?_ | refine blk_alloc ?_ _)); exact BK341.out) hb)
  have n1_ := Aside0.mk (blk_below (g := gb342) (o := .cells #[.int .i64 a1_0, .int .i64 a1_1, .string a1_2] 37 (0, 0)) (by (with_reducible repeat (first | refine blk_drewN ?_ _ | refine blk_drew ?_ | refine blk_alloc ?_ _)); exact BK342.out) hb)
  have n2_ := Aside0.mk (below_step (by repeat (first | (with_reducible first | exact HB.out | apply below_alloc | apply pw_below_drewN | apply below_drew1 | refine below_set ?_ GE341.out | refine below_set ?_ GE342.out) | exact HB.out)) hb)
  clear BK341
  clear BK342
  clear HB
  have BK341 := n0_
  have BK342 := n1_
  have HB := n2_
  clear n0_ n1_ n2_
  (try clear hb)
  (try clear hb2)
  (try clear hk)
  (try clear hi)
  refine hK.out _ _ ⟨(blk_cell BK341.out 0).trans rfl, (blk_cell BK341.out 1).trans rfl, (blk_cell BK341.out 2).trans rfl, (blk_cell BK342.out 0).trans rfl, (blk_cell BK342.out 1).trans rfl, (blk_cell BK342.out 2).trans rfl⟩ (fun hHeld => ?_)
  clear hK K
  refine norm_ (a' := ?_) ?_ ?_
  rotate_left
  · show Act.put _ (some 19) _ = _
    simp only [Act.put, List.setIfInBounds_toArray, List.set_cons_zero, List.set_cons_succ, i64_w, i32_w]
    rfl
  refine one_ (i := 15) (N := some 20) #[true, true, true, true, true, true, true, true, true, true, true, true, true, true, true, true, false, false] rfl rfl (one_of HT_.out (by kernel_rfl)) (by decide) (fun K hK => ?_)
  refine Kd.R_lit_step (Kd.int .i64) _ 3 ?hg (N := 20) ?hd (xs := ([t343, t344, t345] : List Int)) (inner := [.int .i64 t343, .int .i64 t344, .int .i64 t345]) (ok := fun _ => True) (okp := fun _ => True) ?hr ?hp (fun _ hk => hk) trivial (Below.refl _ _) (Nat.le_refl _) (by simp) ?_; (case hd => rfl); (case hg => rfl); (case hr => first | (go_simp; done) | (go_simp; rfl)); (case hp => exact (Reps.one (show Kd.M (Kd.int .i64) _ _ _ t343 [.int .i64 t343] from rfl) (Reps.one (show Kd.M (Kd.int .i64) _ _ _ t344 [.int .i64 t344] from rfl) (Reps.one (show Kd.M (Kd.int .i64) _ _ _ t345 [.int .i64 t345] from rfl) (Reps.none _ _)))))
  intro v347 w11 ho12 hb hg_ hnew_
  clear hg_ hnew_
  (first | rw [← Ny346.out] at ho12 | (simp only [Int.reduceToNat] at ho12; rw [← Ny346.out] at ho12))
  have n0_ := Aside0.mk (Kd.R_lower ho12 (below_size (by repeat (first | (with_reducible first | exact HB.out | apply below_alloc | apply pw_below_drewN | apply below_drew1 | refine below_set ?_ GE341.out | refine below_set ?_ GE342.out) | exact HB.out))))
  have n1_ := Aside0.mk (blk_below (g := gb341) (o := .cells #[.int .i64 a0_0, .int .i64 a0_1, .string a0_2] 37 (0, 0)) (by (with_reducible repeat (first | refine blk_drewN ?_ _ | refine blk_drew ?_ | refine blk_alloc ?_ _)); exact BK341.out) hb)
  have n2_ := Aside0.mk (blk_below (g := gb342) (o := .cells #[.int .i64 a1_0, .int .i64 a1_1, .string a1_2] 37 (0, 0)) (by (with_reducible repeat (first | refine blk_drewN ?_ _ | refine blk_drew ?_ | refine blk_alloc ?_ _)); exact BK342.out) hb)
  have n3_ := Aside0.mk (below_step (by repeat (first | (with_reducible first | exact HB.out | apply below_alloc | apply pw_below_drewN | apply below_drew1 | refine below_set ?_ GE341.out | refine below_set ?_ GE342.out) | exact HB.out)) hb)
  clear BK341
  clear BK342
  clear HB
  have HO348 := n0_
  have BK341 := n1_
  have BK342 := n2_
  have HB := n3_
  clear n0_ n1_ n2_ n3_
  clear hb ho12
  obtain ⟨Ao13, co13, eo13⟩ := Kd.R_slice HO348.out
  (first | subst eo13 | (injection eo13 with f1_ f2_ f3_; have f4_ := f1_.symm; have f5_ := f3_.symm; clear f1_ f2_ f3_; subst f4_; subst f5_))
  refine hK.out _ _ ⟨(blk_cell BK341.out 0).trans rfl, (blk_cell BK341.out 1).trans rfl, (blk_cell BK341.out 2).trans rfl, (blk_cell BK342.out 0).trans rfl, (blk_cell BK342.out 1).trans rfl, (blk_cell BK342.out 2).trans rfl⟩ (fun hHeld => ?_)
  clear hK K
  refine norm_ (a' := ?_) ?_ ?_
  rotate_left
  · show Act.put _ (some 20) _ = _
    simp only [Act.put, List.setIfInBounds_toArray, List.set_cons_zero, List.set_cons_succ, i64_w, i32_w]
    rfl
  refine one_ (i := 16) (N := some 21) #[true, true, true, true, true, true, true, true, true, true, true, true, true, true, true, true, true, false] rfl rfl (one_of HT_.out (by kernel_rfl)) (by decide) (fun K hK => ?_)
  refine goes_ Tryd.func35 (by kernel_rfl) rfl #[.slice Ao13 y346.length co13] (by rfl) rfl rfl (by (try simp only [List.map_toArray, List.map_cons, List.map_nil]); first | done | rfl | (simp only [List.length_drop, List.length_take]; rfl)) ?_
  with_reducible refine (cmp_Or_int.calls k _ _ y346 t349 _ ?side1 ?side2 A6.out).mono ?_
  (case side1 => repeat (first | exact (Kd.R_reads' HO348.out).2.2 | (with_reducible refine Kd.C_alloc ?_ _) | (with_reducible refine Kd.C_drewN ?_ _) | (with_reducible refine Kd.C_drew ?_)))
  (case side2 => exact (Kd.R_reads' HO348.out).2.1)
  rintro e w' ⟨rfl, ⟨nd, rfl⟩⟩
  refine ⟨_, rfl, ?_⟩
  refine hK.out _ _ ⟨(blk_cell BK341.out 0).trans rfl, (blk_cell BK341.out 1).trans rfl, (blk_cell BK341.out 2).trans rfl, (blk_cell BK342.out 0).trans rfl, (blk_cell BK342.out 1).trans rfl, (blk_cell BK342.out 2).trans rfl⟩ (fun hHeld => ?_)
  clear hK K
  refine norm_ (a' := ?_) ?_ ?_
  rotate_left
  · show Act.put _ (some 21) _ = _
    simp only [Act.put, List.setIfInBounds_toArray, List.set_cons_zero, List.set_cons_succ, i64_w, i32_w]
    rfl
  refine pure_ (i := 17) (N := some 4) (v := ?_) (a' := ?_) #[true, true, true, true, true, true, true, true, true, true, true, true, true, true, true, true, true, true] rfl rfl (any_of HT_.out (by kernel_rfl)) (fun _ _ _ h => h) (Or.inl ⟨by rfl, ?_⟩) ?_ ?_
  rotate_left
  · intro w'
    go_simp
    with_reducible rfl
  rotate_left
  · simp only [Act.put, List.setIfInBounds_toArray, List.set_cons_zero, List.set_cons_succ, i64_w, i32_w]
    rfl
  refine done_ (done_of HT_.out (by kernel_rfl)) ?_
  try go_wp2
  go_ret
  exact ⟨by first | rfl | (simp [errW_none, errW_some] <;> rfl) | (simp [*, errW_none, errW_some] <;> rfl), by repeat (first | (with_reducible first | exact HB.out | apply below_alloc | apply pw_below_drewN | apply below_drew1 | refine below_set ?_ GE341.out | refine below_set ?_ GE342.out) | exact HB.out)⟩

end Go.Proofs.YtblaibigjhlblaaDoor.Q
end

section
-- written by hprint.py (a program of these sessions) out of the translation; Lean checks it
namespace Go.Proofs.YtblaibigjhlblaaDoor.Q
open Go.RowKit Go.Proofs.YtblaibigjhlblaaDoorW.Hb Go.Proofs.YtblaibigjhlblaaDoorW.PrintWords Go.Proofs.YtblaibigjhlblaaDoorW.PrintLast Go.Proofs.YtblaibigjhlblaaDoorW.PrintMore
attribute [local go_sem] max2_int min2_int max_two min_two max_three min_three max_four min_four   -- for this text's walks alone
set_option linter.unusedVariables false
set_option linter.unusedSimpArgs false

/-! ### weighhouseref02_Compare: function 26, by hand -/
def weighhouseref02_Compare.f (a0_0 : Int) (a0_1 : Int) (a0_2 : ByteArray) (a1_0 : Int) (a1_1 : Int) (a1_2 : ByteArray) : Option (Int) := some (if a0_0 < a1_0 then -1 else if a1_0 < a0_0 then 1 else if a0_1 < a1_1 then -1 else if a1_1 < a0_1 then 1 else if Op.bytesLess a0_2.toList a1_2.toList = true then -1 else if (a0_2.toList == a1_2.toList) = false then 1 else 0)
set_option maxRecDepth 100000 in
set_option maxHeartbeats 4000000 in
theorem weighhouseref02_Compare.calls (a0_0 : Int) (a0_1 : Int) (a0_2 : ByteArray) (a1_0 : Int) (a1_1 : Int) (a1_2 : ByteArray) (r : Int) (w : World) (h : weighhouseref02_Compare.f a0_0 a0_1 a0_2 a1_0 a1_1 a1_2 = some r) :
    Calls Tryd.prog 26 #[.agg #[.int .i64 a0_0, .int .i64 a0_1, .string a0_2], .agg #[.int .i64 a1_0, .int .i64 a1_1, .string a1_2]] w fun e w' => e = .returned (.int .i64 r) ∧ Below w.heap.size w w' := by
  have HB := Aside0.mk (fun (o1 o2 : Obj) => (((Below.refl w.heap.size w).alloc (Nat.le_refl _) o1).alloc (by simp) o2))
  have H := Aside0.mk h
  unfold weighhouseref02_Compare.f at h
  by_cases h0 : a0_0 < a1_0
  · rw [if_pos h0] at h
    obtain rfl := Option.some.inj h
    clear h H
    have d0 : decide (a0_0 < a1_0) = true := decide_eq_true h0
    clear h0
    go_enter Tryd.func26, Tryd.ntmps26
    go_wp2
    go_ret
    exact ⟨rfl, HB.out _ _⟩
  rw [if_neg h0] at h
  have d0 : decide (a0_0 < a1_0) = false := decide_eq_false h0
  clear h0
  by_cases h1 : a1_0 < a0_0
  · rw [if_pos h1] at h
    obtain rfl := Option.some.inj h
    clear h H
    have d1 : decide (a1_0 < a0_0) = true := decide_eq_true h1
    clear h1
    go_enter Tryd.func26, Tryd.ntmps26
    go_wp2
    go_ret
    exact ⟨rfl, HB.out _ _⟩
  rw [if_neg h1] at h
  have d1 : decide (a1_0 < a0_0) = false := decide_eq_false h1
  clear h1
  by_cases h2 : a0_1 < a1_1
  · rw [if_pos h2] at h
    obtain rfl := Option.some.inj h
    clear h H
    have d2 : decide (a0_1 < a1_1) = true := decide_eq_true h2
    clear h2
    go_enter Tryd.func26, Tryd.ntmps26
    go_wp2
    go_ret
    exact ⟨rfl, HB.out _ _⟩
  rw [if_neg h2] at h
  have d2 : decide (a0_1 < a1_1) = false := decide_eq_false h2
  clear h2
  by_cases h3 : a1_1 < a0_1
  · rw [if_pos h3] at h
    obtain rfl := Option.some.inj h
    clear h H
    have d3 : decide (a1_1 < a0_1) = true := decide_eq_true h3
    clear h3
    go_enter Tryd.func26, Tryd.ntmps26
    go_wp2
    go_ret
    exact ⟨rfl, HB.out _ _⟩
  rw [if_neg h3] at h
  have d3 : decide (a1_1 < a0_1) = false := decide_eq_false h3
  clear h3
  by_cases h4 : Op.bytesLess a0_2.toList a1_2.toList = true
  · rw [if_pos h4] at h
    obtain rfl := Option.some.inj h
    clear h H
    go_enter Tryd.func26, Tryd.ntmps26
    go_wp2
    go_ret
    exact ⟨rfl, HB.out _ _⟩
  rw [if_neg h4] at h
  have d4 : Op.bytesLess a0_2.toList a1_2.toList = false := by simpa using h4
  clear h4
  by_cases h5 : (a0_2.toList == a1_2.toList) = false
  · rw [if_pos h5] at h
    obtain rfl := Option.some.inj h
    clear h H
    go_enter Tryd.func26, Tryd.ntmps26
    go_wp2
    go_ret
    exact ⟨rfl, HB.out _ _⟩
  rw [if_neg h5] at h
  have d5 : (a0_2.toList == a1_2.toList) = true := by simpa using h5
  clear h5
  obtain rfl := Option.some.inj h
  clear h H
  go_enter Tryd.func26, Tryd.ntmps26
  go_wp2
  go_ret
  exact ⟨rfl, HB.out _ _⟩


end Go.Proofs.YtblaibigjhlblaaDoor.Q
end

section
-- written by hprint.py (a program of these sessions) out of the translation; Lean checks it
namespace Go.Proofs.YtblaibigjhlblaaDoor.Q
open Go.RowKit Go.Proofs.YtblaibigjhlblaaDoorW.Hb Go.Proofs.YtblaibigjhlblaaDoorW.PrintWords Go.Proofs.YtblaibigjhlblaaDoorW.PrintLast Go.Proofs.YtblaibigjhlblaaDoorW.PrintMore
attribute [local go_sem] max2_int min2_int max_two min_two max_three min_three max_four min_four   -- for this text's walks alone
set_option linter.unusedVariables false
set_option linter.unusedSimpArgs false

/-! ### weighhouselaw02_ValueOrder: function 6, by hand -/
/-- What the law asks of three values. -/
def OrdOk (a0_0 : Int) (a0_1 : Int) (a0_2 : ByteArray) (a1_0 : Int) (a1_1 : Int) (a1_2 : ByteArray) (a2_0 : Int) (a2_1 : Int) (a2_2 : ByteArray) : Prop :=
  ∃ (k : Nat) (ab bc ac : Int), value_Compare.f k a0_0 a0_1 a0_2 a1_0 a1_1 a1_2 = some ab ∧ value_Compare.f k a1_0 a1_1 a1_2 a2_0 a2_1 a2_2 = some bc ∧ value_Compare.f k a0_0 a0_1 a0_2 a2_0 a2_1 a2_2 = some ac
    ∧ weighhouseref02_Compare.f a0_0 a0_1 a0_2 a1_0 a1_1 a1_2 = some ab ∧ value_Compare.f k a1_0 a1_1 a1_2 a0_0 a0_1 a0_2 = some (wrap64 (-ab))
    ∧ weighhouselaw02_Same.f k [⟨a0_0, a0_1, a0_2⟩] [⟨a1_0, a1_1, a1_2⟩] = some (ab == 0) ∧ weighhouselaw02_knows.f k = some true
    ∧ (0 < ab ∨ 0 < bc ∨ ac ≤ 0) ∧ (ab < 0 ∨ bc < 0 ∨ 0 ≤ ac)
open Classical in
noncomputable def weighhouselaw02_ValueOrder.f (a0_0 : Int) (a0_1 : Int) (a0_2 : ByteArray) (a1_0 : Int) (a1_1 : Int) (a1_2 : ByteArray) (a2_0 : Int) (a2_1 : Int) (a2_2 : ByteArray) : Option Bool := if OrdOk a0_0 a0_1 a0_2 a1_0 a1_1 a1_2 a2_0 a2_1 a2_2 then some true else none
theorem C_oneV (W : World) (x0 x1 : Int) (x2 : ByteArray) : k37.C (W.alloc (.cells #[.int .i64 x0, .int .i64 x1, .string x2] 37)) (some ⟨W.heap.size, 0, none⟩) 1 [⟨x0, x1, x2⟩] :=
  C_of_reps (d := k37) (Blk.new W 37 _) [⟨x0, x1, x2⟩] (Reps_one (c := [.int .i64 x0, .int .i64 x1, .string x2]) (k37_mk _ ⟨x0, x1, x2⟩) rfl) (by simp)
set_option maxRecDepth 100000 in
set_option maxHeartbeats 8000000 in
theorem weighhouselaw02_ValueOrder.calls (a0_0 : Int) (a0_1 : Int) (a0_2 : ByteArray) (a1_0 : Int) (a1_1 : Int) (a1_2 : ByteArray) (a2_0 : Int) (a2_1 : Int) (a2_2 : ByteArray) (r : Bool) (w : World) (h : weighhouselaw02_ValueOrder.f a0_0 a0_1 a0_2 a1_0 a1_1 a1_2 a2_0 a2_1 a2_2 = some r) (hV : VarsOk w) :
    Calls Tryd.prog 6 #[.agg #[.int .i64 a0_0, .int .i64 a0_1, .string a0_2], .agg #[.int .i64 a1_0, .int .i64 a1_1, .string a1_2], .agg #[.int .i64 a2_0, .int .i64 a2_1, .string a2_2]] w fun e w' => e = .returned (.bool r) ∧ Below w.heap.size w w' := by
  unfold weighhouselaw02_ValueOrder.f at h
  by_cases hc : OrdOk a0_0 a0_1 a0_2 a1_0 a1_1 a1_2 a2_0 a2_1 a2_2
  case neg => rw [if_neg hc] at h; cases h
  rw [if_pos hc] at h
  obtain rfl := Option.some.inj h
  clear h
  obtain ⟨k, ab, bc, ac, h1, h2, h3, h4, h5, h6, h7, h8, h9⟩ := hc
  have H1 := Aside0.mk h1
  have H2 := Aside0.mk h2
  have H3 := Aside0.mk h3
  have H4 := Aside0.mk h4
  have H5 := Aside0.mk h5
  have H6 := Aside0.mk h6
  have H7 := Aside0.mk h7
  have H8 := Aside0.mk h8
  have H9 := Aside0.mk h9
  have HV := Aside0.mk hV
  clear h1 h2 h3 h4 h5 h6 h7 h8 h9 hV
  have HB := Aside0.mk ((((Below.refl w.heap.size w).alloc (Nat.le_refl _) (.cells #[.int .i64 a0_0, .int .i64 a0_1, .string a0_2] 37)).alloc (by simp) (.cells #[.int .i64 a1_0, .int .i64 a1_1, .string a1_2] 37)).alloc (by simp; omega) (.cells #[.int .i64 a2_0, .int .i64 a2_1, .string a2_2] 37))
  have HA0 := Aside0.mk (((Blk.new w 37 #[.int .i64 a0_0, .int .i64 a0_1, .string a0_2]).alloc (.cells #[.int .i64 a1_0, .int .i64 a1_1, .string a1_2] 37)).alloc (.cells #[.int .i64 a2_0, .int .i64 a2_1, .string a2_2] 37))
  have HA1 := Aside0.mk ((Blk.new (w.alloc (.cells #[.int .i64 a0_0, .int .i64 a0_1, .string a0_2] 37)) 37 #[.int .i64 a1_0, .int .i64 a1_1, .string a1_2]).alloc (.cells #[.int .i64 a2_0, .int .i64 a2_1, .string a2_2] 37))
  have HA2 := Aside0.mk (Blk.new ((w.alloc (.cells #[.int .i64 a0_0, .int .i64 a0_1, .string a0_2] 37)).alloc (.cells #[.int .i64 a1_0, .int .i64 a1_1, .string a1_2] 37)) 37 #[.int .i64 a2_0, .int .i64 a2_1, .string a2_2])
  go_enter Tryd.func6, Tryd.ntmps6
  go_upto_region 1 with (fail)
  have z1 : (w.alloc (.cells #[.int .i64 a0_0, .int .i64 a0_1, .string a0_2] 37)).heap.size = w.heap.size + 1 := by simp
  have z2 : ((w.alloc (.cells #[.int .i64 a0_0, .int .i64 a0_1, .string a0_2] 37)).alloc (.cells #[.int .i64 a1_0, .int .i64 a1_1, .string a1_2] 37)).heap.size = w.heap.size + 1 + 1 := by simp
  rw [z1] at HA1
  rw [z2] at HA2
  clear z1 z2
  generalize (((w.alloc (.cells #[.int .i64 a0_0, .int .i64 a0_1, .string a0_2] 37)).alloc (.cells #[.int .i64 a1_0, .int .i64 a1_1, .string a1_2] 37)).alloc (.cells #[.int .i64 a2_0, .int .i64 a2_1, .string a2_2] 37)) = w1 at HB HA0 HA1 HA2 ⊢
  generalize hg2 : w.heap.size + 1 + 1 = g2 at HA2 ⊢
  generalize hg1 : w.heap.size + 1 = g1 at HA1 hg2 ⊢
  clear hg1 hg2
  have q00 : w1.cell? ⟨w.heap.size, 0, none⟩ = some (.int .i64 a0_0) := HA0.out.cell 0
  have q01 : w1.cell? ⟨w.heap.size, 1, none⟩ = some (.int .i64 a0_1) := HA0.out.cell 1
  have q02 : w1.cell? ⟨w.heap.size, 2, none⟩ = some (.string a0_2) := HA0.out.cell 2
  have q10 : w1.cell? ⟨g1, 0, none⟩ = some (.int .i64 a1_0) := HA1.out.cell 0
  have q11 : w1.cell? ⟨g1, 1, none⟩ = some (.int .i64 a1_1) := HA1.out.cell 1
  have q12 : w1.cell? ⟨g1, 2, none⟩ = some (.string a1_2) := HA1.out.cell 2
  have q20 : w1.cell? ⟨g2, 0, none⟩ = some (.int .i64 a2_0) := HA2.out.cell 0
  have q21 : w1.cell? ⟨g2, 1, none⟩ = some (.int .i64 a2_1) := HA2.out.cell 1
  have q22 : w1.cell? ⟨g2, 2, none⟩ = some (.string a2_2) := HA2.out.cell 2
  go_upto_region 2 with (go_at_call 25; (with_reducible refine (value_Compare.calls k a0_0 a0_1 a0_2 a1_0 a1_1 a1_2 ab w1 H1.out).mono ?_); rintro e w2 ⟨rfl, hb⟩; have n0 := Aside0.mk (HA0.out.after hb); have n1 := Aside0.mk (HA1.out.after hb); have n2 := Aside0.mk (HA2.out.after hb); have n3 := Aside0.mk (HB.out.trans (hb.mono HB.out.size)); clear q00 q01 q02 q10 q11 q12 q20 q21 q22; clear HA0 HA1 HA2 HB; have HA0 := n0; have HA1 := n1; have HA2 := n2; have HB := n3; clear n0 n1 n2 n3 hb; have q00 : w2.cell? ⟨w.heap.size, 0, none⟩ = some (.int .i64 a0_0) := HA0.out.cell 0; have q01 : w2.cell? ⟨w.heap.size, 1, none⟩ = some (.int .i64 a0_1) := HA0.out.cell 1; have q02 : w2.cell? ⟨w.heap.size, 2, none⟩ = some (.string a0_2) := HA0.out.cell 2; have q10 : w2.cell? ⟨g1, 0, none⟩ = some (.int .i64 a1_0) := HA1.out.cell 0; have q11 : w2.cell? ⟨g1, 1, none⟩ = some (.int .i64 a1_1) := HA1.out.cell 1; have q12 : w2.cell? ⟨g1, 2, none⟩ = some (.string a1_2) := HA1.out.cell 2; have q20 : w2.cell? ⟨g2, 0, none⟩ = some (.int .i64 a2_0) := HA2.out.cell 0; have q21 : w2.cell? ⟨g2, 1, none⟩ = some (.int .i64 a2_1) := HA2.out.cell 1; have q22 : w2.cell? ⟨g2, 2, none⟩ = some (.string a2_2) := HA2.out.cell 2)
  go_upto_region 3 with (go_at_call 25; (with_reducible refine (value_Compare.calls k a1_0 a1_1 a1_2 a2_0 a2_1 a2_2 bc w2 H2.out).mono ?_); rintro e w3 ⟨rfl, hb⟩; have n0 := Aside0.mk (HA0.out.after hb); have n1 := Aside0.mk (HA1.out.after hb); have n2 := Aside0.mk (HA2.out.after hb); have n3 := Aside0.mk (HB.out.trans (hb.mono HB.out.size)); clear q00 q01 q02 q10 q11 q12 q20 q21 q22; clear HA0 HA1 HA2 HB; have HA0 := n0; have HA1 := n1; have HA2 := n2; have HB := n3; clear n0 n1 n2 n3 hb; have q00 : w3.cell? ⟨w.heap.size, 0, none⟩ = some (.int .i64 a0_0) := HA0.out.cell 0; have q01 : w3.cell? ⟨w.heap.size, 1, none⟩ = some (.int .i64 a0_1) := HA0.out.cell 1; have q02 : w3.cell? ⟨w.heap.size, 2, none⟩ = some (.string a0_2) := HA0.out.cell 2; have q10 : w3.cell? ⟨g1, 0, none⟩ = some (.int .i64 a1_0) := HA1.out.cell 0; have q11 : w3.cell? ⟨g1, 1, none⟩ = some (.int .i64 a1_1) := HA1.out.cell 1; have q12 : w3.cell? ⟨g1, 2, none⟩ = some (.string a1_2) := HA1.out.cell 2; have q20 : w3.cell? ⟨g2, 0, none⟩ = some (.int .i64 a2_0) := HA2.out.cell 0; have q21 : w3.cell? ⟨g2, 1, none⟩ = some (.int .i64 a2_1) := HA2.out.cell 1; have q22 : w3.cell? ⟨g2, 2, none⟩ = some (.string a2_2) := HA2.out.cell 2)
  go_upto_region 4 with (go_at_call 25; (with_reducible refine (value_Compare.calls k a0_0 a0_1 a0_2 a2_0 a2_1 a2_2 ac w3 H3.out).mono ?_); rintro e w4 ⟨rfl, hb⟩; have n0 := Aside0.mk (HA0.out.after hb); have n1 := Aside0.mk (HA1.out.after hb); have n2 := Aside0.mk (HA2.out.after hb); have n3 := Aside0.mk (HB.out.trans (hb.mono HB.out.size)); clear q00 q01 q02 q10 q11 q12 q20 q21 q22; clear HA0 HA1 HA2 HB; have HA0 := n0; have HA1 := n1; have HA2 := n2; have HB := n3; clear n0 n1 n2 n3 hb; have q00 : w4.cell? ⟨w.heap.size, 0, none⟩ = some (.int .i64 a0_0) := HA0.out.cell 0; have q01 : w4.cell? ⟨w.heap.size, 1, none⟩ = some (.int .i64 a0_1) := HA0.out.cell 1; have q02 : w4.cell? ⟨w.heap.size, 2, none⟩ = some (.string a0_2) := HA0.out.cell 2; have q10 : w4.cell? ⟨g1, 0, none⟩ = some (.int .i64 a1_0) := HA1.out.cell 0; have q11 : w4.cell? ⟨g1, 1, none⟩ = some (.int .i64 a1_1) := HA1.out.cell 1; have q12 : w4.cell? ⟨g1, 2, none⟩ = some (.string a1_2) := HA1.out.cell 2; have q20 : w4.cell? ⟨g2, 0, none⟩ = some (.int .i64 a2_0) := HA2.out.cell 0; have q21 : w4.cell? ⟨g2, 1, none⟩ = some (.int .i64 a2_1) := HA2.out.cell 1; have q22 : w4.cell? ⟨g2, 2, none⟩ = some (.string a2_2) := HA2.out.cell 2)
  have HS := Aside0.mk (show ∀ W : World, Calls Tryd.prog 12 #[.slice (some ⟨W.heap.size, 0, none⟩) 1 1, .slice (some ⟨W.heap.size + 1, 0, none⟩) 1 1] ((W.alloc (.cells #[.int .i64 a0_0, .int .i64 a0_1, .string a0_2] 37)).alloc (.cells #[.int .i64 a1_0, .int .i64 a1_1, .string a1_2] 37)) fun e w' => e = .returned (.bool (ab == 0)) ∧ Drawn0 ((W.alloc (.cells #[.int .i64 a0_0, .int .i64 a0_1, .string a0_2] 37)).alloc (.cells #[.int .i64 a1_0, .int .i64 a1_1, .string a1_2] 37)) w' from fun W => by
    have c1 := Kd.C_alloc (C_oneV W a0_0 a0_1 a0_2) (.cells #[.int .i64 a1_0, .int .i64 a1_1, .string a1_2] 37)
    have c2 := C_oneV (W.alloc (.cells #[.int .i64 a0_0, .int .i64 a0_1, .string a0_2] 37)) a1_0 a1_1 a1_2
    have e : (W.alloc (.cells #[.int .i64 a0_0, .int .i64 a0_1, .string a0_2] 37)).heap.size = W.heap.size + 1 := by simp
    rw [e] at c2
    exact weighhouselaw02_Same.calls k (some ⟨W.heap.size, 0, none⟩) 1 [⟨a0_0, a0_1, a0_2⟩] (some ⟨W.heap.size + 1, 0, none⟩) 1 [⟨a1_0, a1_1, a1_2⟩] (ab == 0) _ c1 (Nat.le_refl 1) c2 (Nat.le_refl 1) H6.out)
  rcases (by omega : ab < 0 ∨ ab = 0 ∨ 0 < ab) with hs | hs | hs
  · have e0 : (ab == 0) = false := by (have : ab ≠ 0 := by omega); simp [this]
    have e1 : decide (ab > 0) = false := by simp; omega
    have e2 : decide (ab < 0) = true := by simp; omega
    have e3 : (ab != ab) = false := by simp
    have e4 : (wrap64 (-ab) != wrap64 (-ab)) = false := by simp
    rw [e0] at HS
    go_upto_region 6 with (first | (go_at_call 26; (with_reducible refine (weighhouseref02_Compare.calls a0_0 a0_1 a0_2 a1_0 a1_1 a1_2 ab w4 H4.out).mono ?_); rintro e w5 ⟨rfl, hb⟩; have n0 := Aside0.mk (HA0.out.after hb); have n1 := Aside0.mk (HA1.out.after hb); have n2 := Aside0.mk (HA2.out.after hb); have n3 := Aside0.mk (HB.out.trans (hb.mono HB.out.size)); clear q00 q01 q02 q10 q11 q12 q20 q21 q22; clear HA0 HA1 HA2 HB; have HA0 := n0; have HA1 := n1; have HA2 := n2; have HB := n3; clear n0 n1 n2 n3 hb; have q00 : w5.cell? ⟨w.heap.size, 0, none⟩ = some (.int .i64 a0_0) := HA0.out.cell 0; have q01 : w5.cell? ⟨w.heap.size, 1, none⟩ = some (.int .i64 a0_1) := HA0.out.cell 1; have q02 : w5.cell? ⟨w.heap.size, 2, none⟩ = some (.string a0_2) := HA0.out.cell 2; have q10 : w5.cell? ⟨g1, 0, none⟩ = some (.int .i64 a1_0) := HA1.out.cell 0; have q11 : w5.cell? ⟨g1, 1, none⟩ = some (.int .i64 a1_1) := HA1.out.cell 1; have q12 : w5.cell? ⟨g1, 2, none⟩ = some (.string a1_2) := HA1.out.cell 2; have q20 : w5.cell? ⟨g2, 0, none⟩ = some (.int .i64 a2_0) := HA2.out.cell 0; have q21 : w5.cell? ⟨g2, 1, none⟩ = some (.int .i64 a2_1) := HA2.out.cell 1; have q22 : w5.cell? ⟨g2, 2, none⟩ = some (.string a2_2) := HA2.out.cell 2) | (go_at_call 25; (with_reducible refine (value_Compare.calls k a1_0 a1_1 a1_2 a0_0 a0_1 a0_2 (wrap64 (-ab)) w5 H5.out).mono ?_); rintro e w6 ⟨rfl, hb⟩; have n0 := Aside0.mk (HA0.out.after hb); have n1 := Aside0.mk (HA1.out.after hb); have n2 := Aside0.mk (HA2.out.after hb); have n3 := Aside0.mk (HB.out.trans (hb.mono HB.out.size)); clear q00 q01 q02 q10 q11 q12 q20 q21 q22; clear HA0 HA1 HA2 HB; have HA0 := n0; have HA1 := n1; have HA2 := n2; have HB := n3; clear n0 n1 n2 n3 hb; have q00 : w6.cell? ⟨w.heap.size, 0, none⟩ = some (.int .i64 a0_0) := HA0.out.cell 0; have q01 : w6.cell? ⟨w.heap.size, 1, none⟩ = some (.int .i64 a0_1) := HA0.out.cell 1; have q02 : w6.cell? ⟨w.heap.size, 2, none⟩ = some (.string a0_2) := HA0.out.cell 2; have q10 : w6.cell? ⟨g1, 0, none⟩ = some (.int .i64 a1_0) := HA1.out.cell 0; have q11 : w6.cell? ⟨g1, 1, none⟩ = some (.int .i64 a1_1) := HA1.out.cell 1; have q12 : w6.cell? ⟨g1, 2, none⟩ = some (.string a1_2) := HA1.out.cell 2; have q20 : w6.cell? ⟨g2, 0, none⟩ = some (.int .i64 a2_0) := HA2.out.cell 0; have q21 : w6.cell? ⟨g2, 1, none⟩ = some (.int .i64 a2_1) := HA2.out.cell 1; have q22 : w6.cell? ⟨g2, 2, none⟩ = some (.string a2_2) := HA2.out.cell 2; have l1 : g1 < w6.heap.size := HA1.out.lt; have l0 : w.heap.size < w6.heap.size := HA0.out.lt) | (go_at_call 12; (with_reducible refine (HS.out w6).mono ?_); rintro e w7 ⟨rfl, hd⟩; obtain ⟨nd, hd⟩ := hd.out; have HB7 := Aside0.mk (show Below w.heap.size w w7 by rw [hd]; exact pw_below_drewN ((HB.out.alloc HB.out.size _).alloc (by have := HB.out.size; simp; omega) _) _); clear hd l0 l1; clear q00 q01 q02 q10 q11 q12 q20 q21 q22; clear HA0 HA1 HA2 HB))
    have HK := Aside0.mk (weighhouselaw02_knows.calls k true w7 H7.out (HV.out.below HB7.out))
    rcases (by omega : 0 < bc ∨ bc ≤ 0) with ht | ht
    · have u8 := H8.out
      have u9 := H9.out
      have f0 : decide (bc > 0) = true := by simp; omega
      clear u8 u9 hs ht
      go_wp2_with (go_at_call 14; (with_reducible refine HK.out.mono ?_); rintro e w8 ⟨rfl, hb⟩; have HB8 := Aside0.mk (HB7.out.trans (hb.mono HB7.out.size)); clear hb)
      go_ret
      exact ⟨rfl, HB8.out⟩
    · have u8 := H8.out
      have u9 := H9.out
      have f0 : decide (bc > 0) = false := by simp; omega
      have f1 : decide (ac ≤ 0) = true := by simp; omega
      clear u8 u9 hs ht
      go_wp2_with (go_at_call 14; (with_reducible refine HK.out.mono ?_); rintro e w8 ⟨rfl, hb⟩; have HB8 := Aside0.mk (HB7.out.trans (hb.mono HB7.out.size)); clear hb)
      go_ret
      exact ⟨rfl, HB8.out⟩
  · subst hs
    have ez : wrap64 (-(0 : Int)) = 0 := by unfold wrap64; omega
    rw [ez] at H5
    clear ez
    have e0 : ((0 : Int) == 0) = true := by decide
    have e5 : ((0 : Int) != 0) = false := by decide
    rw [e0] at HS
    go_upto_region 6 with (first | (go_at_call 26; (with_reducible refine (weighhouseref02_Compare.calls a0_0 a0_1 a0_2 a1_0 a1_1 a1_2 0 w4 H4.out).mono ?_); rintro e w5 ⟨rfl, hb⟩; have n0 := Aside0.mk (HA0.out.after hb); have n1 := Aside0.mk (HA1.out.after hb); have n2 := Aside0.mk (HA2.out.after hb); have n3 := Aside0.mk (HB.out.trans (hb.mono HB.out.size)); clear q00 q01 q02 q10 q11 q12 q20 q21 q22; clear HA0 HA1 HA2 HB; have HA0 := n0; have HA1 := n1; have HA2 := n2; have HB := n3; clear n0 n1 n2 n3 hb; have q00 : w5.cell? ⟨w.heap.size, 0, none⟩ = some (.int .i64 a0_0) := HA0.out.cell 0; have q01 : w5.cell? ⟨w.heap.size, 1, none⟩ = some (.int .i64 a0_1) := HA0.out.cell 1; have q02 : w5.cell? ⟨w.heap.size, 2, none⟩ = some (.string a0_2) := HA0.out.cell 2; have q10 : w5.cell? ⟨g1, 0, none⟩ = some (.int .i64 a1_0) := HA1.out.cell 0; have q11 : w5.cell? ⟨g1, 1, none⟩ = some (.int .i64 a1_1) := HA1.out.cell 1; have q12 : w5.cell? ⟨g1, 2, none⟩ = some (.string a1_2) := HA1.out.cell 2; have q20 : w5.cell? ⟨g2, 0, none⟩ = some (.int .i64 a2_0) := HA2.out.cell 0; have q21 : w5.cell? ⟨g2, 1, none⟩ = some (.int .i64 a2_1) := HA2.out.cell 1; have q22 : w5.cell? ⟨g2, 2, none⟩ = some (.string a2_2) := HA2.out.cell 2) | (go_at_call 25; (with_reducible refine (value_Compare.calls k a1_0 a1_1 a1_2 a0_0 a0_1 a0_2 0 w5 H5.out).mono ?_); rintro e w6 ⟨rfl, hb⟩; have n0 := Aside0.mk (HA0.out.after hb); have n1 := Aside0.mk (HA1.out.after hb); have n2 := Aside0.mk (HA2.out.after hb); have n3 := Aside0.mk (HB.out.trans (hb.mono HB.out.size)); clear q00 q01 q02 q10 q11 q12 q20 q21 q22; clear HA0 HA1 HA2 HB; have HA0 := n0; have HA1 := n1; have HA2 := n2; have HB := n3; clear n0 n1 n2 n3 hb; have q00 : w6.cell? ⟨w.heap.size, 0, none⟩ = some (.int .i64 a0_0) := HA0.out.cell 0; have q01 : w6.cell? ⟨w.heap.size, 1, none⟩ = some (.int .i64 a0_1) := HA0.out.cell 1; have q02 : w6.cell? ⟨w.heap.size, 2, none⟩ = some (.string a0_2) := HA0.out.cell 2; have q10 : w6.cell? ⟨g1, 0, none⟩ = some (.int .i64 a1_0) := HA1.out.cell 0; have q11 : w6.cell? ⟨g1, 1, none⟩ = some (.int .i64 a1_1) := HA1.out.cell 1; have q12 : w6.cell? ⟨g1, 2, none⟩ = some (.string a1_2) := HA1.out.cell 2; have q20 : w6.cell? ⟨g2, 0, none⟩ = some (.int .i64 a2_0) := HA2.out.cell 0; have q21 : w6.cell? ⟨g2, 1, none⟩ = some (.int .i64 a2_1) := HA2.out.cell 1; have q22 : w6.cell? ⟨g2, 2, none⟩ = some (.string a2_2) := HA2.out.cell 2; have l1 : g1 < w6.heap.size := HA1.out.lt; have l0 : w.heap.size < w6.heap.size := HA0.out.lt) | (go_at_call 12; (with_reducible refine (HS.out w6).mono ?_); rintro e w7 ⟨rfl, hd⟩; obtain ⟨nd, hd⟩ := hd.out; have HB7 := Aside0.mk (show Below w.heap.size w w7 by rw [hd]; exact pw_below_drewN ((HB.out.alloc HB.out.size _).alloc (by have := HB.out.size; simp; omega) _) _); clear hd l0 l1; clear q00 q01 q02 q10 q11 q12 q20 q21 q22; clear HA0 HA1 HA2 HB))
    have HK := Aside0.mk (weighhouselaw02_knows.calls k true w7 H7.out (HV.out.below HB7.out))
    rcases (by omega : 0 < bc ∨ bc = 0 ∨ bc < 0) with ht | ht | ht
    · have u8 := H8.out
      have u9 := H9.out
      have f0 : decide (bc > 0) = true := by simp; omega
      have f1 : decide (bc < 0) = false := by simp; omega
      have f2 : decide (ac ≥ 0) = true := by simp; omega
      clear u8 u9 ht
      go_wp2_with (go_at_call 14; (with_reducible refine HK.out.mono ?_); rintro e w8 ⟨rfl, hb⟩; have HB8 := Aside0.mk (HB7.out.trans (hb.mono HB7.out.size)); clear hb)
      go_ret
      exact ⟨rfl, HB8.out⟩
    · have u8 := H8.out
      have u9 := H9.out
      have f0 : decide (bc > 0) = false := by simp; omega
      have f1 : decide (ac ≤ 0) = true := by simp; omega
      have f2 : decide (bc < 0) = false := by simp; omega
      have f3 : decide (ac ≥ 0) = true := by simp; omega
      clear u8 u9 ht
      go_wp2_with (go_at_call 14; (with_reducible refine HK.out.mono ?_); rintro e w8 ⟨rfl, hb⟩; have HB8 := Aside0.mk (HB7.out.trans (hb.mono HB7.out.size)); clear hb)
      go_ret
      exact ⟨rfl, HB8.out⟩
    · have u8 := H8.out
      have u9 := H9.out
      have f0 : decide (bc > 0) = false := by simp; omega
      have f1 : decide (ac ≤ 0) = true := by simp; omega
      have f2 : decide (bc < 0) = true := by simp; omega
      clear u8 u9 ht
      go_wp2_with (go_at_call 14; (with_reducible refine HK.out.mono ?_); rintro e w8 ⟨rfl, hb⟩; have HB8 := Aside0.mk (HB7.out.trans (hb.mono HB7.out.size)); clear hb)
      go_ret
      exact ⟨rfl, HB8.out⟩
  · have e0 : (ab == 0) = false := by (have : ab ≠ 0 := by omega); simp [this]
    have e1 : decide (ab > 0) = true := by simp; omega
    have e2 : decide (ab < 0) = false := by simp; omega
    have e3 : (ab != ab) = false := by simp
    have e4 : (wrap64 (-ab) != wrap64 (-ab)) = false := by simp
    rw [e0] at HS
    go_upto_region 6 with (first | (go_at_call 26; (with_reducible refine (weighhouseref02_Compare.calls a0_0 a0_1 a0_2 a1_0 a1_1 a1_2 ab w4 H4.out).mono ?_); rintro e w5 ⟨rfl, hb⟩; have n0 := Aside0.mk (HA0.out.after hb); have n1 := Aside0.mk (HA1.out.after hb); have n2 := Aside0.mk (HA2.out.after hb); have n3 := Aside0.mk (HB.out.trans (hb.mono HB.out.size)); clear q00 q01 q02 q10 q11 q12 q20 q21 q22; clear HA0 HA1 HA2 HB; have HA0 := n0; have HA1 := n1; have HA2 := n2; have HB := n3; clear n0 n1 n2 n3 hb; have q00 : w5.cell? ⟨w.heap.size, 0, none⟩ = some (.int .i64 a0_0) := HA0.out.cell 0; have q01 : w5.cell? ⟨w.heap.size, 1, none⟩ = some (.int .i64 a0_1) := HA0.out.cell 1; have q02 : w5.cell? ⟨w.heap.size, 2, none⟩ = some (.string a0_2) := HA0.out.cell 2; have q10 : w5.cell? ⟨g1, 0, none⟩ = some (.int .i64 a1_0) := HA1.out.cell 0; have q11 : w5.cell? ⟨g1, 1, none⟩ = some (.int .i64 a1_1) := HA1.out.cell 1; have q12 : w5.cell? ⟨g1, 2, none⟩ = some (.string a1_2) := HA1.out.cell 2; have q20 : w5.cell? ⟨g2, 0, none⟩ = some (.int .i64 a2_0) := HA2.out.cell 0; have q21 : w5.cell? ⟨g2, 1, none⟩ = some (.int .i64 a2_1) := HA2.out.cell 1; have q22 : w5.cell? ⟨g2, 2, none⟩ = some (.string a2_2) := HA2.out.cell 2) | (go_at_call 25; (with_reducible refine (value_Compare.calls k a1_0 a1_1 a1_2 a0_0 a0_1 a0_2 (wrap64 (-ab)) w5 H5.out).mono ?_); rintro e w6 ⟨rfl, hb⟩; have n0 := Aside0.mk (HA0.out.after hb); have n1 := Aside0.mk (HA1.out.after hb); have n2 := Aside0.mk (HA2.out.after hb); have n3 := Aside0.mk (HB.out.trans (hb.mono HB.out.size)); clear q00 q01 q02 q10 q11 q12 q20 q21 q22; clear HA0 HA1 HA2 HB; have HA0 := n0; have HA1 := n1; have HA2 := n2; have HB := n3; clear n0 n1 n2 n3 hb; have q00 : w6.cell? ⟨w.heap.size, 0, none⟩ = some (.int .i64 a0_0) := HA0.out.cell 0; have q01 : w6.cell? ⟨w.heap.size, 1, none⟩ = some (.int .i64 a0_1) := HA0.out.cell 1; have q02 : w6.cell? ⟨w.heap.size, 2, none⟩ = some (.string a0_2) := HA0.out.cell 2; have q10 : w6.cell? ⟨g1, 0, none⟩ = some (.int .i64 a1_0) := HA1.out.cell 0; have q11 : w6.cell? ⟨g1, 1, none⟩ = some (.int .i64 a1_1) := HA1.out.cell 1; have q12 : w6.cell? ⟨g1, 2, none⟩ = some (.string a1_2) := HA1.out.cell 2; have q20 : w6.cell? ⟨g2, 0, none⟩ = some (.int .i64 a2_0) := HA2.out.cell 0; have q21 : w6.cell? ⟨g2, 1, none⟩ = some (.int .i64 a2_1) := HA2.out.cell 1; have q22 : w6.cell? ⟨g2, 2, none⟩ = some (.string a2_2) := HA2.out.cell 2; have l1 : g1 < w6.heap.size := HA1.out.lt; have l0 : w.heap.size < w6.heap.size := HA0.out.lt) | (go_at_call 12; (with_reducible refine (HS.out w6).mono ?_); rintro e w7 ⟨rfl, hd⟩; obtain ⟨nd, hd⟩ := hd.out; have HB7 := Aside0.mk (show Below w.heap.size w w7 by rw [hd]; exact pw_below_drewN ((HB.out.alloc HB.out.size _).alloc (by have := HB.out.size; simp; omega) _) _); clear hd l0 l1; clear q00 q01 q02 q10 q11 q12 q20 q21 q22; clear HA0 HA1 HA2 HB))
    have HK := Aside0.mk (weighhouselaw02_knows.calls k true w7 H7.out (HV.out.below HB7.out))
    rcases (by omega : bc < 0 ∨ 0 ≤ bc) with ht | ht
    · have u8 := H8.out
      have u9 := H9.out
      have f0 : decide (bc < 0) = true := by simp; omega
      clear u8 u9 hs ht
      go_wp2_with (go_at_call 14; (with_reducible refine HK.out.mono ?_); rintro e w8 ⟨rfl, hb⟩; have HB8 := Aside0.mk (HB7.out.trans (hb.mono HB7.out.size)); clear hb)
      go_ret
      exact ⟨rfl, HB8.out⟩
    · have u8 := H8.out
      have u9 := H9.out
      have f0 : decide (bc < 0) = false := by simp; omega
      have f1 : decide (ac ≥ 0) = true := by simp; omega
      clear u8 u9 hs ht
      go_wp2_with (go_at_call 14; (with_reducible refine HK.out.mono ?_); rintro e w8 ⟨rfl, hb⟩; have HB8 := Aside0.mk (HB7.out.trans (hb.mono HB7.out.size)); clear hb)
      go_ret
      exact ⟨rfl, HB8.out⟩


end Go.Proofs.YtblaibigjhlblaaDoor.Q
end

section
/- what the readings of the parameters of ValueOrder give -/
set_option linter.unusedVariables false
set_option linter.unusedSimpArgs false
namespace Go.Proofs.YtblaibigjhlblaaDoor.OpValueOrder
open Go.RowKit Go.Proofs.YtblaibigjhlblaaDoorW.PrintWords Go.Proofs.YtblaibigjhlblaaDoorW.Hb Go.Proofs.YtblaibigjhlblaaDoorW.Ho Go.Proofs.YtblaibigjhlblaaDoor.Q

theorem opens_slice' {P : Program} {t : TypeId} {α : Type} {d : Kd α} {e B : Nat} {Q : α → Prop} (ht : P.underlying t = some (.slice e)) (hs : P.cellsOf e = d.sz) (hB : P.bytesOf e = B) (hp : Opens P d e Q) :
    Opens P (Kd.slice e d) t (fun xs => xs.length * B ≤ reachBytes ∧ xs.length ≤ maxLen ∧ ∀ x ∈ xs, Q x) := by
  subst hB
  exact opens_slice ht hs hp
def QS37 (x : S37) : Prop := ((Lit.int .i64 (x.f0)).wf = true) ∧ ((Lit.int .i64 (x.f1)).wf = true) ∧ ((x.f2).size ≤ reachBytes)
theorem open_S37 : Opens Tryd.prog k37 37 QS37 := by
  intro H enc w base spare held fuel cs x h hw
  obtain ⟨xs, n, _, hx, hl, hxl, hf⟩ := DataW.trod_struct Tryd.underlying37 h
  rw [show Tryd.prog.cellsOf 37 = 3 from by kernel_rfl] at hl
  obtain ⟨c0, c1, c2, rfl⟩ : ∃ c0 c1 c2, cs = [c0, c1, c2] := by
    clear hf hx h
    match cs, hl with
    | [c0, c1, c2], _ => exact ⟨c0, c1, c2, rfl⟩
  obtain ⟨y0, y1, y2, rfl⟩ : ∃ y0 y1 y2, xs = [y0, y1, y2] := by
    have hxl2 : xs.length = 3 := hxl
    clear hxl hf hx
    match xs, hxl2 with
    | [y0, y1, y2], _ => exact ⟨y0, y1, y2, rfl⟩
  subst hx
  have g0 : DataW.trod enc Tryd.prog w base spare held n 3 (([c0, c1, c2].drop 0).take (Tryd.prog.cellsOf 3)) = some y0 := hf 0 _ rfl
  rw [show Tryd.prog.cellsOf 3 = 1 from by kernel_rfl] at g0
  replace g0 : DataW.trod enc Tryd.prog w base spare held n 3 [c0] = some y0 := g0
  obtain ⟨v0, K0, q0⟩ := (opens_int Tryd.underlying3) enc w base spare held n _ _ g0 (fun m hm => hw m (weights_field (j := 0) (tj := 3) Tryd.underlying37 rfl rfl m hm))
  have g1 : DataW.trod enc Tryd.prog w base spare held n 3 (([c0, c1, c2].drop 1).take (Tryd.prog.cellsOf 3)) = some y1 := hf 1 _ rfl
  rw [show Tryd.prog.cellsOf 3 = 1 from by kernel_rfl] at g1
  replace g1 : DataW.trod enc Tryd.prog w base spare held n 3 [c1] = some y1 := g1
  obtain ⟨v1, K1, q1⟩ := (opens_int Tryd.underlying3) enc w base spare held n _ _ g1 (fun m hm => hw m (weights_field (j := 1) (tj := 3) Tryd.underlying37 rfl rfl m hm))
  have g2 : DataW.trod enc Tryd.prog w base spare held n 9 (([c0, c1, c2].drop 2).take (Tryd.prog.cellsOf 9)) = some y2 := hf 2 _ rfl
  rw [show Tryd.prog.cellsOf 9 = 1 from by kernel_rfl] at g2
  replace g2 : DataW.trod enc Tryd.prog w base spare held n 9 [c2] = some y2 := g2
  obtain ⟨v2, K2, q2⟩ := (opens_string Tryd.underlying9) enc w base spare held n _ _ g2 (fun m hm => hw m (weights_field (j := 2) (tj := 9) Tryd.underlying37 rfl rfl m hm))
  exact ⟨⟨v0, v1, v2⟩, ⟨[c0], [c1, c2], rfl, K0, ⟨[c1], [c2], rfl, K1, K2⟩⟩, ⟨q0, q1, q2⟩⟩
end Go.Proofs.YtblaibigjhlblaaDoor.OpValueOrder
end

section
/- the pure statement of ValueOrder -/
namespace Go.Proofs.YtblaibigjhlblaaDoor.PuValueOrder
open Go.RowKit Go.Proofs.YtblaibigjhlblaaDoorW.PrintWords Go.Proofs.YtblaibigjhlblaaDoorW.Hb Go.Proofs.YtblaibigjhlblaaDoorW.Ho Go.Proofs.YtblaibigjhlblaaDoor.Q Go.Proofs.YtblaibigjhlblaaDoor.OpValueOrder
def Pure : Prop := ∀ (x0 : S37) (x1 : S37) (x2 : S37), QS37 (x0) → QS37 (x1) → QS37 (x2) → weighhouselaw02_ValueOrder.f (x0.f0) (x0.f1) (x0.f2) (x1.f0) (x1.f1) (x1.f2) (x2.f0) (x2.f1) (x2.f2) = some true
end Go.Proofs.YtblaibigjhlblaaDoor.PuValueOrder
end

section
/- ValueOrder: the pure statement, proved: of values there is one order -/
set_option linter.unusedVariables false
set_option linter.unusedSimpArgs false
namespace Go.Proofs.YtblaibigjhlblaaDoor.PuValueOrder
open Go.RowKit Go.Proofs.YtblaibigjhlblaaDoorW.PrintWords Go.Proofs.YtblaibigjhlblaaDoorW.Hb Go.Proofs.YtblaibigjhlblaaDoorW.Ho Go.Proofs.YtblaibigjhlblaaDoor.Q Go.Proofs.YtblaibigjhlblaaDoor.OpValueOrder

theorem w64 {x : Int} (h0 : -9223372036854775808 ≤ x) (h1 : x ≤ 9223372036854775807) : wrap64 x = x := by unfold wrap64; omega
set_option maxRecDepth 100000 in
theorem knows_50 : weighhouselaw02_knows.f 50 = some true := by decide +kernel
theorem knows_ev : Ev (fun k => weighhouselaw02_knows.f k) true := Ev.of (fun k => weighhouselaw02_knows.mono k) knows_50
/-- A comparison that tells one order. -/
structure Ordr {α : Type} (c : α → α → Int) : Prop where
  rng : ∀ x y, c x y = -1 ∨ c x y = 0 ∨ c x y = 1
  neg : ∀ x y, c y x = -c x y
  eq : ∀ x y, c x y = 0 ↔ x = y
  tr : ∀ x y z, c x y ≤ 0 → c y z ≤ 0 → c x z ≤ 0
theorem lexRng {α : Type} {c : α → α → Int} (o : Ordr c) (x y : α) {p : Int} (hp : p = -1 ∨ p = 0 ∨ p = 1) : (if c x y = 0 then p else c x y) = -1 ∨ (if c x y = 0 then p else c x y) = 0 ∨ (if c x y = 0 then p else c x y) = 1 := by
  split
  · exact hp
  · exact o.rng x y
theorem lexNeg {α : Type} {c : α → α → Int} (o : Ordr c) (x y : α) {p q : Int} (h : q = -p) : (if c y x = 0 then q else c y x) = -(if c x y = 0 then p else c x y) := by
  have := o.neg x y
  split <;> split <;> omega
theorem lexEq {α : Type} {c : α → α → Int} (o : Ordr c) (x y : α) (p : Int) : (if c x y = 0 then p else c x y) = 0 ↔ x = y ∧ p = 0 := by
  have := o.eq x y
  split
  · rename_i h
    exact ⟨fun e => ⟨this.1 h, e⟩, fun e => e.2⟩
  · rename_i h
    exact ⟨fun e => absurd e h, fun e => absurd (this.2 e.1) h⟩
theorem lexTr {α : Type} {c : α → α → Int} (o : Ordr c) (x y z : α) {p q r : Int} (h1 : (if c x y = 0 then p else c x y) ≤ 0) (h2 : (if c y z = 0 then q else c y z) ≤ 0) (h3 : p ≤ 0 → q ≤ 0 → r ≤ 0) : (if c x z = 0 then r else c x z) ≤ 0 := by
  by_cases e1 : c x y = 0
  · obtain rfl := (o.eq x y).1 e1
    rw [if_pos e1] at h1
    by_cases e2 : c x z = 0
    · rw [if_pos e2] at h2 ⊢
      exact h3 h1 h2
    · rw [if_neg e2] at h2 ⊢
      exact h2
  · rw [if_neg e1] at h1
    by_cases e2 : c y z = 0
    · obtain rfl := (o.eq y z).1 e2
      rw [if_neg e1]
      exact h1
    · rw [if_neg e2] at h2
      have t := o.tr x y z h1 h2
      rw [if_neg (fun e => ?_)]
      · exact t
      · obtain rfl := (o.eq x z).1 e
        have := o.neg x y
        omega
def cI (a b : Int) : Int := if a < b then -1 else if b < a then 1 else 0
theorem ordI : Ordr cI := by
  refine ⟨fun x y => ?_, fun x y => ?_, fun x y => ?_, fun x y z => ?_⟩
  · unfold cI; split
    · exact .inl rfl
    · split
      · exact .inr (.inr rfl)
      · exact .inr (.inl rfl)
  · unfold cI; repeat' split
    all_goals omega
  · unfold cI; repeat' split
    all_goals omega
  · unfold cI; repeat' split
    all_goals omega
def cU (a b : UInt8) : Int := cI a.toNat b.toNat
theorem ordU : Ordr cU := by
  refine ⟨fun x y => ordI.rng _ _, fun x y => ordI.neg _ _, fun x y => ?_, fun x y z => ordI.tr _ _ _⟩
  refine (ordI.eq _ _).trans ⟨fun h => UInt8.toNat_inj.1 (by omega), fun h => by rw [h]⟩
theorem cB_cons (a b : UInt8) (x y : List UInt8) : Lib.compareBytes (a :: x) (b :: y) = if cU a b = 0 then Lib.compareBytes x y else cU a b := by
  show (if a < b then -1 else if b < a then 1 else Lib.compareBytes x y) = _
  by_cases h1 : a < b
  · have e : cU a b = -1 := by
      have := UInt8.lt_iff_toNat_lt.1 h1
      unfold cU cI
      rw [if_pos (by omega)]
    rw [if_pos h1, e, if_neg (by decide)]
  · have u1 : ¬ a.toNat < b.toNat := fun e => h1 (UInt8.lt_iff_toNat_lt.2 e)
    by_cases h2 : b < a
    · have e : cU a b = 1 := by
        have := UInt8.lt_iff_toNat_lt.1 h2
        unfold cU cI
        rw [if_neg (by omega), if_pos (by omega)]
      rw [if_neg h1, if_pos h2, e, if_neg (by decide)]
    · have u2 : ¬ b.toNat < a.toNat := fun e => h2 (UInt8.lt_iff_toNat_lt.2 e)
      have e : cU a b = 0 := by
        unfold cU cI
        rw [if_neg (by omega), if_neg (by omega)]
      rw [if_neg h1, if_neg h2, e, if_pos rfl]
theorem cB_rng : ∀ x y : List UInt8, Lib.compareBytes x y = -1 ∨ Lib.compareBytes x y = 0 ∨ Lib.compareBytes x y = 1
  | [], [] => .inr (.inl rfl)
  | [], _ :: _ => .inl rfl
  | _ :: _, [] => .inr (.inr rfl)
  | a :: x, b :: y => by rw [cB_cons]; exact lexRng ordU a b (cB_rng x y)
theorem cB_neg : ∀ x y : List UInt8, Lib.compareBytes y x = -Lib.compareBytes x y
  | [], [] => rfl
  | [], _ :: _ => rfl
  | _ :: _, [] => rfl
  | a :: x, b :: y => by rw [cB_cons, cB_cons]; exact lexNeg ordU a b (cB_neg x y)
theorem cB_eq : ∀ x y : List UInt8, Lib.compareBytes x y = 0 ↔ x = y
  | [], [] => ⟨fun _ => rfl, fun _ => rfl⟩
  | [], b :: y => ⟨fun h => by simp [Lib.compareBytes] at h, fun h => by cases h⟩
  | a :: x, [] => ⟨fun h => by simp [Lib.compareBytes] at h, fun h => by cases h⟩
  | a :: x, b :: y => by rw [cB_cons, lexEq ordU, cB_eq x y]; simp
theorem cB_tr : ∀ x y z : List UInt8, Lib.compareBytes x y ≤ 0 → Lib.compareBytes y z ≤ 0 → Lib.compareBytes x z ≤ 0
  | [], _, [], _, _ => by simp [Lib.compareBytes]
  | [], _, _ :: _, _, _ => by simp [Lib.compareBytes]
  | _ :: _, [], _, h, _ => by simp [Lib.compareBytes] at h
  | _ :: _, _ :: _, [], _, h => by simp [Lib.compareBytes] at h
  | a :: x, b :: y, c :: z, h1, h2 => by
    rw [cB_cons] at h1 h2 ⊢
    exact lexTr ordU a b c h1 h2 (cB_tr x y z)
theorem ordB : Ordr Lib.compareBytes := ⟨cB_rng, cB_neg, cB_eq, cB_tr⟩
theorem cB_less : ∀ x y : List UInt8, Lib.compareBytes x y = if Op.bytesLess x y = true then -1 else if (x == y) = false then 1 else 0
  | [], [] => by simp [Lib.compareBytes, Op.bytesLess]
  | [], b :: y => by simp [Lib.compareBytes, Op.bytesLess]
  | a :: x, [] => by simp [Lib.compareBytes, Op.bytesLess]
  | a :: x, b :: y => by
    show (if a < b then -1 else if b < a then 1 else Lib.compareBytes x y) = _
    have eb : Op.bytesLess (a :: x) (b :: y) = (decide (a < b) || (a == b && Op.bytesLess x y)) := rfl
    rw [cB_less x y, eb]
    by_cases h1 : a < b
    · rw [if_pos h1, if_pos (by simp [h1])]
    · by_cases h2 : b < a
      · have hne : a ≠ b := fun e => by rw [e] at h2; exact absurd h2 (UInt8.lt_irrefl b)
        rw [if_neg h1, if_pos h2, if_neg (by simp [h1, hne]), if_pos (by simp [hne])]
      · have he : a = b := by
          have u1 : ¬ a.toNat < b.toNat := fun e => h1 (UInt8.lt_iff_toNat_lt.2 e)
          have u2 : ¬ b.toNat < a.toNat := fun e => h2 (UInt8.lt_iff_toNat_lt.2 e)
          exact UInt8.toNat_inj.1 (by omega)
        rw [if_neg h1, if_neg h2, he]
        have hn : ¬ b < b := UInt8.lt_irrefl b
        have q1 : (decide (b < b) || (b == b && Op.bytesLess x y)) = Op.bytesLess x y := by simp [hn]
        have q2 : (b :: x == b :: y) = (x == y) := by
          by_cases hxy : x = y
          · simp [hxy]
          · rw [beq_eq_false_iff_ne.2 hxy, beq_eq_false_iff_ne.2 (fun e => hxy (List.cons.inj e).2)]
        rw [q1, q2]
/-- Values compared. -/
def cV (x y : S37) : Int := if cI x.f0 y.f0 = 0 then (if cI x.f1 y.f1 = 0 then Lib.compareBytes x.f2.data.toList y.f2.data.toList else cI x.f1 y.f1) else cI x.f0 y.f0
theorem ordV : Ordr cV := by
  refine ⟨fun x y => lexRng ordI _ _ (lexRng ordI _ _ (ordB.rng _ _)), fun x y => lexNeg ordI _ _ (lexNeg ordI _ _ (ordB.neg _ _)), fun x y => ?_, fun x y z h1 h2 => lexTr ordI _ _ _ h1 h2 fun g1 g2 => lexTr ordI _ _ _ g1 g2 (ordB.tr _ _ _)⟩
  unfold cV
  rw [lexEq ordI, lexEq ordI, ordB.eq]
  obtain ⟨a, b, ⟨⟨c⟩⟩⟩ := x
  obtain ⟨d, e, ⟨⟨f⟩⟩⟩ := y
  simp
theorem cmpI_ok (a b : Int) : cmp_Compare_int.f a b = some (cI a b) := by
  unfold cmp_Compare_int.f cmp_isNaN_int.f cI
  simp only [Option.bind_some, bne_self_eq_false]
  rw [if_neg (by simp), if_neg (by simp)]
  by_cases h1 : a < b
  · rw [if_pos h1, if_pos h1]
  · by_cases h2 : b < a
    · rw [if_neg h1, if_neg h1, if_pos h2, if_pos h2]
    · rw [if_neg h1, if_neg h1, if_neg h2, if_neg h2]
theorem or_ok (a b c : Int) : cmp_Or_int.f 5 [a, b, c] = some (if a = 0 then (if b = 0 then c else b) else a) := by
  have w1 : wrap64 (0 + 1) = 1 := by rw [w64 (by omega) (by omega)]; rfl
  have w2 : wrap64 (1 + 1) = 2 := by rw [w64 (by omega) (by omega)]; rfl
  have w3 : wrap64 (2 + 1) = 3 := by rw [w64 (by omega) (by omega)]; rfl
  unfold cmp_Or_int.f
  simp only [cmp_Or_int.l0, w1, w2, w3, rd, List.length_cons, List.length_nil]
  by_cases ha : a = 0
  · by_cases hb : b = 0
    · by_cases hc : c = 0
      · simp [ha, hb, hc]
      · simp [ha, hb, hc]
    · simp [ha, hb]
  · simp [ha]
theorem cmp_ok (x y : S37) : value_Compare.f 5 x.f0 x.f1 x.f2 y.f0 y.f1 y.f2 = some (cV x y) := by
  unfold value_Compare.f strings_Compare.f
  rw [cmpI_ok, cmpI_ok, Option.bind_some, Option.bind_some, Option.bind_some, or_ok, Option.bind_some]
  rfl
theorem cmp_ev (x y : S37) : Ev (fun k => value_Compare.f k x.f0 x.f1 x.f2 y.f0 y.f1 y.f2) (cV x y) := Ev.of (fun k => value_Compare.mono _ _ _ _ _ _ k) (cmp_ok x y)
theorem ref_ok (x y : S37) : weighhouseref02_Compare.f x.f0 x.f1 x.f2 y.f0 y.f1 y.f2 = some (cV x y) := by
  unfold weighhouseref02_Compare.f cV cI
  rw [cB_less, ByteArray.toList_eq, ByteArray.toList_eq]
  refine congrArg some ?_
  by_cases h1 : x.f0 < y.f0
  · rw [if_pos h1, if_pos h1, if_neg (by omega)]
  · by_cases h2 : y.f0 < x.f0
    · rw [if_neg h1, if_neg h1, if_pos h2, if_pos h2, if_neg (by omega)]
    · rw [if_neg h1, if_neg h1, if_neg h2, if_neg h2, if_pos rfl]
      by_cases h3 : x.f1 < y.f1
      · rw [if_pos h3, if_pos h3, if_neg (by omega)]
      · by_cases h4 : y.f1 < x.f1
        · rw [if_neg h3, if_neg h3, if_pos h4, if_pos h4, if_neg (by omega)]
        · rw [if_neg h3, if_neg h3, if_neg h4, if_neg h4, if_pos rfl]
theorem same_ok (x y : S37) : weighhouselaw02_Same.f 3 [x] [y] = some (cV x y == 0) := by
  have w1 : wrap64 (0 + 1) = 1 := by rw [w64 (by omega) (by omega)]; rfl
  have r1 : rd_T37 [x] 0 = x := rfl
  have r2 : rd_T37 [y] 0 = y := rfl
  unfold weighhouselaw02_Same.f
  simp only [weighhouselaw02_Same.l0, w1, r1, r2, List.length_cons, List.length_nil]
  by_cases h : x = y
  · have e : cV x y = 0 := (ordV.eq x y).2 h
    rw [e, h]
    simp
  · have e : (cV x y == 0) = false := by simp [ordV.eq, h]
    rw [e]
    have hf : ¬ (x.f0 = y.f0 ∧ x.f1 = y.f1 ∧ x.f2.toList = y.f2.toList) := by
      rintro ⟨e1, e2, e3⟩
      apply h
      rw [ByteArray.toList_eq, ByteArray.toList_eq] at e3
      obtain ⟨a, b, ⟨⟨c⟩⟩⟩ := x
      obtain ⟨d, e, ⟨⟨f⟩⟩⟩ := y
      simp only at e1 e2 e3
      rw [e1, e2, e3]
    by_cases e1 : x.f0 = y.f0
    · by_cases e2 : x.f1 = y.f1
      · have e3 : ¬ x.f2.toList = y.f2.toList := fun e3 => hf ⟨e1, e2, e3⟩
        simp [e1, e2, e3]
      · simp [e1, e2]
    · simp [e1]
theorem same_ev (x y : S37) : Ev (fun k => weighhouselaw02_Same.f k [x] [y]) (cV x y == 0) := Ev.of (fun k => weighhouselaw02_Same.mono _ _ k) (same_ok x y)
theorem pure : Pure := by
  intro x0 x1 x2 h0 h1 h2
  obtain ⟨K1, k1⟩ := cmp_ev x0 x1
  obtain ⟨K2, k2⟩ := cmp_ev x1 x2
  obtain ⟨K3, k3⟩ := cmp_ev x0 x2
  obtain ⟨K4, k4⟩ := cmp_ev x1 x0
  obtain ⟨K5, k5⟩ := same_ev x0 x1
  obtain ⟨K6, k6⟩ := knows_ev
  have r := ordV.rng x0 x1
  have n := ordV.neg x0 x1
  have n2 := ordV.neg x1 x2
  have n3 := ordV.neg x0 x2
  unfold weighhouselaw02_ValueOrder.f
  rw [if_pos]
  refine ⟨K1 + K2 + K3 + K4 + K5 + K6, cV x0 x1, cV x1 x2, cV x0 x2, k1 _ (by omega), k2 _ (by omega), k3 _ (by omega), ref_ok x0 x1, ?_, k5 _ (by omega), k6 _ (by omega), ?_, ?_⟩
  · rw [w64 (by omega) (by omega), ← n]
    exact k4 _ (by omega)
  · have := ordV.tr x0 x1 x2
    omega
  · have := ordV.tr x2 x1 x0
    omega
end Go.Proofs.YtblaibigjhlblaaDoor.PuValueOrder
end
