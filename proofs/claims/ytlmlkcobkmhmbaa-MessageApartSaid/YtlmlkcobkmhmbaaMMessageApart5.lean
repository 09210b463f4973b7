/- texts of one claim, merged: each in a section of its own -/
import Derived.Test.YtlmlkcobkmhmbaaMMessageApart3
import Derived.Test.YtlmlkcobkmhmbaaMMessageApart4
section
-- written by hprint.py (a program of these sessions) out of the translation; Lean checks it
namespace Go.Proofs.Ytlmlkcobkmhmbaa.Q
open Go.RowKit Go.Proofs.YtlmlkcobkmhmbaaW.Hb Go.Proofs.YtlmlkcobkmhmbaaW.PrintWords Go.Proofs.YtlmlkcobkmhmbaaW.PrintLast Go.Proofs.YtlmlkcobkmhmbaaW.PrintMore
attribute [local go_sem] max2_int min2_int max_two min_two max_three min_three max_four min_four   -- for this text's walks alone
set_option linter.unusedVariables false
set_option linter.unusedSimpArgs false

/-! ### wire_Reader_Text: function 68, by hand -/
theorem or_i64 (a b : Nat) (ha : a < 256) (hb : b < 256) : Go.bits .or .i64 ((a : Int) * 256) (b : Int) = ((a * 256 + b : Nat) : Int) := by
  have h1 : (BitVec.ofInt 64 (((a * 256 : Nat) : Int))).toNat = a * 256 := by
    rw [BitVec.ofInt_natCast, BitVec.toNat_ofNat]; exact Nat.mod_eq_of_lt (by omega)
  have h2 : (BitVec.ofInt 64 (b : Int)).toNat = b := by
    rw [BitVec.ofInt_natCast, BitVec.toNat_ofNat]; exact Nat.mod_eq_of_lt (by omega)
  have h3 := orB a b hb
  show IntKind.i64.wrap ((BitVec.ofInt 64 ((a : Int) * 256) ||| BitVec.ofInt 64 (b : Int)).toNat : Int) = _
  rw [show ((a : Int) * 256) = ((a * 256 : Nat) : Int) by omega, BitVec.toNat_or, h1, h2, h3]
  rw [i64_w]
  exact wrapI (n := ((a * 256 + b : Nat) : Int)) (by omega) (by omega)
def tlen (xs : List Int) : Nat := (rd xs (0 : Nat) * 256 + rd xs (1 : Nat)).toNat
def rText (xs : List Int) (e : Int) : ByteArray × List Int × Int := if e ≠ 0 then (ByteArray.empty, xs, e) else if xs.length < 2 then (ByteArray.empty, xs, 20) else if xs.length < 2 + tlen xs then (ByteArray.empty, xs, 20) else (strOfNums ((xs.drop 2).take (tlen xs)), xs.drop (2 + tlen xs), 0)
theorem add1 (ad : Addr) : ad.add 1 = ⟨ad.block, ad.off + 1, none⟩ := by simp [Addr.add]
theorem add0 (ad : Addr) : ad.add ((0 : Nat) : Int).toNat = ad := by cases ad; simp [Addr.add]
set_option maxRecDepth 100000 in
set_option maxHeartbeats 2000000 in
theorem wire_Reader_Text.calls (S : Nat → Prop) (g : Nat) (xs : List Int) (ev : Int) (w : World) (hR : Rd w S g xs ev) :
    Calls Try.prog 68 #[.pointer (some ⟨g, 0, none⟩)] w fun e w' => e = .returned (.string (rText xs ev).1) ∧ Rd w' S g (rText xs ev).2.1 (rText xs ev).2.2 ∧ Fr w w' (fun k => k = g) := by
  have qT : ∀ (w : World) (a : Option Addr) (n c n' c' : Nat), (binOp .eql 35 (.slice a n c) (.slice none n' c')).run Try.prog w = .ok (.bool a.isNone) w := fun w a n c n' c' => Lib.run_eql_slice_nil w _ _ a n c n' c' Try.underlying35
  have HR := Aside0.mk hR
  obtain ⟨A0, c0, hb, hc, hS, hA, hC, hx⟩ := hR
  have HB := Aside0.mk hb
  have h0 : w.cell? ⟨g, 0, none⟩ = some (.slice A0 xs.length c0) := hb.cell 0
  have HC := Aside0.mk hC
  have HA := Aside0.mk hA
  have HX := Aside0.mk hx
  have hm : xs.length ≤ 9223372036854775807 := hC.2.1
  clear hb hC hA hx
  by_cases he : ev ≠ 0
  · have HS := Aside0.mk (show rText xs ev = (ByteArray.empty, xs, ev) from if_pos he)
    have HE := Aside0.mk he
    clear he
    go_enter Try.func68, Try.ntmps68
    go_wp2_with (first | (go_at_call 78; (with_reducible refine (wire_Reader_none.calls g _ _ true _ HB.out).mono ?_); rintro e2 w2 ⟨rfl, hw2⟩; subst w2) | (go_at_call 65; (with_reducible refine (wire_Reader_take.calls_err S g xs ev 2 _ HR.out HE.out).mono ?_); rintro e2 w2 ⟨rfl, hw2⟩; subst w2))
    go_ret
    rw [HS.out]
    exact ⟨rfl, HR.out, Fr.of_below (Below.refl _ _) _⟩
  obtain rfl : ev = 0 := by omega
  by_cases h1 : xs.length < 2
  · have HS := Aside0.mk (show rText xs 0 = (ByteArray.empty, xs, 20) by unfold rText; rw [if_neg (by decide), if_pos h1])
    have HL := Aside0.mk (show (xs.length : Int) < 2 by omega)
    clear he h1
    go_enter Try.func68, Try.ntmps68
    go_wp2_with (first | (go_at_call 78; (with_reducible refine (wire_Reader_none.calls g _ _ true _ HB.out).mono ?_); rintro e2 w2 ⟨rfl, hw2⟩; subst w2) | (go_at_call 65; (with_reducible refine (wire_Reader_take.calls_end S g xs 2 _ HR.out HL.out).mono ?_); rintro e2 w2 ⟨rfl, hR2, hF2⟩; have HR2 := Aside0.mk hR2; have HF2 := Aside0.mk hF2; clear hR2 hF2))
    go_ret
    rw [HS.out]
    exact ⟨rfl, HR2.out, HF2.out⟩
  have hz0 := rd_in HX.out 0 (by omega)
  have hz1 := rd_in HX.out 1 (by omega)
  have hr0 := rd_take (xs := xs) (n := 2) (i := 0) (by omega)
  have hr1 := rd_take (xs := xs) (n := 2) (i := 1) (by omega)
  have hyl : (xs.take 2).length = 2 := by rw [List.length_take]; omega
  have hzl : (xs.drop 2).length = xs.length - 2 := by rw [List.length_drop]
  have HL := Aside0.mk (show 2 ≤ xs.length by omega)
  have hn : tlen xs = (rd xs (0 : Nat) * 256 + rd xs (1 : Nat)).toNat := rfl
  have HS1 := Aside0.mk (show xs.length < 2 + tlen xs → rText xs 0 = (ByteArray.empty, xs, 20) from fun h => by unfold rText; rw [if_neg (by decide), if_neg h1, if_pos h])
  have HS2 := Aside0.mk (show ¬ xs.length < 2 + tlen xs → rText xs 0 = (strOfNums ((xs.drop 2).take (tlen xs)), (xs.drop 2).drop (tlen xs), 0) from fun h => by unfold rText; rw [if_neg (by decide), if_neg h1, if_neg h, List.drop_drop])
  obtain ⟨x0, hx0⟩ : ∃ x0, rd xs (0 : Nat) = x0 := ⟨_, rfl⟩
  obtain ⟨x1, hx1⟩ : ∃ x1, rd xs (1 : Nat) = x1 := ⟨_, rfl⟩
  obtain ⟨y, hy⟩ : ∃ y, xs.take 2 = y := ⟨_, rfl⟩
  obtain ⟨z, hz⟩ : ∃ z, xs.drop 2 = z := ⟨_, rfl⟩
  obtain ⟨n, hnn⟩ : ∃ n, tlen xs = n := ⟨_, rfl⟩
  have HY := Aside0.mk hy
  have HZ := Aside0.mk hz
  rw [hx0] at hz0 hr0 hn
  rw [hx1] at hz1 hr1 hn
  rw [hy] at hr0 hr1 hyl
  rw [hz] at hzl HS2
  rw [hnn] at hn HS1 HS2
  obtain ⟨p1, p2⟩ := hz0
  obtain ⟨p3, p4⟩ := hz1
  have hy2 : 2 ≤ y.length := by omega
  have HR0 := Aside0.mk hr0
  have HR1 := Aside0.mk hr1
  have HZL := Aside0.mk hzl
  obtain ⟨a, rfl⟩ := Int.eq_ofNat_of_zero_le p1
  obtain ⟨b, rfl⟩ := Int.eq_ofNat_of_zero_le p3
  have hor := or_i64 a b (by omega) (by omega)
  have hn' : a * 256 + b = n := by omega
  rw [hn'] at hor
  have HOR := Aside0.mk hor
  clear he h1 hx0 hx1 hy hz hnn hr0 hr1 hyl hzl hor hn hn'
  by_cases h3 : xs.length < 2 + n
  · have HS := Aside0.mk (HS1.out h3)
    have HL3 := Aside0.mk (show (z.length : Int) < (n : Int) by have := HZL.out; have := HL.out; omega)
    clear HS1 HS2 h3
    go_enter Try.func68, Try.ntmps68
    go_upto_region 5 with (first | (go_at_call 78; (with_reducible refine (wire_Reader_none.calls g _ _ true _ HB.out).mono ?_); rintro e2 w2 ⟨rfl, hw2⟩; subst w2) | (go_at_call 65; (with_reducible refine (wire_Reader_take.calls_ok S g xs 2 2 rfl y z HY.out HZ.out _ HR.out HL.out).mono ?_); rintro e2 w2 ⟨A2, c2, rfl, hc2, hC2, hA2, hR2, hF2⟩; have HR2 := Aside0.mk hR2; have HF2 := Aside0.mk hF2; have HC2 := Aside0.mk hC2; clear hR2 hF2 hC2 hA2))
    obtain ⟨ad, e, hcd0⟩ := Kd.at_int HC2.out (0 : Nat) (by omega) (by omega)
    subst e
    obtain ⟨ad', e, hcd1⟩ := Kd.at_int HC2.out (1 : Nat) (by omega) (by omega)
    cases e
    rw [HR0.out, add0] at hcd0
    rw [HR1.out, Int.toNat_natCast, add1] at hcd1
    have q0 : 0 < y.length := by omega
    have q1 : 1 < (y.length : Int) := by omega
    replace hcd0 : w2.drew.cell? ad = some (.int .u8 a) := hcd0
    replace hcd1 : w2.drew.cell? ⟨ad.block, ad.off + 1, none⟩ = some (.int .u8 b) := hcd1
    have HRd2 := Aside0.mk (HR2.out.below ((Below.refl _ _).drew))
    have HFd2 := Aside0.mk (HF2.out.then_ (Fr.of_below ((Below.refl _ _).drew) (fun k => k = g)) (fun _ h => .inl h))
    have hor := HOR.out
    have hw1 : wrap64 (a : Int) = (a : Int) := wrapI (by omega) (by omega)
    have hw2 : wrap64 ((a : Int) * 256) = (a : Int) * 256 := wrapI (by omega) (by omega)
    have hw3 : wrap64 (b : Int) = (b : Int) := wrapI (by omega) (by omega)
    clear HC2 HR2 HF2
    go_upto_region 7 with (fail)
    refine start_ (n := 13) (S := fun w' => w'.cell? ad = some (.int .u8 a) ∧ w'.cell? ⟨ad.block, ad.off + 1, none⟩ = some (.int .u8 b)) (ds := [11]) #[false, false, false, false, false, false, false, false, false, false, false, false, false] (by kernel_rfl) rfl rfl ⟨hcd0, hcd1⟩ (fun hHeld => ?_)
    generalize w2.drew = wd at HRd2 HFd2 hcd0 hcd1 hHeld ⊢
    refine pure_ (i := 0) (N := some 17) (v := ?_) (a' := ?_) #[true, false, false, false, false, false, false, false, false, false, false, false, false] rfl rfl (by kernel_rfl) (fun _ _ _ h => h) (Or.inl ⟨by rfl, ?_⟩) ?_ ?_
    rotate_left
    · intro w'
      go_simp
      with_reducible rfl
    rotate_left
    · simp only [Act.put, List.setIfInBounds_toArray, List.set_cons_zero, List.set_cons_succ, i64_w, i32_w]
      rfl
    refine pure_ (i := 1) (N := some 18) (v := ?_) (a' := ?_) #[true, true, false, false, false, false, false, false, false, false, false, false, false] rfl rfl (by kernel_rfl) (fun _ _ _ h => h) (Or.inl ⟨by rfl, ?_⟩) ?_ ?_
    rotate_left
    · intro w'
      go_simp
      with_reducible rfl
    rotate_left
    · simp only [Act.put, List.setIfInBounds_toArray, List.set_cons_zero, List.set_cons_succ, i64_w, i32_w]
      rfl
    refine pure_ (i := 2) (N := some 19) (v := ?_) (a' := ?_) #[true, true, true, false, false, false, false, false, false, false, false, false, false] rfl rfl (by kernel_rfl) (fun _ _ _ h => h) (Or.inl ⟨by rfl, ?_⟩) ?_ ?_
    rotate_left
    · intro w'
      go_simp
      with_reducible rfl
    rotate_left
    · simp only [Act.put, List.setIfInBounds_toArray, List.set_cons_zero, List.set_cons_succ, i64_w, i32_w]
      rfl
    refine pure_ (i := 6) (N := some 23) (v := ?_) (a' := ?_) #[true, true, true, false, false, false, true, false, false, false, false, false, false] rfl rfl (by kernel_rfl) (fun _ _ _ h => h) (Or.inl ⟨by rfl, ?_⟩) ?_ ?_
    rotate_left
    · intro w'
      go_simp
      with_reducible rfl
    rotate_left
    · simp only [Act.put, List.setIfInBounds_toArray, List.set_cons_zero, List.set_cons_succ, i64_w, i32_w]
      rfl
    refine pure_ (i := 7) (N := some 24) (v := ?_) (a' := ?_) #[true, true, true, false, false, false, true, true, false, false, false, false, false] rfl rfl (by kernel_rfl) (fun _ _ _ h => h) (Or.inl ⟨by rfl, ?_⟩) ?_ ?_
    rotate_left
    · intro w'
      go_simp
      with_reducible rfl
    rotate_left
    · simp only [Act.put, List.setIfInBounds_toArray, List.set_cons_zero, List.set_cons_succ, i64_w, i32_w]
      rfl
    refine take_ (i := 3) (N := some 20) (v := ?_) (a' := ?_) #[true, true, true, true, false, false, true, true, false, false, false, false, false] rfl rfl (by kernel_rfl) (fun _ _ _ h => h) (Or.inl ⟨by rfl, ?_⟩) hHeld ?_ ?_
    rotate_left
    · rintro w' ⟨s0, s1⟩
      go_simp
      with_reducible rfl
    rotate_left
    · simp only [Act.put, List.setIfInBounds_toArray, List.set_cons_zero, List.set_cons_succ, i64_w, i32_w]
      rfl
    refine pure_ (i := 4) (N := some 21) (v := ?_) (a' := ?_) #[true, true, true, true, true, false, true, true, false, false, false, false, false] rfl rfl (by kernel_rfl) (fun _ _ _ h => h) (Or.inl ⟨by rfl, ?_⟩) ?_ ?_
    rotate_left
    · intro w'
      go_simp
      with_reducible rfl
    rotate_left
    · simp only [Act.put, List.setIfInBounds_toArray, List.set_cons_zero, List.set_cons_succ, i64_w, i32_w]
      rfl
    refine pure_ (i := 5) (N := some 22) (v := ?_) (a' := ?_) #[true, true, true, true, true, true, true, true, false, false, false, false, false] rfl rfl (by kernel_rfl) (fun _ _ _ h => h) (Or.inl ⟨by rfl, ?_⟩) ?_ ?_
    rotate_left
    · intro w'
      go_simp
      with_reducible rfl
    rotate_left
    · simp only [Act.put, List.setIfInBounds_toArray, List.set_cons_zero, List.set_cons_succ, i64_w, i32_w]
      rfl
    refine take_ (i := 8) (N := some 25) (v := ?_) (a' := ?_) #[true, true, true, true, true, true, true, true, true, false, false, false, false] rfl rfl (by kernel_rfl) (fun _ _ _ h => h) (Or.inl ⟨by rfl, ?_⟩) hHeld ?_ ?_
    rotate_left
    · rintro w' ⟨s0, s1⟩
      go_simp
      with_reducible rfl
    rotate_left
    · simp only [Act.put, List.setIfInBounds_toArray, List.set_cons_zero, List.set_cons_succ, i64_w, i32_w]
      rfl
    refine pure_ (i := 9) (N := some 26) (v := ?_) (a' := ?_) #[true, true, true, true, true, true, true, true, true, true, false, false, false] rfl rfl (by kernel_rfl) (fun _ _ _ h => h) (Or.inl ⟨by rfl, ?_⟩) ?_ ?_
    rotate_left
    · intro w'
      go_simp
      with_reducible rfl
    rotate_left
    · simp only [Act.put, List.setIfInBounds_toArray, List.set_cons_zero, List.set_cons_succ, i64_w, i32_w]
      rfl
    refine pure_ (i := 10) (N := some 27) (v := ?_) (a' := ?_) #[true, true, true, true, true, true, true, true, true, true, true, false, false] rfl rfl (by kernel_rfl) (fun _ _ _ h => h) (Or.inl ⟨by rfl, ?_⟩) ?_ ?_
    rotate_left
    · intro w'
      go_simp
      with_reducible rfl
    rotate_left
    · simp only [Act.put, List.setIfInBounds_toArray, List.set_cons_zero, List.set_cons_succ, i64_w, i32_w]
      rfl
    refine last_ (i := 11) (N := some 28) #[true, true, true, true, true, true, true, true, true, true, true, true, false] rfl rfl (by kernel_rfl) (by decide) (fun K hK => ?_)
    refine goes_ Try.func65 (by kernel_rfl) rfl #[.pointer (some ⟨g, 0, none⟩), .int .i64 (n : Int)] (by rfl) rfl rfl (by simp only [List.map_toArray, List.map_cons, List.map_nil]; rfl) ?_
    with_reducible refine (wire_Reader_take.calls_end S g z n _ HRd2.out HL3.out).mono ?_
    rintro e w4 ⟨rfl, hR4, hF4⟩
    refine ⟨_, rfl, ?_⟩
    have HR4 := Aside0.mk hR4
    have HF4 := Aside0.mk (HFd2.out.then_ hF4 (fun _ h => .inl h))
    clear hR4 hF4
    refine hK.out _ _ ?_
    clear hK K
    refine norm_ (a' := ?_) ?_ ?_
    rotate_left
    · show Act.put _ (some 28) _ = _
      simp only [Act.put, List.setIfInBounds_toArray, List.set_cons_zero, List.set_cons_succ, i64_w, i32_w]
      rfl
    refine pure_ (i := 12) (N := some 5) (v := ?_) (a' := ?_) #[true, true, true, true, true, true, true, true, true, true, true, true, true] rfl rfl (by kernel_rfl) (fun _ _ _ h => h) (Or.inl ⟨by rfl, ?_⟩) ?_ ?_
    rotate_left
    · intro w'
      go_simp
      with_reducible rfl
    rotate_left
    · simp only [Act.put, List.setIfInBounds_toArray, List.set_cons_zero, List.set_cons_succ, i64_w, i32_w]
      rfl
    refine done_ (by kernel_rfl) ?_
    clear hHeld hcd0 hcd1 hor hw1 hw2 hw3 HRd2
    obtain ⟨A4, c4, hb4, _, _, _, _, _⟩ := HR4.out
    have HB4 := Aside0.mk hb4
    have k0 : w4.cell? ⟨g, 0, none⟩ = some (.slice A4 z.length c4) := hb4.cell 0
    have k2 : w4.cell? ⟨g, 2, none⟩ = some (.int .i64 20) := hb4.cell 2
    have f0 : w4.frozen? ⟨g, 0, none⟩ = false := hb4.frozen 0
    have hcvn : ∀ (W : World) (c : Nat), (convert 35 9 (.slice none 0 c)).run Try.prog W = .ok (.string ByteArray.empty) W := fun W c => Kd.C_string (P := Try.prog) (src := 35) (dst := 9) (e := 5) (c := c) Try.underlying35 Try.underlying5 Try.underlying9 (Kd.C_nil (Kd.int .u8) W)
    clear hb4
    go_wp2
    go_ret
    rw [HS.out]
    have hA4 : ∀ ad, A0 = some ad → ad.block ≠ g ∧ ad.block < w4.heap.size := fun ad e => ⟨(HA.out ad e).2.1, Nat.lt_of_lt_of_le (HA.out ad e).2.2 HF4.out.1.size⟩
    have hC4 : (Kd.int .u8).C w4 A0 xs.length xs := C_keptb HC.out HF4.out.2 (fun ad e => ⟨(HA.out ad e).2.1, (HA.out ad e).2.2⟩)
    exact ⟨rfl, ⟨A0, c0, by simpa using HB4.out.set_ 0 (.slice A0 xs.length c0), hc, hS, fun ad e => ⟨(HA.out ad e).1, (hA4 ad e).1, by simpa [World.setCell] using (hA4 ad e).2⟩, Rd.far hC4 hA4 0 _, HX.out⟩, HF4.out.then_ (Fr.set_ w4 g 0 _) (fun _ h => .inl h)⟩
  · have HS := HS2.out h3
    have HL5 := Aside0.mk (show n ≤ z.length by have := HZL.out; omega)
    obtain ⟨y5, hy5⟩ : ∃ y5, z.take n = y5 := ⟨_, rfl⟩
    obtain ⟨z5, hz5⟩ : ∃ z5, z.drop n = z5 := ⟨_, rfl⟩
    rw [hy5, hz5] at HS
    have HY5 := Aside0.mk hy5
    have HZ5 := Aside0.mk hz5
    replace HS := Aside0.mk HS
    clear HS1 HS2 h3 hy5 hz5
    go_enter Try.func68, Try.ntmps68
    go_upto_region 5 with (first | (go_at_call 78; (with_reducible refine (wire_Reader_none.calls g _ _ true _ HB.out).mono ?_); rintro e2 w2 ⟨rfl, hw2⟩; subst w2) | (go_at_call 65; (with_reducible refine (wire_Reader_take.calls_ok S g xs 2 2 rfl y z HY.out HZ.out _ HR.out HL.out).mono ?_); rintro e2 w2 ⟨A2, c2, rfl, hc2, hC2, hA2, hR2, hF2⟩; have HR2 := Aside0.mk hR2; have HF2 := Aside0.mk hF2; have HC2 := Aside0.mk hC2; clear hR2 hF2 hC2 hA2))
    obtain ⟨ad, e, hcd0⟩ := Kd.at_int HC2.out (0 : Nat) (by omega) (by omega)
    subst e
    obtain ⟨ad', e, hcd1⟩ := Kd.at_int HC2.out (1 : Nat) (by omega) (by omega)
    cases e
    rw [HR0.out, add0] at hcd0
    rw [HR1.out, Int.toNat_natCast, add1] at hcd1
    have q0 : 0 < y.length := by omega
    have q1 : 1 < (y.length : Int) := by omega
    replace hcd0 : w2.drew.cell? ad = some (.int .u8 a) := hcd0
    replace hcd1 : w2.drew.cell? ⟨ad.block, ad.off + 1, none⟩ = some (.int .u8 b) := hcd1
    have HRd2 := Aside0.mk (HR2.out.below ((Below.refl _ _).drew))
    have HFd2 := Aside0.mk (HF2.out.then_ (Fr.of_below ((Below.refl _ _).drew) (fun k => k = g)) (fun _ h => .inl h))
    have hor := HOR.out
    have hw1 : wrap64 (a : Int) = (a : Int) := wrapI (by omega) (by omega)
    have hw2 : wrap64 ((a : Int) * 256) = (a : Int) * 256 := wrapI (by omega) (by omega)
    have hw3 : wrap64 (b : Int) = (b : Int) := wrapI (by omega) (by omega)
    clear HC2 HR2 HF2
    go_upto_region 7 with (fail)
    refine start_ (n := 13) (S := fun w' => w'.cell? ad = some (.int .u8 a) ∧ w'.cell? ⟨ad.block, ad.off + 1, none⟩ = some (.int .u8 b)) (ds := [11]) #[false, false, false, false, false, false, false, false, false, false, false, false, false] (by kernel_rfl) rfl rfl ⟨hcd0, hcd1⟩ (fun hHeld => ?_)
    generalize w2.drew = wd at HRd2 HFd2 hcd0 hcd1 hHeld ⊢
    refine pure_ (i := 0) (N := some 17) (v := ?_) (a' := ?_) #[true, false, false, false, false, false, false, false, false, false, false, false, false] rfl rfl (by kernel_rfl) (fun _ _ _ h => h) (Or.inl ⟨by rfl, ?_⟩) ?_ ?_
    rotate_left
    · intro w'
      go_simp
      with_reducible rfl
    rotate_left
    · simp only [Act.put, List.setIfInBounds_toArray, List.set_cons_zero, List.set_cons_succ, i64_w, i32_w]
      rfl
    refine pure_ (i := 1) (N := some 18) (v := ?_) (a' := ?_) #[true, true, false, false, false, false, false, false, false, false, false, false, false] rfl rfl (by kernel_rfl) (fun _ _ _ h => h) (Or.inl ⟨by rfl, ?_⟩) ?_ ?_
    rotate_left
    · intro w'
      go_simp
      with_reducible rfl
    rotate_left
    · simp only [Act.put, List.setIfInBounds_toArray, List.set_cons_zero, List.set_cons_succ, i64_w, i32_w]
      rfl
    refine pure_ (i := 2) (N := some 19) (v := ?_) (a' := ?_) #[true, true, true, false, false, false, false, false, false, false, false, false, false] rfl rfl (by kernel_rfl) (fun _ _ _ h => h) (Or.inl ⟨by rfl, ?_⟩) ?_ ?_
    rotate_left
    · intro w'
      go_simp
      with_reducible rfl
    rotate_left
    · simp only [Act.put, List.setIfInBounds_toArray, List.set_cons_zero, List.set_cons_succ, i64_w, i32_w]
      rfl
    refine pure_ (i := 6) (N := some 23) (v := ?_) (a' := ?_) #[true, true, true, false, false, false, true, false, false, false, false, false, false] rfl rfl (by kernel_rfl) (fun _ _ _ h => h) (Or.inl ⟨by rfl, ?_⟩) ?_ ?_
    rotate_left
    · intro w'
      go_simp
      with_reducible rfl
    rotate_left
    · simp only [Act.put, List.setIfInBounds_toArray, List.set_cons_zero, List.set_cons_succ, i64_w, i32_w]
      rfl
    refine pure_ (i := 7) (N := some 24) (v := ?_) (a' := ?_) #[true, true, true, false, false, false, true, true, false, false, false, false, false] rfl rfl (by kernel_rfl) (fun _ _ _ h => h) (Or.inl ⟨by rfl, ?_⟩) ?_ ?_
    rotate_left
    · intro w'
      go_simp
      with_reducible rfl
    rotate_left
    · simp only [Act.put, List.setIfInBounds_toArray, List.set_cons_zero, List.set_cons_succ, i64_w, i32_w]
      rfl
    refine take_ (i := 3) (N := some 20) (v := ?_) (a' := ?_) #[true, true, true, true, false, false, true, true, false, false, false, false, false] rfl rfl (by kernel_rfl) (fun _ _ _ h => h) (Or.inl ⟨by rfl, ?_⟩) hHeld ?_ ?_
    rotate_left
    · rintro w' ⟨s0, s1⟩
      go_simp
      with_reducible rfl
    rotate_left
    · simp only [Act.put, List.setIfInBounds_toArray, List.set_cons_zero, List.set_cons_succ, i64_w, i32_w]
      rfl
    refine pure_ (i := 4) (N := some 21) (v := ?_) (a' := ?_) #[true, true, true, true, true, false, true, true, false, false, false, false, false] rfl rfl (by kernel_rfl) (fun _ _ _ h => h) (Or.inl ⟨by rfl, ?_⟩) ?_ ?_
    rotate_left
    · intro w'
      go_simp
      with_reducible rfl
    rotate_left
    · simp only [Act.put, List.setIfInBounds_toArray, List.set_cons_zero, List.set_cons_succ, i64_w, i32_w]
      rfl
    refine pure_ (i := 5) (N := some 22) (v := ?_) (a' := ?_) #[true, true, true, true, true, true, true, true, false, false, false, false, false] rfl rfl (by kernel_rfl) (fun _ _ _ h => h) (Or.inl ⟨by rfl, ?_⟩) ?_ ?_
    rotate_left
    · intro w'
      go_simp
      with_reducible rfl
    rotate_left
    · simp only [Act.put, List.setIfInBounds_toArray, List.set_cons_zero, List.set_cons_succ, i64_w, i32_w]
      rfl
    refine take_ (i := 8) (N := some 25) (v := ?_) (a' := ?_) #[true, true, true, true, true, true, true, true, true, false, false, false, false] rfl rfl (by kernel_rfl) (fun _ _ _ h => h) (Or.inl ⟨by rfl, ?_⟩) hHeld ?_ ?_
    rotate_left
    · rintro w' ⟨s0, s1⟩
      go_simp
      with_reducible rfl
    rotate_left
    · simp only [Act.put, List.setIfInBounds_toArray, List.set_cons_zero, List.set_cons_succ, i64_w, i32_w]
      rfl
    refine pure_ (i := 9) (N := some 26) (v := ?_) (a' := ?_) #[true, true, true, true, true, true, true, true, true, true, false, false, false] rfl rfl (by kernel_rfl) (fun _ _ _ h => h) (Or.inl ⟨by rfl, ?_⟩) ?_ ?_
    rotate_left
    · intro w'
      go_simp
      with_reducible rfl
    rotate_left
    · simp only [Act.put, List.setIfInBounds_toArray, List.set_cons_zero, List.set_cons_succ, i64_w, i32_w]
      rfl
    refine pure_ (i := 10) (N := some 27) (v := ?_) (a' := ?_) #[true, true, true, true, true, true, true, true, true, true, true, false, false] rfl rfl (by kernel_rfl) (fun _ _ _ h => h) (Or.inl ⟨by rfl, ?_⟩) ?_ ?_
    rotate_left
    · intro w'
      go_simp
      with_reducible rfl
    rotate_left
    · simp only [Act.put, List.setIfInBounds_toArray, List.set_cons_zero, List.set_cons_succ, i64_w, i32_w]
      rfl
    refine last_ (i := 11) (N := some 28) #[true, true, true, true, true, true, true, true, true, true, true, true, false] rfl rfl (by kernel_rfl) (by decide) (fun K hK => ?_)
    refine goes_ Try.func65 (by kernel_rfl) rfl #[.pointer (some ⟨g, 0, none⟩), .int .i64 (n : Int)] (by rfl) rfl rfl (by simp only [List.map_toArray, List.map_cons, List.map_nil]; rfl) ?_
    with_reducible refine (wire_Reader_take.calls_ok S g z n n rfl y5 z5 HY5.out HZ5.out _ HRd2.out HL5.out).mono ?_
    rintro e w4 ⟨A5, c5, rfl, hc5, hC5, hA5, hR4, hF4⟩
    refine ⟨_, rfl, ?_⟩
    have HR4 := Aside0.mk hR4
    have HC5 := Aside0.mk hC5
    have HF4 := Aside0.mk (HFd2.out.then_ hF4 (fun _ h => .inl h))
    clear hR4 hF4 hC5 hA5
    refine hK.out _ _ ?_
    clear hK K
    refine norm_ (a' := ?_) ?_ ?_
    rotate_left
    · show Act.put _ (some 28) _ = _
      simp only [Act.put, List.setIfInBounds_toArray, List.set_cons_zero, List.set_cons_succ, i64_w, i32_w]
      rfl
    refine pure_ (i := 12) (N := some 5) (v := ?_) (a' := ?_) #[true, true, true, true, true, true, true, true, true, true, true, true, true] rfl rfl (by kernel_rfl) (fun _ _ _ h => h) (Or.inl ⟨by rfl, ?_⟩) ?_ ?_
    rotate_left
    · intro w'
      go_simp
      with_reducible rfl
    rotate_left
    · simp only [Act.put, List.setIfInBounds_toArray, List.set_cons_zero, List.set_cons_succ, i64_w, i32_w]
      rfl
    refine done_ (by kernel_rfl) ?_
    clear hHeld hcd0 hcd1 hor hw1 hw2 hw3 HRd2
    obtain ⟨A4, c4, hb4, _, _, _, _, _⟩ := HR4.out
    have k2 : w4.cell? ⟨g, 2, none⟩ = some (.int .i64 0) := hb4.cell 2
    have hcv := Kd.C_string (P := Try.prog) (src := 35) (dst := 9) (e := 5) (c := c5) Try.underlying35 Try.underlying5 Try.underlying9 HC5.out
    clear hb4
    go_wp2
    go_ret
    rw [HS.out]
    exact ⟨rfl, HR4.out, HF4.out⟩
theorem rByte_err {xs : List Int} {e : Int} (h : e ≠ 0) : rByte xs e = (0, xs, e) := if_pos h
theorem rByte_end {xs : List Int} (h : xs.length < 1) : rByte xs 0 = (0, xs, 20) := by unfold rByte; rw [if_neg (by decide), if_pos h]
theorem rByte_ok {xs : List Int} (h : ¬ xs.length < 1) : rByte xs 0 = (rd xs 0, xs.drop 1, 0) := by unfold rByte; rw [if_neg (by decide), if_neg h]
theorem rInt_err {xs : List Int} {e : Int} (h : e ≠ 0) : rInt xs e = (0, xs, e) := if_pos h
theorem rInt_end {xs : List Int} (h : xs.length < 8) : rInt xs 0 = (0, xs, 20) := by unfold rInt; rw [if_neg (by decide), if_pos h]
theorem rInt_ok {xs : List Int} (h : ¬ xs.length < 8) : rInt xs 0 = (wrap64 (numB 0 (xs.take 8) : Int), xs.drop 8, 0) := by unfold rInt; rw [if_neg (by decide), if_neg h]
theorem rText_err {xs : List Int} {e : Int} (h : e ≠ 0) : rText xs e = (ByteArray.empty, xs, e) := if_pos h
theorem rText_end {xs : List Int} (h : xs.length < 2) : rText xs 0 = (ByteArray.empty, xs, 20) := by unfold rText; rw [if_neg (by decide), if_pos h]
theorem rText_end2 {xs : List Int} (h : ¬ xs.length < 2) (h2 : xs.length < 2 + tlen xs) : rText xs 0 = (ByteArray.empty, xs, 20) := by unfold rText; rw [if_neg (by decide), if_neg h, if_pos h2]
theorem rText_ok {xs : List Int} (h : ¬ xs.length < 2) (h2 : ¬ xs.length < 2 + tlen xs) : rText xs 0 = (strOfNums ((xs.drop 2).take (tlen xs)), xs.drop (2 + tlen xs), 0) := by unfold rText; rw [if_neg (by decide), if_neg h, if_neg h2]
theorem str_bytes (s : ByteArray) : strOfNums (bytesOf s) = s := by
  cases s with
  | mk d =>
    unfold strOfNums bytesOf
    congr 1
    rw [List.map_map]
    have : d.toList.map ((fun n : Int => UInt8.ofNat n.toNat) ∘ fun b : UInt8 => (b.toNat : Int)) = d.toList := by
      conv => rhs; rw [← List.map_id d.toList]
      refine List.map_congr_left (fun b _ => ?_)
      simp
    rw [this]
theorem big8 (n : Int) : bigL n 8 = [n / 2 ^ 56 % 256, n / 2 ^ 48 % 256, n / 2 ^ 40 % 256, n / 2 ^ 32 % 256, n / 2 ^ 24 % 256, n / 2 ^ 16 % 256, n / 2 ^ 8 % 256, n % 256] := by
  simp [bigL, bigB, List.range_succ]
theorem bigL_B (n : Int) (m : Nat) : ∀ x ∈ bigL n m, 0 ≤ x ∧ x ≤ 255 := by
  intro x hx
  obtain ⟨i, _, rfl⟩ := List.mem_map.1 hx
  unfold bigB
  omega
theorem bytesOf_B (s : ByteArray) : ∀ x ∈ bytesOf s, 0 ≤ x ∧ x ≤ 255 := by
  intro x hx
  obtain ⟨b, _, rfl⟩ := List.mem_map.1 hx
  have := b.toNat_lt
  omega
theorem ints8_B (l : List Int) : ∀ x ∈ ints8 l, 0 ≤ x ∧ x ≤ 255 := by
  intro x hx
  obtain ⟨y, _, hy⟩ := List.mem_flatMap.1 hx
  exact bigL_B _ _ x hy
theorem textsB_B (l : List ByteArray) : ∀ x ∈ textsB l, 0 ≤ x ∧ x ≤ 255 := by
  intro x hx
  obtain ⟨y, _, hy⟩ := List.mem_flatMap.1 hx
  rcases List.mem_append.1 hy with h | h
  · exact bigL_B _ _ x h
  · exact bytesOf_B _ x h
theorem numB_eight (x : Int) (h0 : 0 ≤ x) (h1 : x < 18446744073709551616) : (numB 0 (bigL x 8) : Int) = x := by
  obtain ⟨n, rfl⟩ := Int.eq_ofNat_of_zero_le h0
  rw [big8]
  have e : ∀ k : Nat, ((n : Int) / 2 ^ k % 256).toNat = n / 2 ^ k % 256 := fun k => by
    have : ((n : Int) / 2 ^ k % 256) = ((n / 2 ^ k % 256 : Nat) : Int) := by
      rw [Int.natCast_emod, Int.natCast_ediv, Int.natCast_pow]
      rfl
    rw [this, Int.toNat_natCast]
  have e0 : ((n : Int) % 256).toNat = n % 256 := by omega
  simp only [numB, List.foldl_cons, List.foldl_nil, e, e0]
  omega
theorem rInt_back (x : Int) (rest : List Int) (h0 : -9223372036854775808 ≤ x) (h1 : x ≤ 9223372036854775807) : rInt (bigL (IntKind.u64.wrap x) 8 ++ rest) 0 = (x, rest, 0) := by
  have hl := bigL_len' (IntKind.u64.wrap x) 8
  rw [rInt_ok (by rw [List.length_append]; omega), List.take_append_of_le_length (by omega), List.take_of_length_le (by omega), List.drop_append_of_le_length (by omega), List.drop_eq_nil_of_le (by omega), List.nil_append]
  have hn := numB_eight (IntKind.u64.wrap x) (u64_wrap_lo x) (by rw [wrapU64]; omega)
  rw [hn, wrapU64]
  congr 1
  unfold wrap64
  omega
theorem tlen_back (s : ByteArray) (rest : List Int) (h : s.size ≤ 65535) : tlen (textB s ++ rest) = s.size := by
  have h2 : bigL (s.size : Int) 2 = [(s.size : Int) / 256 % 256, (s.size : Int) % 256] := by simp [bigL, bigB, List.range_succ]
  unfold tlen textB
  rw [h2]
  simp only [List.cons_append, List.nil_append, rd, Int.toNat_natCast, List.getD_cons_zero, List.getD_cons_succ]
  omega
theorem rText_back (s : ByteArray) (rest : List Int) (h : s.size ≤ 65535) : rText (textB s ++ rest) 0 = (s, rest, 0) := by
  have hb := bigL_len' (s.size : Int) 2
  have hs := bytesOf_length s
  have ht := tlen_back s rest h
  have hl : (textB s ++ rest).length = 2 + s.size + rest.length := by unfold textB; rw [List.length_append, List.length_append, hb, hs]
  have hd : (textB s ++ rest).drop 2 = bytesOf s ++ rest := by
    unfold textB
    rw [List.append_assoc, List.drop_append_of_le_length (by omega), List.drop_eq_nil_of_le (by omega), List.nil_append]
  rw [rText_ok (by omega) (by rw [ht]; omega), ht, ← List.drop_drop, hd, List.take_append_of_le_length (by omega), List.take_of_length_le (by omega), List.drop_append_of_le_length (by omega), List.drop_eq_nil_of_le (by omega), List.nil_append, str_bytes]
theorem rByte_back (b : Int) (rest : List Int) : rByte (b :: rest) 0 = (b, rest, 0) := by
  rw [rByte_ok (by simp)]
  rfl
theorem ints8_cons (x : Int) (l : List Int) : ints8 (x :: l) = bigL (IntKind.u64.wrap x) 8 ++ ints8 l := rfl
theorem textsB_cons (x : ByteArray) (l : List ByteArray) : textsB (x :: l) = textB x ++ textsB l := rfl
theorem drop_cons_ {α : Type} (l : List α) (j : Nat) (h : j < l.length) : l.drop j = l[j] :: l.drop (j + 1) := List.drop_eq_getElem_cons h
/-- One reader. -/
def OneR (w0 w : World) (g : Nat) (xs : List Int) (e : Int) : Prop := ∃ S, Rd w S g xs e ∧ (∀ k, S k → w0.heap.size ≤ k) ∧ Below w0.heap.size w0 w
section
variable {w0 w w' : World} {g : Nat} {l xs : List Int} {e : Int}
theorem OneR.bel (h : OneR w0 w g xs e) : Below w0.heap.size w0 w := by
  obtain ⟨_, _, _, h⟩ := h
  exact h
theorem OneR.below (h : OneR w0 w g xs e) (hb : Below w.heap.size w w') : OneR w0 w' g xs e := by
  obtain ⟨S, h1, h2, h4⟩ := h
  exact ⟨S, h1.below hb, h2, h4.trans (hb.mono h4.size)⟩
theorem OneR.step {S : Nat → Prop} {xs' : List Int} {e' : Int} (hg : S g) (h2 : ∀ k, S k → w0.heap.size ≤ k) (h4 : Below w0.heap.size w0 w) (h1 : Rd w' S g xs' e') (hf : Fr w w' (fun k => k = g)) : OneR w0 w' g xs' e' := ⟨S, h1, h2, h4.trans (hf.below h4.size (fun k hk => by subst hk; exact h2 _ hg))⟩
theorem Rd.own {S : Nat → Prop} (h : Rd w S g xs e) : S g := by
  obtain ⟨_, _, _, _, h, _⟩ := h
  exact h
theorem intR1 {v : Int} {xs' : List Int} (hx : rInt xs 0 = (v, xs', 0)) (h : OneR w0 w g xs 0) : Calls Try.prog 43 #[.pointer (some ⟨g, 0, none⟩)] w fun en w' => en = .returned (.int .i64 v) ∧ OneR w0 w' g xs' 0 := by
  obtain ⟨S, h1, h2, h4⟩ := h
  have := wire_Reader_Int.calls S g xs 0 w h1
  rw [hx] at this
  exact this.mono fun en w' ⟨he, hr, hf⟩ => ⟨he, OneR.step h1.own h2 h4 hr hf⟩
theorem textR1 {v : ByteArray} {xs' : List Int} (hx : rText xs 0 = (v, xs', 0)) (h : OneR w0 w g xs 0) : Calls Try.prog 68 #[.pointer (some ⟨g, 0, none⟩)] w fun en w' => en = .returned (.string v) ∧ OneR w0 w' g xs' 0 := by
  obtain ⟨S, h1, h2, h4⟩ := h
  have := wire_Reader_Text.calls S g xs 0 w h1
  rw [hx] at this
  exact this.mono fun en w' ⟨he, hr, hf⟩ => ⟨he, OneR.step h1.own h2 h4 hr hf⟩
theorem byteR1 {v : Int} {xs' : List Int} (hx : rByte xs 0 = (v, xs', 0)) (h : OneR w0 w g xs 0) : Calls Try.prog 42 #[.pointer (some ⟨g, 0, none⟩)] w fun en w' => en = .returned (.int .i64 v) ∧ OneR w0 w' g xs' 0 := by
  obtain ⟨S, h1, h2, h4⟩ := h
  have := wire_Reader_Byte.calls S g xs 0 w h1
  rw [hx] at this
  exact this.mono fun en w' ⟨he, hr, hf⟩ => ⟨he, OneR.step h1.own h2 h4 hr hf⟩
theorem doneR1 (h : OneR w0 w g xs e) : Calls Try.prog 45 #[.pointer (some ⟨g, 0, none⟩)] w fun en w' => en = .returned (.int .i64 (rDone xs e)) ∧ OneR w0 w' g xs e := by
  obtain ⟨S, h1, h2, h4⟩ := h
  exact (wire_Reader_Done.calls S g xs e w h1).mono fun en w' ⟨he, hb⟩ => ⟨he, hb ▸ ⟨S, h1, h2, h4⟩⟩
end
def isBb (x : Int) : Bool := decide (0 ≤ x) && decide (x ≤ 255)
theorem isBb_all {l : List Int} (h : l.all isBb = true) : ∀ x ∈ l, 0 ≤ x ∧ x ≤ 255 := fun x hx => by
  have := List.all_eq_true.1 h x hx
  simpa [isBb] using this


end Go.Proofs.Ytlmlkcobkmhmbaa.Q
end

section
-- written by hprint.py (a program of these sessions) out of the translation; Lean checks it
namespace Go.Proofs.Ytlmlkcobkmhmbaa.Q
open Go.RowKit Go.Proofs.YtlmlkcobkmhmbaaW.Hb Go.Proofs.YtlmlkcobkmhmbaaW.PrintWords Go.Proofs.YtlmlkcobkmhmbaaW.PrintLast Go.Proofs.YtlmlkcobkmhmbaaW.PrintMore
attribute [local go_sem] max2_int min2_int max_two min_two max_three min_three max_four min_four   -- for this text's walks alone
set_option linter.unusedVariables false
set_option linter.unusedSimpArgs false

/-! ### message_log: function 44, by hand -/
/-- The program's reader, told by what is left; its blocks lie from w0 on, below b. -/
def Or (w0 w : World) (b g : Nat) (xs : List Int) (e : Int) : Prop := ∃ S, Rd w S g xs e ∧ (∀ k, S k → w0.heap.size ≤ k ∧ k < b) ∧ b ≤ w.heap.size ∧ Below w0.heap.size w0 w
section
variable {w0 w w' : World} {b g : Nat} {xs xs' : List Int} {e e' : Int}
theorem Or.bel (h : Or w0 w b g xs e) : Below w0.heap.size w0 w := h.choose_spec.2.2.2
theorem Or.le (h : Or w0 w b g xs e) : b ≤ w.heap.size := h.choose_spec.2.2.1
theorem Or.g_in (h : Or w0 w b g xs e) : w0.heap.size ≤ g ∧ g < b := by
  obtain ⟨S, h1, h2, _⟩ := h
  exact h2 g h1.own
theorem Or.B (h : Or w0 w b g xs e) : ∀ x ∈ xs, 0 ≤ x ∧ x ≤ 255 := by
  obtain ⟨S, h1, _⟩ := h
  exact h1.B
theorem Or.kept {S2 : Nat → Prop} (h : Or w0 w b g xs e) (hk : Kept w w' S2) (hd : ∀ k, S2 k → b ≤ k) (hb : Below w0.heap.size w w') : Or w0 w' b g xs e := by
  obtain ⟨S, h1, h2, h3, h4⟩ := h
  exact ⟨S, h1.kept hk (fun k hS h => by have := (h2 k hS).2; have := hd k h; omega), h2, Nat.le_trans h3 hk.1, h4.trans hb⟩
theorem Or.below (h : Or w0 w b g xs e) (hb : Below b w w') : Or w0 w' b g xs e :=
  h.kept (S2 := fun k => b ≤ k) ⟨hb.size, fun i hi hn => hb.block i (by omega)⟩ (fun _ h => h) (hb.mono (by have := h.g_in; omega))
theorem Or.step {S : Nat → Prop} (h1 : Rd w S g xs e) (h2 : ∀ k, S k → w0.heap.size ≤ k ∧ k < b) (h3 : b ≤ w.heap.size) (h4 : Below w0.heap.size w0 w) (hr : Rd w' S g xs' e') (hf : Fr w w' (fun k => k = g)) : Or w0 w' b g xs' e' :=
  ⟨S, hr, h2, Nat.le_trans h3 hf.1.size, h4.trans (hf.below h4.size (fun k hk => by subst hk; exact (h2 _ h1.own).1))⟩
theorem byteQ {v : Int} (h : Or w0 w b g xs e) (hx : rByte xs e = (v, xs', e')) : Calls Try.prog 42 #[.pointer (some ⟨g, 0, none⟩)] w fun en w' => en = .returned (.int .i64 v) ∧ Or w0 w' b g xs' e' ∧ Fr w w' (fun k => k = g) := by
  obtain ⟨S, h1, h2, h3, h4⟩ := h
  have := wire_Reader_Byte.calls S g xs e w h1
  rw [hx] at this
  exact this.mono fun en w' ⟨he, hr, hf⟩ => ⟨he, Or.step h1 h2 h3 h4 hr hf, hf⟩
theorem intQ {v : Int} (h : Or w0 w b g xs e) (hx : rInt xs e = (v, xs', e')) : Calls Try.prog 43 #[.pointer (some ⟨g, 0, none⟩)] w fun en w' => en = .returned (.int .i64 v) ∧ Or w0 w' b g xs' e' ∧ Fr w w' (fun k => k = g) := by
  obtain ⟨S, h1, h2, h3, h4⟩ := h
  have := wire_Reader_Int.calls S g xs e w h1
  rw [hx] at this
  exact this.mono fun en w' ⟨he, hr, hf⟩ => ⟨he, Or.step h1 h2 h3 h4 hr hf, hf⟩
theorem textQ {v : ByteArray} (h : Or w0 w b g xs e) (hx : rText xs e = (v, xs', e')) : Calls Try.prog 68 #[.pointer (some ⟨g, 0, none⟩)] w fun en w' => en = .returned (.string v) ∧ Or w0 w' b g xs' e' ∧ Fr w w' (fun k => k = g) := by
  obtain ⟨S, h1, h2, h3, h4⟩ := h
  have := wire_Reader_Text.calls S g xs e w h1
  rw [hx] at this
  exact this.mono fun en w' ⟨he, hr, hf⟩ => ⟨he, Or.step h1 h2 h3 h4 hr hf, hf⟩
theorem errQ (h : Or w0 w b g xs e) : Calls Try.prog 67 #[.pointer (some ⟨g, 0, none⟩)] w fun en w' => en = .returned (.int .i64 e) ∧ w' = w := by
  obtain ⟨S, h1, h2, h3, h4⟩ := h
  exact wire_Reader_Err.calls S g xs e w h1
theorem doneQ (h : Or w0 w b g xs e) : Calls Try.prog 45 #[.pointer (some ⟨g, 0, none⟩)] w fun en w' => en = .returned (.int .i64 (rDone xs e)) ∧ w' = w := by
  obtain ⟨S, h1, h2, h3, h4⟩ := h
  exact wire_Reader_Done.calls S g xs e w h1
end
/-- The entries that a reader has. -/
def readL {α : Type} (mk : Int → ByteArray → α) : Nat → List Int → Int → List α → List α × List Int × Int
  | 0, xs, e, l => (l, xs, e)
  | n + 1, xs, e, l => if e ≠ 0 then (l, xs, e) else readL mk n (rText (rInt xs e).2.1 (rInt xs e).2.2).2.1 (rText (rInt xs e).2.1 (rInt xs e).2.2).2.2 (l ++ [mk (rInt xs e).1 (rText (rInt xs e).2.1 (rInt xs e).2.2).1])
def rdLog {α : Type} (mk : Int → ByteArray → α) (xs : List Int) (e : Int) : List α × List Int × Int := readL mk ((rByte xs e).1 * 256 + (rByte (rByte xs e).2.1 (rByte xs e).2.2).1).toNat (rByte (rByte xs e).2.1 (rByte xs e).2.2).2.1 (rByte (rByte xs e).2.1 (rByte xs e).2.2).2.2 []
theorem readL_0 {α : Type} (mk : Int → ByteArray → α) (xs : List Int) (e : Int) (l : List α) : readL mk 0 xs e l = (l, xs, e) := rfl
theorem readL_err {α : Type} (mk : Int → ByteArray → α) (n : Nat) (xs : List Int) {e : Int} (he : e ≠ 0) (l : List α) : readL mk n xs e l = (l, xs, e) := by
  cases n with
  | zero => rfl
  | succ n => rw [readL, if_pos he]
theorem readL_step {α : Type} (mk : Int → ByteArray → α) {n : Nat} {xs xs1 xs2 : List Int} {e1 e2 v : Int} {s : ByteArray} (h1 : rInt xs 0 = (v, xs1, e1)) (h2 : rText xs1 e1 = (s, xs2, e2)) (l : List α) : readL mk (n + 1) xs 0 l = readL mk n xs2 e2 (l ++ [mk v s]) := by
  rw [readL, if_neg (by decide), h1]
  simp only [h2]
theorem rdLog_is {α : Type} (mk : Int → ByteArray → α) {xs xs1 xs2 : List Int} {e e1 e2 v1 v2 : Int} {n : Nat} (h1 : rByte xs e = (v1, xs1, e1)) (h2 : rByte xs1 e1 = (v2, xs2, e2)) (hn : v1 * 256 + v2 = (n : Int)) : rdLog mk xs e = readL mk n xs2 e2 [] := by
  unfold rdLog
  simp only [h1, h2, hn, Int.toNat_natCast]
theorem rByte_in {xs xs1 : List Int} {e e1 v : Int} (hB : ∀ x ∈ xs, 0 ≤ x ∧ x ≤ 255) (h : rByte xs e = (v, xs1, e1)) : 0 ≤ v ∧ v ≤ 255 := by
  by_cases he : e ≠ 0
  · rw [rByte_err he] at h
    cases h
    omega
  · obtain rfl : e = 0 := by omega
    by_cases h1 : xs.length < 1
    · rw [rByte_end h1] at h
      cases h
      omega
    · rw [rByte_ok h1] at h
      cases h
      exact rd_in hB 0 (by omega)
def mkE (v : Int) (s : ByteArray) : S74 := ⟨v, s⟩
set_option maxRecDepth 100000 in
set_option maxHeartbeats 2000000 in
theorem message_log.calls (w0 w : World) (b g : Nat) (xs : List Int) (e : Int) (ls : List S74) (xs' : List Int) (e' : Int) (h : Or w0 w b g xs e) (hx : rdLog mkE xs e = (ls, xs', e')) :
    Calls Try.prog 44 #[.pointer (some ⟨g, 0, none⟩)] w fun en w' => ∃ v, en = .returned v ∧ Kd.R k74 74 w' w0.heap.size (fun k => w.heap.size ≤ k) v ls ∧ Or w0 w' b g xs' e' ∧ Kept w w' (fun k => k = g) := by
  obtain ⟨v1, xs1, e1, h1⟩ : ∃ v1 xs1 e1, rByte xs e = (v1, xs1, e1) := ⟨_, _, _, rfl⟩
  obtain ⟨v2, xs2, e2, h2⟩ : ∃ v2 xs2 e2, rByte xs1 e1 = (v2, xs2, e2) := ⟨_, _, _, rfl⟩
  have hv1 := rByte_in h.B h1
  have hv2 := rByte_in (fun x hx => by
    by_cases he : e ≠ 0
    · rw [rByte_err he] at h1; cases h1; exact h.B x hx
    · obtain rfl : e = 0 := by omega
      by_cases h3 : xs.length < 1
      · rw [rByte_end h3] at h1; cases h1; exact h.B x hx
      · rw [rByte_ok h3] at h1; cases h1; exact h.B x (List.mem_of_mem_drop hx)) h2
  obtain ⟨p1, p2⟩ := hv1
  obtain ⟨p3, p4⟩ := hv2
  obtain ⟨a1, rfl⟩ := Int.eq_ofNat_of_zero_le p1
  obtain ⟨a2, rfl⟩ := Int.eq_ofNat_of_zero_le p3
  have hor := or_i64 a1 a2 (by omega) (by omega)
  obtain ⟨n, hn⟩ : ∃ n : Nat, a1 * 256 + a2 = n := ⟨_, rfl⟩
  rw [hn] at hor
  have hn2 : n ≤ 65535 := by omega
  have HX := Aside0.mk (show readL mkE n xs2 e2 [] = (ls, xs', e') by rw [← rdLog_is mkE h1 h2 (by omega)]; exact hx)
  have hw2 : wrap64 ((a1 : Int) * 256) = (a1 : Int) * 256 := wrapI (by omega) (by omega)
  have HO := Aside0.mk h
  have H1 := Aside0.mk h1
  have H2 := Aside0.mk h2
  have hgi := h.g_in
  have hble := h.le
  clear h hx h1 h2 p1 p2 p3 p4 hn
  go_enter Try.func44, Try.ntmps44
  go_wp2_with (first | (go_at_call 42; (with_reducible refine (byteQ HO.out H1.out).mono ?_); rintro en w3 ⟨rfl, hO3, hF3⟩; have HO3 := Aside0.mk hO3; have HK3 := Aside0.mk hF3.2; clear hO3 hF3) | (go_at_call 42; (with_reducible refine (byteQ HO3.out H2.out).mono ?_); rintro en w4 ⟨rfl, hO4, hF4⟩; have HO4 := Aside0.mk hO4; have HK4 := Aside0.mk (HK3.out.then_ hF4.2 (fun _ h => .inl h)); clear hO4 hF4))
  clear hor hw2
  go_loopw [3, 4] (fun v i wr => ∃ (m : Nat) (ys : List Int) (ee : Int) (l : List S74), i = .int .i64 m ∧ l.length + m ≤ 65535 ∧ Aside0 (readL mkE m ys ee l = (ls, xs', e')) ∧ Aside0 (Or w0 wr b g ys ee) ∧ Aside0 (Kept w wr (fun k => k = g)) ∧ Aside0 (Kd.R k74 74 wr w0.heap.size (fun k => w.heap.size ≤ k) v l)) (fun _ i _ => (intOf i).toNat)
  case atStart => exact ⟨n, xs2, e2, [], rfl, by simpa using hn2, HX, HO4, HK4, ⟨Kd.R_nil _ _ _ _ _⟩⟩
  case round =>
    clear HX HO HO3 HO4 HK3 HK4 H1 H2 hn2
    obtain ⟨m, ys, ee, l, rfl, hlm, HX, HO, HK, HR⟩ := hrel
    rcases Nat.eq_zero_or_pos m with h0 | h0
    · subst h0
      have hX := HX.out
      rw [readL_0] at hX
      have HE := Aside0.mk hX
      clear hX
      have hz : ¬ (0 : Int) < ((0 : Nat) : Int) := by omega
      go_wp2
      go_ret
      obtain ⟨q1, hX⟩ := Prod.mk.inj HE.out
      obtain ⟨q2, q3⟩ := Prod.mk.inj hX
      exact ⟨_, rfl, by rw [← q1]; exact HR.out, by rw [← q2, ← q3]; exact HO.out, HK.out⟩
    · have hz : (0 : Int) < (m : Int) := by omega
      by_cases he : ee = 0
      · subst he
        obtain ⟨m, rfl⟩ : ∃ m', m = m' + 1 := ⟨m - 1, by omega⟩
        obtain ⟨v5, xs5, e5, h5⟩ : ∃ v1 xs1 e1, rInt ys 0 = (v1, xs1, e1) := ⟨_, _, _, rfl⟩
        obtain ⟨s6, xs6, e6, h6⟩ : ∃ v1 xs1 e1, rText xs5 e5 = (v1, xs1, e1) := ⟨_, _, _, rfl⟩
        have hX := HX.out
        rw [readL_step mkE h5 h6] at hX
        have HX2 := Aside0.mk hX
        have H5 := Aside0.mk h5
        have H6 := Aside0.mk h6
        have HLN := Aside0.mk (show (l.length + 1) * 24 ≤ 140737488355328 by omega)
        clear hX h5 h6 HX
        go_wp2_with (first | (go_at_call 67; (with_reducible refine (errQ HO.out).mono ?_); rintro en w4 ⟨rfl, hw4⟩; subst w4) | (go_at_call 43; (with_reducible refine (intQ HO.out H5.out).mono ?_); rintro en w5 ⟨rfl, hO5, hF5⟩; have HO5 := Aside0.mk hO5; have HK5 := Aside0.mk (HK.out.then_ hF5.2 (fun _ h => .inl h)); have HR5 := Aside0.mk (Kd.R_kept HR.out hF5.2 (fun k hk h => by omega)); clear hO5 hF5) | (go_at_call 68; (with_reducible refine (textQ HO5.out H6.out).mono ?_); rintro en w6 ⟨rfl, hO6, hF6⟩; have HO6 := Aside0.mk hO6; have HK6 := Aside0.mk (HK5.out.then_ hF6.2 (fun _ h => .inl h)); have HR6 := Aside0.mk (Kd.R_kept HR5.out hF6.2 (fun k hk h => by omega)); have HA6 := Aside0.mk ((Below.refl w6.heap.size w6).alloc (Nat.le_refl _) (.cells #[.int .i64 v5, .string s6] 74)); have HC6 := Aside0.mk (C_of_reps (d := k74) (Blk.new w6 74 #[.int .i64 v5, .string s6]) [mkE v5 s6] (Reps_one (c := [.int .i64 v5, .string s6]) (k74_mk _ (mkE v5 s6)) rfl) (by simp)); have HR7 := Aside0.mk (Kd.R_below HR6.out HA6.out); have HO7 := Aside0.mk (HO6.out.below (HA6.out.mono HO6.out.le)); have HK7 := Aside0.mk (HK6.out.below HA6.out); clear hO6 hF6) | ((with_reducible refine gate_builtin (b := .append) (xs := #[.tmp 20, .tmp 26]) rfl ?_); at_builtin; refine Kd.R_append_rows k74 (w0 := w0) (Rr := k74.K (w6.alloc (.cells #[.int .i64 v5, .string s6] 74))) w0.heap.size rfl (.tmp 20) (.tmp 26) 23 74 (.agg #[(.int .i64 0), (.string ⟨#[]⟩)]) 24 rfl Try.underlying23 info74 rfl (by decide) (by omega) u3 l [mkE v5 s6] (some ⟨w6.heap.size, 0, none⟩) 1 1 (fun k => w.heap.size ≤ k) (fun _ => False) rfl rfl HR7.out HC6.out (fun x cs hK => by have := k74_open hK; subst this; exact k74_mkM _ _ _ _) (fun _ hk => hk.elim) (fun k hk => Nat.le_trans HK7.out.1 hk) HO7.out.bel HO7.out.bel.size HLN.out ?_; intro v8 w8 hR8 hB8 hG8 hA8; have HR8 := Aside0.mk hR8; have HB8 := Aside0.mk hB8; have HG8 := Aside0.mk hG8; clear hR8 hB8 hG8 hA8))
        have HN := Aside0.mk (show ∀ k, u3.ownBlock = some k → w.heap.size ≤ k from fun k hk => HR.out.1 k hk)
        have HK8 := Aside0.mk (Kept.of_grown HG8.out HK7.out (fun k hk => .inr (HN.out k hk)))
        have HO8 := Aside0.mk (show Or w0 w8 b g xs6 e6 by
          obtain ⟨S, q1, q2, q3, q4⟩ := HO7.out
          exact ⟨S, q1.kept (S2 := fun k => u3.ownBlock = some k) ⟨HG8.out.size, fun i hi hn => HG8.out.block i hi (fun he => hn he.symm)⟩ (fun k hk h => by have := HN.out k h; have := (q2 k hk).2; omega), q2, Nat.le_trans q3 HG8.out.size, HB8.out⟩)
        go_roundw
        case rel => exact ⟨m, xs6, e6, l ++ [mkE v5 s6], by first | rfl | go_num, by rw [List.length_append, List.length_singleton]; omega, HX2, HO8, HK8, HR8⟩
        case measure => first | (simp [intOf]; done) | (simp [intOf]; omega)
      · have hd : (ee == 0) = false := by simp [he]
        have hX := HX.out
        rw [readL_err mkE m ys he] at hX
        have HE := Aside0.mk hX
        clear hX he
        go_wp2_with (go_at_call 67; (with_reducible refine (errQ HO.out).mono ?_); rintro en w4 ⟨rfl, hw4⟩; subst w4)
        go_ret
        obtain ⟨q1, hX⟩ := Prod.mk.inj HE.out
        obtain ⟨q2, q3⟩ := Prod.mk.inj hX
        exact ⟨_, rfl, by rw [← q1]; exact HR.out, by rw [← q2, ← q3]; exact HO.out, HK.out⟩


end Go.Proofs.Ytlmlkcobkmhmbaa.Q
end

section
/- messages as bytes: what is written, and how it is read back (plain laws) -/
set_option linter.unusedVariables false
set_option linter.unusedSimpArgs false
namespace Go.Proofs.Ytlmlkcobkmhmbaa.ThMsg
open Go.RowKit Go.Proofs.YtlmlkcobkmhmbaaW.PrintWords Go.Proofs.YtlmlkcobkmhmbaaW.Hb Go.Proofs.Ytlmlkcobkmhmbaa.Q

/-! ### what is written -/
def entBytes (v : Int) (s : ByteArray) : List Int := bigL (IntKind.u64.wrap v) 8 ++ textB s
def logB (l : List S74) : List Int := l.flatMap (fun x => entBytes x.f0 x.f1)
def headB (n : Nat) : List Int := [(n : Int) / 256, (n : Int) % 256]
def allB (by_ is_ : List Int) (l : List S74) : List Int := by_ ++ (ints8 is_ ++ (headB l.length ++ logB l))
def Good (P : List Int) (st : List Int × Int) : Prop := (st.2 = 0 ∧ st.1 = P ∧ P.length ≤ 1048576) ∨ (st.2 = 6 ∧ 1048576 < P.length)
theorem good_more {P p : List Int} {st : List Int × Int} (h : Good P st) : Good (P ++ p) ((wmore st.1 p).1, mustE st.2 (wmore st.1 p).2) := by
  obtain ⟨L, E⟩ := st
  rcases h with ⟨h1, h2, h3⟩ | ⟨h1, h2⟩
  · simp only at h1 h2
    subst h1 h2
    simp only [mustE_0]
    by_cases ht : 1048576 - (L.length : Int) < (p.length : Int)
    · rw [wmore_no ht]
      exact .inr ⟨rfl, by rw [List.length_append]; omega⟩
    · rw [wmore_yes ht]
      exact .inl ⟨rfl, rfl, by rw [List.length_append]; omega⟩
  · simp only at h1
    subst h1
    exact .inr ⟨rfl, by rw [List.length_append]; omega⟩
theorem good_text {P : List Int} {st : List Int × Int} {s : ByteArray} (h : Good P st) (hs : s.size ≤ 65535) : Good (P ++ textB s) ((wtexts st.1 [s]).1, mustE st.2 (wtexts st.1 [s]).2) := by
  have e : wtexts st.1 [s] = wmore st.1 (textB s) := by
    unfold wtexts
    have : tlong s = false := decide_eq_false (by omega)
    simp [this, textsB]
  rw [e]
  exact good_more h
theorem good_bytes {P p : List Int} {st : List Int × Int} (h : Good P st) (hp : ∀ x ∈ p, 0 ≤ x ∧ x ≤ 255) : Good (P ++ p) ((wbytes st.1 p).1, mustE st.2 (wbytes st.1 p).2) := by
  rw [wbytes_ok (fun x hx => badB_ok (hp x hx).1 (hp x hx).2)]
  exact good_more h
theorem good_put1 {P : List Int} {st : List Int × Int} {x : S74} (h : Good P st) (hs : x.f1.size ≤ 65535) : Good (P ++ entBytes x.f0 x.f1) (wput1 st x) := by
  have h1 := good_more (p := ints8 [x.f0]) h
  have h2 := good_text h1 hs
  have e : ints8 [x.f0] = bigL (IntKind.u64.wrap x.f0) 8 := by simp [ints8]
  unfold entBytes
  rw [← List.append_assoc, ← e]
  exact h2
theorem good_puts : ∀ (xs : List S74) (P : List Int) (st : List Int × Int), Good P st → (∀ x ∈ xs, x.f1.size ≤ 65535) → Good (P ++ logB xs) (wputs st xs)
  | [], P, st, h, _ => by simpa [logB, wputs] using h
  | x :: xs, P, st, h, hs => by
    have h1 := good_put1 h (hs x (List.mem_cons_self ..))
    have h2 := good_puts xs _ _ h1 (fun y hy => hs y (List.mem_cons_of_mem _ hy))
    have e : P ++ logB (x :: xs) = P ++ entBytes x.f0 x.f1 ++ logB xs := by simp [logB]
    rw [e]
    exact h2
theorem headB_in (n : Nat) (h : n ≤ 2048) : ∀ x ∈ headB n, 0 ≤ x ∧ x ≤ 255 := by
  intro x hx
  simp only [headB, List.mem_cons, List.not_mem_nil, or_false] at hx
  rcases hx with rfl | rfl <;> omega
theorem good_log {P : List Int} {st : List Int × Int} (xs : List S74) (h : Good P st) (hn : xs.length ≤ 2048) (hs : ∀ x ∈ xs, x.f1.size ≤ 65535) : Good (P ++ (headB xs.length ++ logB xs)) (wlog st xs) := by
  have h1 := good_bytes h (headB_in xs.length hn)
  have h2 := good_puts xs _ _ h1 hs
  rw [← List.append_assoc]
  exact h2
theorem wall_eq (by_ is_ : List Int) (l : List S74) (hb : ∀ x ∈ by_, 0 ≤ x ∧ x ≤ 255) (hn : l.length ≤ 2048) (hs : ∀ x ∈ l, x.f1.size ≤ 65535) : wall by_ is_ l = if (allB by_ is_ l).length ≤ 1048576 then (allB by_ is_ l, 0) else ([], 6) := by
  have h0 : Good [] ([], 0) := .inl ⟨rfl, rfl, by simp⟩
  have h1 := good_bytes h0 hb
  simp only [mustE_0, List.nil_append] at h1
  have h2 := good_more (p := ints8 is_) h1
  have h3 := good_log l h2 hn hs
  simp only at h3
  unfold wall
  rw [show allB by_ is_ l = by_ ++ ints8 is_ ++ (headB l.length ++ logB l) by simp [allB]]
  rcases h3 with ⟨g1, g2, g3⟩ | ⟨g1, g2⟩
  · rw [if_pos g3, g1, penRes_0, g2]
  · rw [if_neg (by omega), g1]
    rfl

/-! ### how it is read -/
theorem readL_back {α : Type} (mk : Int → ByteArray → α) : ∀ (xs : List S74) (rest : List Int) (acc : List α), (∀ x ∈ xs, x.f1.size ≤ 65535 ∧ -9223372036854775808 ≤ x.f0 ∧ x.f0 ≤ 9223372036854775807) → readL mk xs.length (logB xs ++ rest) 0 acc = (acc ++ xs.map (fun x => mk x.f0 x.f1), rest, 0)
  | [], rest, acc, _ => by simp [readL, logB]
  | x :: xs, rest, acc, h => by
    have hx := h x (List.mem_cons_self ..)
    have e : logB (x :: xs) ++ rest = bigL (IntKind.u64.wrap x.f0) 8 ++ (textB x.f1 ++ (logB xs ++ rest)) := by simp [logB, entBytes]
    rw [e, List.length_cons, readL_step mk (rInt_back x.f0 _ hx.2.1 hx.2.2) (rText_back x.f1 _ hx.1), readL_back mk xs rest _ (fun y hy => h y (List.mem_cons_of_mem _ hy))]
    simp
theorem rdLog_back {α : Type} (mk : Int → ByteArray → α) (xs : List S74) (rest : List Int) (hn : xs.length ≤ 2048) (h : ∀ x ∈ xs, x.f1.size ≤ 65535 ∧ -9223372036854775808 ≤ x.f0 ∧ x.f0 ≤ 9223372036854775807) : rdLog mk (headB xs.length ++ logB xs ++ rest) 0 = (xs.map (fun x => mk x.f0 x.f1), rest, 0) := by
  have h1 := rByte_back ((xs.length : Int) / 256) ((xs.length : Int) % 256 :: (logB xs ++ rest))
  have h2 := rByte_back ((xs.length : Int) % 256) (logB xs ++ rest)
  have e : headB xs.length ++ logB xs ++ rest = (xs.length : Int) / 256 :: (xs.length : Int) % 256 :: (logB xs ++ rest) := by simp [headB]
  rw [e, rdLog_is mk h1 h2 (n := xs.length) (by omega), readL_back mk xs rest [] h]
  simp
theorem rByte_ext {xs r t : List Int} {v : Int} (h : rByte xs 0 = (v, r, 0)) : rByte (xs ++ t) 0 = (v, r ++ t, 0) := by
  cases xs with
  | nil => rw [rByte_end (by simp)] at h; cases h
  | cons x xs =>
    rw [rByte_back] at h
    obtain ⟨rfl, h2⟩ := Prod.mk.inj h
    obtain ⟨rfl, _⟩ := Prod.mk.inj h2
    exact rByte_back _ _
theorem rInt_ext {xs r t : List Int} {v : Int} (h : rInt xs 0 = (v, r, 0)) : rInt (xs ++ t) 0 = (v, r ++ t, 0) := by
  by_cases hl : xs.length < 8
  · rw [rInt_end hl] at h; cases h
  · rw [rInt_ok hl] at h
    obtain ⟨rfl, h2⟩ := Prod.mk.inj h
    obtain ⟨rfl, _⟩ := Prod.mk.inj h2
    rw [rInt_ok (by rw [List.length_append]; omega), List.take_append_of_le_length (by omega), List.drop_append_of_le_length (by omega)]
theorem rText_ext {xs r t : List Int} {v : ByteArray} (h : rText xs 0 = (v, r, 0)) : rText (xs ++ t) 0 = (v, r ++ t, 0) := by
  by_cases hl : xs.length < 2
  · rw [rText_end hl] at h; cases h
  · have et : tlen (xs ++ t) = tlen xs := by
      unfold tlen
      have e : ∀ i : Nat, i < xs.length → rd (xs ++ t) (i : Int) = rd xs (i : Int) := fun i hi => by
        simp only [rd, Int.toNat_natCast, List.getD_eq_getElem?_getD, List.getElem?_append_left hi]
      rw [e 0 (by omega), e 1 (by omega)]
    by_cases hl2 : xs.length < 2 + tlen xs
    · rw [rText_end2 hl hl2] at h; cases h
    · rw [rText_ok hl hl2] at h
      obtain ⟨rfl, h2⟩ := Prod.mk.inj h
      obtain ⟨rfl, _⟩ := Prod.mk.inj h2
      rw [rText_ok (by rw [List.length_append]; omega) (by rw [List.length_append, et]; omega), et, List.drop_append_of_le_length (by omega), List.take_append_of_le_length (by rw [List.length_drop]; omega), List.drop_append_of_le_length (by omega)]
theorem rByte_stick {xs r : List Int} {e v : Int} (h : rByte xs e = (v, r, 0)) : e = 0 := by
  by_cases he : e ≠ 0
  · rw [rByte_err he] at h
    cases h
    rfl
  · omega
theorem rInt_stick {xs r : List Int} {e v : Int} (h : rInt xs e = (v, r, 0)) : e = 0 := by
  by_cases he : e ≠ 0
  · rw [rInt_err he] at h
    cases h
    rfl
  · omega
theorem rText_stick {xs r : List Int} {e : Int} {v : ByteArray} (h : rText xs e = (v, r, 0)) : e = 0 := by
  by_cases he : e ≠ 0
  · rw [rText_err he] at h
    cases h
    rfl
  · omega
theorem readL_stick {α : Type} (mk : Int → ByteArray → α) {n : Nat} {xs r : List Int} {e : Int} {acc l : List α} (h : readL mk n xs e acc = (l, r, 0)) : e = 0 := by
  by_cases he : e ≠ 0
  · rw [readL_err mk n xs he] at h
    cases h
    rfl
  · omega
theorem readL_ext {α : Type} (mk : Int → ByteArray → α) {t : List Int} : ∀ (n : Nat) (xs r : List Int) (acc l : List α), readL mk n xs 0 acc = (l, r, 0) → readL mk n (xs ++ t) 0 acc = (l, r ++ t, 0)
  | 0, xs, r, acc, l, h => by
    rw [readL_0] at h
    cases h
    rfl
  | n + 1, xs, r, acc, l, h => by
    obtain ⟨v, x1, e1, h1⟩ : ∃ v x e, rInt xs 0 = (v, x, e) := ⟨_, _, _, rfl⟩
    obtain ⟨s, x2, e2, h2⟩ : ∃ v x e, rText x1 e1 = (v, x, e) := ⟨_, _, _, rfl⟩
    rw [readL_step mk h1 h2] at h
    obtain rfl := readL_stick mk h
    obtain rfl := rText_stick h2
    rw [readL_step mk (rInt_ext h1) (rText_ext h2)]
    exact readL_ext mk n _ _ _ _ h
theorem rdLog_stick {α : Type} (mk : Int → ByteArray → α) {xs r : List Int} {e : Int} {l : List α} (h : rdLog mk xs e = (l, r, 0)) : e = 0 := by
  unfold rdLog at h
  have h1 := readL_stick mk h
  obtain ⟨v, x1, e1, q1⟩ : ∃ v x e', rByte xs e = (v, x, e') := ⟨_, _, _, rfl⟩
  obtain ⟨v2, x2, e2, q2⟩ : ∃ v x e', rByte x1 e1 = (v, x, e') := ⟨_, _, _, rfl⟩
  rw [q1] at h1
  simp only [q2] at h1
  subst h1
  obtain rfl := rByte_stick q2
  exact rByte_stick q1
theorem rdLog_ext {α : Type} (mk : Int → ByteArray → α) {t xs r : List Int} {l : List α} (h : rdLog mk xs 0 = (l, r, 0)) : rdLog mk (xs ++ t) 0 = (l, r ++ t, 0) := by
  unfold rdLog at h ⊢
  have h1 := readL_stick mk h
  obtain ⟨v, x1, e1, q1⟩ : ∃ v x e', rByte xs 0 = (v, x, e') := ⟨_, _, _, rfl⟩
  obtain ⟨v2, x2, e2, q2⟩ : ∃ v x e', rByte x1 e1 = (v, x, e') := ⟨_, _, _, rfl⟩
  rw [q1] at h h1
  simp only [q2] at h h1
  subst h1
  obtain rfl := rByte_stick q2
  rw [rByte_ext q1]
  simp only [rByte_ext q2]
  exact readL_ext mk _ _ _ _ _ h

/-! ### a message, a record, read whole -/
structure DM (α : Type) where
  a : Int
  b : Int
  c : Int
  d : Int
  e : Int
  f : Int
  g : Int
  l : List α
  r : List Int
  er : Int
def decM {α : Type} (mk : Int → ByteArray → α) (l : List Int) : DM α :=
  let k := rByte l 0; let fr := rByte k.2.1 k.2.2; let t := rByte fr.2.1 fr.2.2; let v := rInt t.2.1 t.2.2; let o := rInt v.2.1 v.2.2; let c := rInt o.2.1 o.2.2; let n := rInt c.2.1 c.2.2; let g := rdLog mk n.2.1 n.2.2
  ⟨k.1, fr.1, t.1, v.1, o.1, c.1, n.1, g.1, g.2.1, g.2.2⟩
theorem decM_is {α : Type} (mk : Int → ByteArray → α) {l x1 x2 x3 x4 x5 x6 x7 x8 : List Int} {v1 v2 v3 v4 v5 v6 v7 e1 e2 e3 e4 e5 e6 e7 e8 : Int} {ls : List α} (h1 : rByte l 0 = (v1, x1, e1)) (h2 : rByte x1 e1 = (v2, x2, e2)) (h3 : rByte x2 e2 = (v3, x3, e3)) (h4 : rInt x3 e3 = (v4, x4, e4)) (h5 : rInt x4 e4 = (v5, x5, e5)) (h6 : rInt x5 e5 = (v6, x6, e6)) (h7 : rInt x6 e6 = (v7, x7, e7)) (h8 : rdLog mk x7 e7 = (ls, x8, e8)) :
    decM mk l = ⟨v1, v2, v3, v4, v5, v6, v7, ls, x8, e8⟩ := by
  simp only [decM, h1, h2, h3, h4, h5, h6, h7, h8]
theorem decM_ext {α : Type} (mk : Int → ByteArray → α) {t xs r : List Int} {a b c d e f g : Int} {l : List α} (h : decM mk xs = ⟨a, b, c, d, e, f, g, l, r, 0⟩) : decM mk (xs ++ t) = ⟨a, b, c, d, e, f, g, l, r ++ t, 0⟩ := by
  obtain ⟨v1, x1, e1, h1⟩ : ∃ v x e', rByte xs 0 = (v, x, e') := ⟨_, _, _, rfl⟩
  obtain ⟨v2, x2, e2, h2⟩ : ∃ v x e', rByte x1 e1 = (v, x, e') := ⟨_, _, _, rfl⟩
  obtain ⟨v3, x3, e3, h3⟩ : ∃ v x e', rByte x2 e2 = (v, x, e') := ⟨_, _, _, rfl⟩
  obtain ⟨v4, x4, e4, h4⟩ : ∃ v x e', rInt x3 e3 = (v, x, e') := ⟨_, _, _, rfl⟩
  obtain ⟨v5, x5, e5, h5⟩ : ∃ v x e', rInt x4 e4 = (v, x, e') := ⟨_, _, _, rfl⟩
  obtain ⟨v6, x6, e6, h6⟩ : ∃ v x e', rInt x5 e5 = (v, x, e') := ⟨_, _, _, rfl⟩
  obtain ⟨v7, x7, e7, h7⟩ : ∃ v x e', rInt x6 e6 = (v, x, e') := ⟨_, _, _, rfl⟩
  obtain ⟨ls, x8, e8, h8⟩ : ∃ v x e', rdLog mk x7 e7 = (v, x, e') := ⟨_, _, _, rfl⟩
  rw [decM_is mk h1 h2 h3 h4 h5 h6 h7 h8] at h
  obtain ⟨rfl, rfl, rfl, rfl, rfl, rfl, rfl, rfl, rfl, rfl⟩ : v1 = a ∧ v2 = b ∧ v3 = c ∧ v4 = d ∧ v5 = e ∧ v6 = f ∧ v7 = g ∧ ls = l ∧ x8 = r ∧ e8 = 0 := by simpa using h
  obtain rfl := rdLog_stick mk h8
  obtain rfl := rInt_stick h7
  obtain rfl := rInt_stick h6
  obtain rfl := rInt_stick h5
  obtain rfl := rInt_stick h4
  obtain rfl := rByte_stick h3
  obtain rfl := rByte_stick h2
  exact decM_is mk (rByte_ext h1) (rByte_ext h2) (rByte_ext h3) (rInt_ext h4) (rInt_ext h5) (rInt_ext h6) (rInt_ext h7) (rdLog_ext mk h8)
structure DR (α : Type) where
  a : Int
  b : Int
  c : Int
  d : Int
  l : List α
  r : List Int
  er : Int
def decR {α : Type} (mk : Int → ByteArray → α) (l : List Int) : DR α :=
  let k := rByte l 0; let v := rInt k.2.1 k.2.2; let o := rInt v.2.1 v.2.2; let c := rInt o.2.1 o.2.2; let g := rdLog mk c.2.1 c.2.2
  ⟨k.1, v.1, o.1, c.1, g.1, g.2.1, g.2.2⟩
theorem decR_is {α : Type} (mk : Int → ByteArray → α) {l x1 x2 x3 x4 x8 : List Int} {v1 v2 v3 v4 e1 e2 e3 e4 e8 : Int} {ls : List α} (h1 : rByte l 0 = (v1, x1, e1)) (h2 : rInt x1 e1 = (v2, x2, e2)) (h3 : rInt x2 e2 = (v3, x3, e3)) (h4 : rInt x3 e3 = (v4, x4, e4)) (h8 : rdLog mk x4 e4 = (ls, x8, e8)) :
    decR mk l = ⟨v1, v2, v3, v4, ls, x8, e8⟩ := by
  simp only [decR, h1, h2, h3, h4, h8]
theorem decR_ext {α : Type} (mk : Int → ByteArray → α) {t xs r : List Int} {a b c d : Int} {l : List α} (h : decR mk xs = ⟨a, b, c, d, l, r, 0⟩) : decR mk (xs ++ t) = ⟨a, b, c, d, l, r ++ t, 0⟩ := by
  obtain ⟨v1, x1, e1, h1⟩ : ∃ v x e', rByte xs 0 = (v, x, e') := ⟨_, _, _, rfl⟩
  obtain ⟨v2, x2, e2, h2⟩ : ∃ v x e', rInt x1 e1 = (v, x, e') := ⟨_, _, _, rfl⟩
  obtain ⟨v3, x3, e3, h3⟩ : ∃ v x e', rInt x2 e2 = (v, x, e') := ⟨_, _, _, rfl⟩
  obtain ⟨v4, x4, e4, h4⟩ : ∃ v x e', rInt x3 e3 = (v, x, e') := ⟨_, _, _, rfl⟩
  obtain ⟨ls, x8, e8, h8⟩ : ∃ v x e', rdLog mk x4 e4 = (v, x, e') := ⟨_, _, _, rfl⟩
  rw [decR_is mk h1 h2 h3 h4 h8] at h
  obtain ⟨rfl, rfl, rfl, rfl, rfl, rfl, rfl⟩ : v1 = a ∧ v2 = b ∧ v3 = c ∧ v4 = d ∧ ls = l ∧ x8 = r ∧ e8 = 0 := by simpa using h
  obtain rfl := rdLog_stick mk h8
  obtain rfl := rInt_stick h4
  obtain rfl := rInt_stick h3
  obtain rfl := rInt_stick h2
  exact decR_is mk (rByte_ext h1) (rInt_ext h2) (rInt_ext h3) (rInt_ext h4) (rdLog_ext mk h8)

/-! ### there and back -/
def I64 (x : Int) : Prop := -9223372036854775808 ≤ x ∧ x ≤ 9223372036854775807
def FitL (l : List S74) : Prop := l.length ≤ 2048 ∧ ∀ x ∈ l, x.f1.size ≤ 65535 ∧ -9223372036854775808 ≤ x.f0 ∧ x.f0 ≤ 9223372036854775807
theorem ints8_four (a b c d : Int) (rest : List Int) : ints8 [a, b, c, d] ++ rest = bigL (IntKind.u64.wrap a) 8 ++ (bigL (IntKind.u64.wrap b) 8 ++ (bigL (IntKind.u64.wrap c) 8 ++ (bigL (IntKind.u64.wrap d) 8 ++ rest))) := by simp [ints8]
theorem ints8_three (a b c : Int) (rest : List Int) : ints8 [a, b, c] ++ rest = bigL (IntKind.u64.wrap a) 8 ++ (bigL (IntKind.u64.wrap b) 8 ++ (bigL (IntKind.u64.wrap c) 8 ++ rest)) := by simp [ints8]
theorem decM_back {α : Type} (mk : Int → ByteArray → α) (a b c d e f g : Int) (l : List S74) (rest : List Int) (hd : I64 d) (he : I64 e) (hf : I64 f) (hg : I64 g) (hl : FitL l) :
    decM mk (allB [a, b, c] [d, e, f, g] l ++ rest) = ⟨a, b, c, d, e, f, g, l.map (fun x => mk x.f0 x.f1), rest, 0⟩ := by
  have e1 : allB [a, b, c] [d, e, f, g] l ++ rest = a :: b :: c :: (ints8 [d, e, f, g] ++ (headB l.length ++ logB l ++ rest)) := by simp [allB]
  rw [e1, ints8_four]
  exact decM_is mk (rByte_back _ _) (rByte_back _ _) (rByte_back _ _) (rInt_back _ _ hd.1 hd.2) (rInt_back _ _ he.1 he.2) (rInt_back _ _ hf.1 hf.2) (rInt_back _ _ hg.1 hg.2) (rdLog_back mk l rest hl.1 hl.2)
theorem decR_back {α : Type} (mk : Int → ByteArray → α) (a b c d : Int) (l : List S74) (rest : List Int) (hb : I64 b) (hc : I64 c) (hd : I64 d) (hl : FitL l) :
    decR mk (allB [a] [b, c, d] l ++ rest) = ⟨a, b, c, d, l.map (fun x => mk x.f0 x.f1), rest, 0⟩ := by
  have e1 : allB [a] [b, c, d] l ++ rest = a :: (ints8 [b, c, d] ++ (headB l.length ++ logB l ++ rest)) := by simp [allB]
  rw [e1, ints8_three]
  exact decR_is mk (rByte_back _ _) (rInt_back _ _ hb.1 hb.2) (rInt_back _ _ hc.1 hc.2) (rInt_back _ _ hd.1 hd.2) (rdLog_back mk l rest hl.1 hl.2)
theorem rDone_0 (r : List Int) (e : Int) : rDone r e = 0 ↔ e = 0 ∧ r = [] := by
  unfold rDone
  by_cases he : e ≠ 0
  · rw [if_pos he]
    constructor
    · intro h; exact absurd h he
    · intro h; exact h.1
  · rw [if_neg he]
    by_cases hr : 0 < r.length
    · rw [if_pos hr]
      constructor
      · intro h; cases h
      · intro h; rw [h.2] at hr; simp at hr
    · rw [if_neg hr]
      constructor
      · intro _; exact ⟨by omega, List.eq_nil_of_length_eq_zero (by omega)⟩
      · intro _; rfl
/-! ### what may be -/
theorem mkE_id (l : List S74) : l.map (fun x => mkE x.f0 x.f1) = l := by
  conv => rhs; rw [← List.map_id l]
  exact List.map_congr_left (fun x _ => rfl)
theorem outR_in {n : Int} (h : outR n = false) : 0 ≤ n ∧ n ≤ 1099511627776 := by
  simp only [outR, Bool.or_eq_false_iff, decide_eq_false_iff_not] at h
  omega
theorem rightM_in {k fr t v o c n : Int} {l : List S74} (h : rightM k fr t v o c n l = true) : (1 ≤ k ∧ k ≤ 8) ∧ (0 ≤ fr ∧ fr < 8) ∧ (0 ≤ t ∧ t < 8) ∧ (0 ≤ v ∧ v ≤ 1099511627776) ∧ (0 ≤ o ∧ o ≤ 1099511627776) ∧ (0 ≤ c ∧ c ≤ 1099511627776) ∧ (0 ≤ n ∧ n ≤ 1099511627776) ∧ entB l = true := by
  simp only [rightM, Bool.and_eq_true, Bool.not_eq_true', decide_eq_true_eq, List.any_cons, List.any_nil, Bool.or_false, Bool.or_eq_false_iff] at h
  obtain ⟨_, ⟨⟨⟨⟨h1, h2⟩, h3⟩, h4⟩, h5, h6, h7, h8⟩, h9⟩ := h
  exact ⟨⟨h1, h2⟩, idB_t h3, idB_t h4, outR_in h5, outR_in h6, outR_in h7, outR_in h8, h9⟩
theorem rightR_in {k v o c : Int} {l : List S74} (h : rightR ⟨k, v, o, c, l⟩ = true) : (1 ≤ k ∧ k ≤ 3) ∧ (0 ≤ v ∧ v ≤ 1099511627776) ∧ (0 ≤ o ∧ o ≤ 1099511627776) ∧ (0 ≤ c ∧ c ≤ 1099511627776) ∧ entB l = true := by
  simp only [rightR, Bool.and_eq_true, Bool.not_eq_true', decide_eq_true_eq, List.any_cons, List.any_nil, Bool.or_false, Bool.or_eq_false_iff] at h
  obtain ⟨⟨⟨⟨h1, h2⟩, _⟩, h5, h6, h7⟩, h9⟩ := h
  exact ⟨⟨h1, h2⟩, outR_in h5, outR_in h6, outR_in h7, h9⟩
theorem fitL_of {l : List S74} (h : entB l = true) : FitL l := by
  refine ⟨(entB_is h).1, fun x hx => ?_⟩
  simp only [entB, Bool.and_eq_true, decide_eq_true_eq, Bool.not_eq_true', List.any_eq_false] at h
  have := h.2 x hx
  simp only [outE, Bool.not_eq_true, Bool.or_eq_false_iff, decide_eq_false_iff_not] at this
  have := outR_in this.1
  omega
theorem nums_str (l : List Int) (h : ∀ x ∈ l, 0 ≤ x ∧ x ≤ 255) : bytesOf (strOfNums l) = l := by
  unfold strOfNums bytesOf
  simp only [List.map_map]
  conv => rhs; rw [← List.map_id l]
  refine List.map_congr_left (fun x hx => ?_)
  have := h x hx
  simp
  omega
theorem logB_in (l : List S74) : ∀ x ∈ logB l, 0 ≤ x ∧ x ≤ 255 := by
  intro x hx
  obtain ⟨y, _, hy⟩ := List.mem_flatMap.1 hx
  rcases List.mem_append.1 hy with h | h
  · exact bigL_B _ _ x h
  · rcases List.mem_append.1 h with h | h
    · exact bigL_B _ _ x h
    · exact bytesOf_B _ x h
theorem allB_in {by_ is_ : List Int} {l : List S74} (hb : ∀ x ∈ by_, 0 ≤ x ∧ x ≤ 255) (hn : l.length ≤ 2048) : ∀ x ∈ allB by_ is_ l, 0 ≤ x ∧ x ≤ 255 := by
  intro x hx
  rcases List.mem_append.1 hx with h | h
  · exact hb x h
  · rcases List.mem_append.1 h with h | h
    · exact ints8_B _ x h
    · rcases List.mem_append.1 h with h | h
      · exact headB_in _ hn x h
      · exact logB_in _ x h
end Go.Proofs.Ytlmlkcobkmhmbaa.ThMsg
end

section
/- the law functions' own helpers, told plainly: messages -/
set_option linter.unusedVariables false
set_option linter.unusedSimpArgs false
namespace Go.Proofs.Ytlmlkcobkmhmbaa.ThMsl
open Go.RowKit Go.Proofs.YtlmlkcobkmhmbaaW.PrintWords Go.Proofs.YtlmlkcobkmhmbaaW.Hb Go.Proofs.Ytlmlkcobkmhmbaa.Q Go.Proofs.Ytlmlkcobkmhmbaa.ThMsg

theorem wrap_in {x : Int} (h0 : -9223372036854775808 ≤ x) (h1 : x ≤ 9223372036854775807) : wrap64 x = x := by
  unfold wrap64
  omega
theorem str_beq (a b : ByteArray) : (a.toList == b.toList) = decide (a = b) := by
  by_cases h : a = b
  · subst h
    simp
  · have : a.toList ≠ b.toList := fun he => h (by
      simp only [ByteArray.toList_eq] at he
      cases a; cases b
      simpa using he)
    simp [h, this]
instance : DecidableEq S74 := fun x y => decidable_of_iff ((x.f0, x.f1) = (y.f0, y.f1)) (by cases x; cases y; simp)
def toE (e : S113) : S74 := ⟨e.f0, e.f1⟩
theorem log_loop (l : List S113) (hl : l.length * 24 ≤ 140737488351232) (d : Nat) : ∀ i, l.length - i = d → i ≤ l.length → Ev (fun k => weighhouselaw17_Log.l0 k l ((l.take i).map toE) i) (l.map toE) := by
  induction d with
  | zero =>
    intro i hd hi
    refine Ev.step (f := fun _ => some (l.map toE)) (fun k => ?_) (Ev.now _)
    simp only [weighhouselaw17_Log.l0]
    rw [if_neg (by omega), List.take_of_length_le (by omega)]
  | succ d ih =>
    intro i hd hi
    refine Ev.step (f := fun k => weighhouselaw17_Log.l0 k l ((l.take (i + 1)).map toE) ((i + 1 : Nat) : Int)) (fun k => ?_) (ih (i + 1) (by omega) (by omega))
    simp only [weighhouselaw17_Log.l0]
    have e1 : rd_T113 l (i : Int) = l[i]'(by omega) := by simp [rd_T113, List.getD_eq_getElem?_getD, show i < l.length by omega]
    rw [if_pos (by omega), if_pos (by omega), if_pos (by rw [List.length_map, List.length_take]; omega), wrap_in (by omega) (by omega), e1, List.take_succ_eq_append_getElem (by omega), List.map_append]
    rfl
theorem log_ev (l : List S113) (hl : l.length * 24 ≤ 140737488351232) : Ev (fun k => weighhouselaw17_Log.f k l) (l.map toE) := by
  have := log_loop l hl l.length 0 (by omega) (by omega)
  simpa [weighhouselaw17_Log.f] using this
theorem message_ev (a b c d e f g : Int) (l : List S113) (hl : l.length * 24 ≤ 140737488351232) : Ev (fun k => weighhouselaw17_Message.f k a b c d e f g l) (a, b, c, d, e, f, g, l.map toE) := by
  unfold weighhouselaw17_Message.f
  exact Ev.bind (log_ev _ hl) (Ev.now _)
theorem ent_eq (x y : S74) : ((!((x.f0 == y.f0)) || (!((x.f1.toList) == (y.f1.toList)))) = true) ↔ ¬ x = y := by
  rw [str_beq]
  obtain ⟨a, s⟩ := x
  obtain ⟨b, t⟩ := y
  simp only [Bool.or_eq_true, Bool.not_eq_true', S74.mk.injEq]
  by_cases h1 : a = b <;> by_cases h2 : s = t <;> simp [h1, h2]
theorem same_loop (l m : List S74) (hl : l.length = m.length) (hm : l.length ≤ 4611686018427387904) (d : Nat) : ∀ i, l.length - i = d → i ≤ l.length → l.take i = m.take i → Ev (fun k => weighhouselaw17_SameLog.l0 k l m i) (decide (l = m)) := by
  induction d with
  | zero =>
    intro i hd hi ht
    have : l = m := by
      rw [← List.take_of_length_le (show l.length ≤ i by omega), ht, List.take_of_length_le (by omega)]
    refine Ev.step (f := fun _ => some (decide (l = m))) (fun k => ?_) (Ev.now _)
    simp only [weighhouselaw17_SameLog.l0]
    rw [if_neg (by omega), this]
    simp
  | succ d ih =>
    intro i hd hi ht
    have hil : i < l.length := by omega
    have hjl : i < m.length := by omega
    have e1 : rd_T74 l (i : Int) = l[i] := by simp [rd_T74, List.getD_eq_getElem?_getD, hil]
    have e2 : rd_T74 m (i : Int) = m[i] := by simp [rd_T74, List.getD_eq_getElem?_getD, hjl]
    by_cases h : l[i] = m[i]
    · refine Ev.step (f := fun k => weighhouselaw17_SameLog.l0 k l m ((i + 1 : Nat) : Int)) (fun k => ?_) (ih (i + 1) (by omega) (by omega) (by rw [List.take_succ_eq_append_getElem hil, List.take_succ_eq_append_getElem hjl, ht, h]))
      simp only [weighhouselaw17_SameLog.l0]
      rw [if_pos (by omega), if_pos (by omega), if_pos (by omega), e1, e2, if_neg (by rw [ent_eq]; simpa using h), wrap_in (by omega) (by omega)]
      rfl
    · have hne : ¬ l = m := fun he => h (by subst he; rfl)
      refine Ev.step (f := fun _ => some false) (fun k => ?_) (by simp only [hne, decide_false]; exact Ev.now _)
      simp only [weighhouselaw17_SameLog.l0]
      rw [if_pos (by omega), if_pos (by omega), if_pos (by omega), e1, e2, if_pos (by rw [ent_eq]; exact h)]
theorem sameLog_ev (l m : List S74) (hm : l.length ≤ 4611686018427387904) : Ev (fun k => weighhouselaw17_SameLog.f k l m) (decide (l = m)) := by
  unfold weighhouselaw17_SameLog.f
  by_cases h : (l.length : Int) = (m.length : Int)
  · simp only [if_pos h]
    exact same_loop l m (by omega) hm l.length 0 (by omega) (by omega) (by simp)
  · simp only [if_neg h]
    have hne : ¬ l = m := fun he => h (by subst he; rfl)
    simp only [hne, decide_false]
    exact Ev.now _
structure M74 where
  a : Int
  b : Int
  c : Int
  d : Int
  e : Int
  f : Int
  g : Int
  l : List S74
instance : DecidableEq M74 := fun x y => decidable_of_iff (((x.a, x.b, x.c, x.d) = (y.a, y.b, y.c, y.d)) ∧ ((x.e, x.f, x.g, x.l) = (y.e, y.f, y.g, y.l))) (by cases x; cases y; simp; constructor <;> intro h <;> simp_all)
theorem same_ev (x y : M74) (hm : x.l.length ≤ 4611686018427387904) : Ev (fun k => weighhouselaw17_Same.f k x.a x.b x.c x.d x.e x.f x.g x.l y.a y.b y.c y.d y.e y.f y.g y.l) (decide (x = y)) := by
  obtain ⟨a, b, c, d, e, f, g, l⟩ := x
  obtain ⟨a', b', c', d', e', f', g', l'⟩ := y
  simp only [M74.mk.injEq]
  unfold weighhouselaw17_Same.f
  by_cases h1 : a = a'
  rotate_left
  · simp only [if_neg h1, h1, false_and, decide_false]; exact Ev.now _
  by_cases h2 : b = b'
  rotate_left
  · simp only [if_pos h1, if_neg h2, h2, false_and, and_false, decide_false]; exact Ev.now _
  by_cases h3 : c = c'
  rotate_left
  · simp only [if_pos h1, if_pos h2, if_neg h3, h3, false_and, and_false, decide_false]; exact Ev.now _
  by_cases h4 : d = d'
  rotate_left
  · simp only [if_pos h1, if_pos h2, if_pos h3, if_neg h4, h4, false_and, and_false, decide_false]; exact Ev.now _
  by_cases h5 : e = e'
  rotate_left
  · simp only [if_pos h1, if_pos h2, if_pos h3, if_pos h4, if_neg h5, h5, false_and, and_false, decide_false]; exact Ev.now _
  by_cases h6 : f = f'
  rotate_left
  · simp only [if_pos h1, if_pos h2, if_pos h3, if_pos h4, if_pos h5, if_neg h6, h6, false_and, and_false, decide_false]; exact Ev.now _
  by_cases h7 : g = g'
  rotate_left
  · simp only [if_pos h1, if_pos h2, if_pos h3, if_pos h4, if_pos h5, if_pos h6, if_neg h7, h7, false_and, and_false, decide_false]; exact Ev.now _
  simp only [if_pos h1, if_pos h2, if_pos h3, if_pos h4, if_pos h5, if_pos h6, if_pos h7]
  have e : decide (a = a' ∧ b = b' ∧ c = c' ∧ d = d' ∧ e = e' ∧ f = f' ∧ g = g' ∧ l = l') = decide (l = l') := by simp [h1, h2, h3, h4, h5, h6, h7]
  rw [e]
  exact Ev.bind (sameLog_ev l l' hm) (Ev.now _)
/-! ### what Put says -/
def putM (x : M74) : List Int × Int := if rightM x.a x.b x.c x.d x.e x.f x.g x.l = true then wall [x.a, x.b, x.c] [x.d, x.e, x.f, x.g] x.l else ([], 1)
def bytesM (x : M74) : List Int := allB [x.a, x.b, x.c] [x.d, x.e, x.f, x.g] x.l
theorem by3 {a b c : Int} (ha : 0 ≤ a ∧ a ≤ 255) (hb : 0 ≤ b ∧ b ≤ 255) (hc : 0 ≤ c ∧ c ≤ 255) : ∀ x ∈ [a, b, c], 0 ≤ x ∧ x ≤ 255 := by
  intro x hx
  simp only [List.mem_cons, List.not_mem_nil, or_false] at hx
  rcases hx with rfl | rfl | rfl <;> assumption
theorem putM_right {x : M74} (h : rightM x.a x.b x.c x.d x.e x.f x.g x.l = true) : putM x = if (bytesM x).length ≤ 1048576 then (bytesM x, 0) else ([], 6) := by
  have hh := rightM_in h
  have hf := fitL_of hh.2.2.2.2.2.2.2
  unfold putM bytesM
  rw [if_pos h, wall_eq _ _ _ (by3 (by omega) (by omega) (by omega)) hf.1 (fun y hy => (hf.2 y hy).1)]
theorem putM_0 {x : M74} (h : (putM x).2 = 0) : rightM x.a x.b x.c x.d x.e x.f x.g x.l = true ∧ (bytesM x).length ≤ 1048576 ∧ putM x = (bytesM x, 0) := by
  by_cases hr : rightM x.a x.b x.c x.d x.e x.f x.g x.l = true
  · rw [putM_right hr] at h ⊢
    by_cases hl : (bytesM x).length ≤ 1048576
    · rw [if_pos hl]; exact ⟨hr, hl, rfl⟩
    · rw [if_neg hl] at h; cases h
  · unfold putM at h
    rw [if_neg hr] at h
    cases h
theorem decM_bytes {x : M74} (h : rightM x.a x.b x.c x.d x.e x.f x.g x.l = true) (rest : List Int) : decM mkE (bytesM x ++ rest) = ⟨x.a, x.b, x.c, x.d, x.e, x.f, x.g, x.l, rest, 0⟩ := by
  have hh := rightM_in h
  unfold bytesM
  rw [decM_back mkE x.a x.b x.c x.d x.e x.f x.g x.l rest (by unfold I64; omega) (by unfold I64; omega) (by unfold I64; omega) (by unfold I64; omega) (fitL_of hh.2.2.2.2.2.2.2), mkE_id]
theorem bytesM_in {x : M74} (h : rightM x.a x.b x.c x.d x.e x.f x.g x.l = true) : ∀ y ∈ bytesM x, 0 ≤ y ∧ y ≤ 255 := by
  have hh := rightM_in h
  exact allB_in (by3 (by omega) (by omega) (by omega)) (fitL_of hh.2.2.2.2.2.2.2).1
theorem bytesM_inj {x y : M74} (hx : rightM x.a x.b x.c x.d x.e x.f x.g x.l = true) (hy : rightM y.a y.b y.c y.d y.e y.f y.g y.l = true) (h : bytesM x = bytesM y) : x = y := by
  have h1 := decM_bytes hx []
  have h2 := decM_bytes hy []
  rw [h, h2] at h1
  obtain ⟨q1, q2, q3, q4, q5, q6, q7, q8⟩ : y.a = x.a ∧ y.b = x.b ∧ y.c = x.c ∧ y.d = x.d ∧ y.e = x.e ∧ y.f = x.f ∧ y.g = x.g ∧ y.l = x.l := by simpa using h1
  cases x; cases y
  simp_all
theorem str_same {l m : List Int} (hl : ∀ x ∈ l, 0 ≤ x ∧ x ≤ 255) (hm : ∀ x ∈ m, 0 ≤ x ∧ x ≤ 255) : ((strOfNums l).toList == (strOfNums m).toList) = decide (l = m) := by
  rw [str_beq]
  by_cases h : l = m
  · simp [h]
  · have : ¬ strOfNums l = strOfNums m := fun he => h (by rw [← nums_str l hl, ← nums_str m hm, he])
    simp [h, this]
end Go.Proofs.Ytlmlkcobkmhmbaa.ThMsl
end

section
/- MessageApart: the pure statement, proved: two messages have the same bytes just if they are the same -/
set_option linter.unusedVariables false
set_option linter.unusedSimpArgs false
namespace Go.Proofs.Ytlmlkcobkmhmbaa.PuMessageApart
open Go.RowKit Go.Proofs.YtlmlkcobkmhmbaaW.PrintWords Go.Proofs.YtlmlkcobkmhmbaaW.Hb Go.Proofs.YtlmlkcobkmhmbaaW.Ho Go.Proofs.Ytlmlkcobkmhmbaa.Q Go.Proofs.Ytlmlkcobkmhmbaa.OpMessageApart Go.Proofs.Ytlmlkcobkmhmbaa.ThMsg Go.Proofs.Ytlmlkcobkmhmbaa.ThMsl

def mOf (x : S34) : M74 := ⟨x.f0, x.f1, x.f2, x.f3, x.f4, x.f5, x.f6, x.f7.map toE⟩
theorem pure : Pure := by
  intro x y hx hy
  have hlx : x.f7.length * 24 ≤ 140737488351232 := hx.2.2.2.2.2.2.2.1
  have hly : y.f7.length * 24 ≤ 140737488351232 := hy.2.2.2.2.2.2.2.1
  have hmx := message_ev x.f0 x.f1 x.f2 x.f3 x.f4 x.f5 x.f6 x.f7 hlx
  have hmy := message_ev y.f0 y.f1 y.f2 y.f3 y.f4 y.f5 y.f6 y.f7 hly
  refine Ev.rounds (r := true) ?_
  unfold weighhouselaw17_MessageApart.f
  refine Ev.bind hmx ?_
  simp only [message_Put.f, Option.bind_some]
  refine Ev.bind hmy ?_
  simp only [weighhouselaw17_num.f, Option.bind_some]
  change Ev (fun n => if (putM (mOf x)).2 = 0 then weighhouselaw17_MessageApart.j0 n (putM (mOf x)).1 (putM (mOf y)).1 ((putM (mOf y)).2 != 0) _ _ _ _ _ _ _ _ _ _ _ _ _ _ _ _ else weighhouselaw17_MessageApart.j0 n (putM (mOf x)).1 (putM (mOf y)).1 true _ _ _ _ _ _ _ _ _ _ _ _ _ _ _ _) true
  have hyes : ∀ (b c : List Int), Ev (fun n => weighhouselaw17_MessageApart.j0 n b c true x.f0 x.f1 x.f2 x.f3 x.f4 x.f5 x.f6 x.f7 y.f0 y.f1 y.f2 y.f3 y.f4 y.f5 y.f6 y.f7) true := fun b c =>
    Ev.step (f := fun _ => some true) (fun k => by simp [weighhouselaw17_MessageApart.j0, weighhouselaw17_knows.f]) (Ev.now _)
  by_cases h1 : (putM (mOf x)).2 = 0
  rotate_left
  · simp only [if_neg h1]
    exact hyes _ _
  simp only [if_pos h1]
  by_cases h2 : (putM (mOf y)).2 = 0
  rotate_left
  · have : ((putM (mOf y)).2 != 0) = true := by simp [h2]
    simp only [this]
    exact hyes _ _
  have hb : ((putM (mOf y)).2 != 0) = false := by simp [h2]
  obtain ⟨r1, l1, p1⟩ := putM_0 h1
  obtain ⟨r2, l2, p2⟩ := putM_0 h2
  simp only [hb, p1, p2]
  have hs := str_same (bytesM_in r1) (bytesM_in r2)
  have hd : decide (bytesM (mOf x) = bytesM (mOf y)) = decide (mOf x = mOf y) := by
    by_cases h : mOf x = mOf y
    · simp [h]
    · have : ¬ bytesM (mOf x) = bytesM (mOf y) := fun he => h (bytesM_inj r1 r2 he)
      simp [h, this]
  refine Ev.step (f := fun k => ((weighhouselaw17_Message.f k x.f0 x.f1 x.f2 x.f3 x.f4 x.f5 x.f6 x.f7).bind fun bt204 => ((weighhouselaw17_Message.f k y.f0 y.f1 y.f2 y.f3 y.f4 y.f5 y.f6 y.f7).bind fun bt214 => ((weighhouselaw17_Same.f k bt204.1 bt204.2.1 bt204.2.2.1 bt204.2.2.2.1 bt204.2.2.2.2.1 bt204.2.2.2.2.2.1 bt204.2.2.2.2.2.2.1 bt204.2.2.2.2.2.2.2 bt214.1 bt214.2.1 bt214.2.2.1 bt214.2.2.2.1 bt214.2.2.2.2.1 bt214.2.2.2.2.2.1 bt214.2.2.2.2.2.2.1 bt214.2.2.2.2.2.2.2).bind fun t224 => (if (((strOfNums (bytesM (mOf x))).toList == (strOfNums (bytesM (mOf y))).toList) == t224) = true then ((weighhouselaw17_knows.f).bind fun t225 => (some t225)) else (some false)))))) (fun k => ?_) ?_
  · simp only [weighhouselaw17_MessageApart.j0]
    rw [if_neg (by decide)]
  · refine Ev.bind hmx ?_
    refine Ev.bind hmy ?_
    refine Ev.bind (same_ev (mOf x) (mOf y) (by show (x.f7.map toE).length ≤ _; rw [List.length_map]; omega)) ?_
    refine Ev.congr (f := fun _ => some true) (fun k => ?_) (Ev.now _)
    rw [hs, hd, if_pos (by simp)]
    rfl
end Go.Proofs.Ytlmlkcobkmhmbaa.PuMessageApart
end
