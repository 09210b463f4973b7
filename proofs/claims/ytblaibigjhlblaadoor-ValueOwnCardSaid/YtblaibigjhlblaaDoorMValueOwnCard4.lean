/- texts of one claim, merged: each in a section of its own -/
import Derived.Test.YtblaibigjhlblaaDoorMValueOwnCard3
section
-- written by hprint.py (a program of these sessions) out of the translation; Lean checks it
namespace Go.Proofs.YtblaibigjhlblaaDoor.Q
open Go.RowKit Go.Proofs.YtblaibigjhlblaaDoorW.Hb Go.Proofs.YtblaibigjhlblaaDoorW.PrintWords Go.Proofs.YtblaibigjhlblaaDoorW.PrintLast Go.Proofs.YtblaibigjhlblaaDoorW.PrintMore
attribute [local go_sem] max2_int min2_int max_two min_two max_three min_three max_four min_four   -- for this text's walks alone
set_option linter.unusedVariables false
set_option linter.unusedSimpArgs false

/-! ### value_word: function 28, by hand -/
def digU : List UInt8 := [48, 49, 50, 51, 52, 53, 54, 55, 56, 57, 97, 98, 99, 100, 101, 102]
def ixB (c : UInt8) : Int := Lib.indexByte digU c
def unhexU : List UInt8 → List UInt8 → Option (List UInt8)
  | a :: b :: r, acc => if ixB a < 0 ∨ ixB b < 0 then none else unhexU r (acc ++ [(ixB a * 16 + ixB b).toNat.toUInt8])
  | _, acc => some acc
theorem extract_two (x : ByteArray) : (x.extract 2 x.size).data.toList = x.data.toList.drop 2 := by
  simp only [ByteArray.data_extract, Array.toList_extract, List.extract_eq_drop_take']
  rw [List.take_of_length_le (Nat.le_of_eq (Lib.size_eq x).symm)]
theorem ix_lt (l : List UInt8) (c : UInt8) : Lib.indexByte l c < (l.length : Int) ∧ -1 ≤ Lib.indexByte l c := by
  induction l with
  | nil => exact ⟨by simp [Lib.indexByte], by simp [Lib.indexByte]⟩
  | cons b l ih =>
    unfold Lib.indexByte
    rw [List.length_cons]
    split
    · omega
    · split
      · omega
      · omega
theorem strOf8 (l : List UInt8) : strOfNums (l.map fun b => (b.toNat : Int)) = ⟨l.toArray⟩ := by
  unfold strOfNums
  rw [List.map_map]
  congr 2
  conv => rhs; rw [← List.map_id l]
  refine List.map_congr_left (fun b _ => ?_)
  simp
theorem two_bytes (x : ByteArray) (h0 : 0 < x.size) (h1 : 1 < x.size) : x.data.toList = (x[0]'h0) :: (x[1]'h1) :: x.data.toList.drop 2 := by
  have e0 : x.data.toList.length = x.size := by rw [Lib.size_eq]
  have a0 : x.data.toList[0]'(by omega) = x[0]'h0 := rfl
  have a1 : x.data.toList[1]'(by omega) = x[1]'h1 := rfl
  rw [← a0, ← a1]
  rw [← List.drop_eq_getElem_cons (by omega), ← List.drop_eq_getElem_cons (by omega), List.drop_zero]
theorem or16 : ∀ n : Fin 16, ∀ m : Fin 16, Go.bits .or .i64 ((n.val : Int) * 16) (m.val : Int) = ((n.val * 16 + m.val : Nat) : Int) := by decide +kernel
def strSz : Value → Nat
  | .string s => s.size
  | _ => 0
def trueV (s : ByteArray) : Int := if (s.toList == [116, 114, 117, 101]) = true then 1 else 0
def preV (s : ByteArray) : (Int × Int × ByteArray) × Bool := if Lib.hasPrefix s.data.toList [120, 39] = true then (match unhexU (Lib.trimPrefix s.data.toList [120, 39]) [] with | none => ((3, trueV s, ⟨#[]⟩), true) | some l => ((2, 0, ⟨l.toArray⟩), false)) else (match Lib.atoiAll s.data.toList with | .ok n => ((1, n, ⟨#[]⟩), false) | _ => ((3, trueV s, ⟨#[]⟩), false))
def value_word.f (s : ByteArray) : Option (Int × Int × ByteArray × Bool) := if 281474976710656 < s.size then none else if (preV s).2 = true then some ((preV s).1.1, (preV s).1.2.1, (preV s).1.2.2, false) else (value_Right.f (preV s).1.1 (preV s).1.2.1 (preV s).1.2.2).bind fun q => if q = true then (value_text.f (preV s).1.1 (preV s).1.2.1 (preV s).1.2.2).bind fun t => some ((preV s).1.1, (preV s).1.2.1, (preV s).1.2.2, t.toList == s.toList) else some ((preV s).1.1, (preV s).1.2.1, (preV s).1.2.2, false)
set_option maxRecDepth 100000 in
set_option maxHeartbeats 4000000 in
/-- The end: the value is looked at, and its text. -/
theorem value_word.calls (s : ByteArray) (r1 : Int) (r2 : Int) (r3 : ByteArray) (r4 : Bool) (w : World) (h : value_word.f s = some (r1, r2, r3, r4)) (hV : VarsOk w) :
    Calls Tryd.prog 28 #[.string s] w fun e w' => e = .returned (.tuple #[.agg #[.int .i64 r1, .int .i64 r2, .string r3], .bool r4]) ∧ Below w.heap.size w w' := by
  unfold value_word.f at h
  by_cases hbig : 281474976710656 < s.size
  · rw [if_pos hbig] at h
    cases h
  rw [if_neg hbig] at h
  have hs : s.size ≤ 281474976710656 := by omega
  clear hbig
  have HV := Aside0.mk hV
  have H := Aside0.mk h
  clear hV h
  obtain ⟨tb, htb⟩ : ∃ tb, (s.toList == [116, 114, 117, 101]) = tb := ⟨_, rfl⟩
  have HTB := Aside0.mk htb
  have HT := Aside0.mk (value_Truth.calls tb 3 (if tb = true then 1 else 0) ⟨#[]⟩ (w.alloc (.cells #[.int .i64 0, .int .i64 0, .string ⟨#[]⟩] 37)) rfl)
  obtain ⟨tv, htv⟩ : ∃ tv : Int, (if tb = true then 1 else 0) = tv := ⟨_, rfl⟩
  rw [htv] at HT
  have HTV := Aside0.mk (show trueV s = tv by unfold trueV; rw [htb]; exact htv)
  have HBa := Aside0.mk ((Below.refl w.heap.size w).alloc (Nat.le_refl _) (.cells #[.int .i64 0, .int .i64 0, .string ⟨#[]⟩] 37))
  have HK2 := Aside0.mk (Blk.new w 37 #[.int .i64 0, .int .i64 0, .string ⟨#[]⟩])
  clear htv
  go_enter Tryd.func28, Tryd.ntmps28
  go_upto_region 2 with (go_at_call 20; (with_reducible refine HT.out.mono ?_); rintro e w2 ⟨rfl, hb⟩; have HB2 := Aside0.mk hb; clear hb)
  obtain ⟨w4, hw4⟩ : ∃ w4, w4 = w2.alloc (.cells #[.int .i64 3, .int .i64 tv, .string ⟨#[]⟩] 37) := ⟨_, rfl⟩
  obtain ⟨g4, hg4⟩ : ∃ g4, g4 = w2.heap.size := ⟨_, rfl⟩
  obtain ⟨g2, hg2⟩ : ∃ g2, g2 = w.heap.size := ⟨_, rfl⟩
  have HS2 := Aside0.mk (HBa.out.trans (HB2.out.mono HBa.out.size)).size
  have HB4 := Aside0.mk (show Below w.heap.size w w4 by rw [hw4]; exact (HBa.out.trans (HB2.out.mono HBa.out.size)).alloc (HBa.out.trans (HB2.out.mono HBa.out.size)).size _)
  have HK22 := Aside0.mk (HK2.out.after HB2.out)
  have HKc := Aside0.mk (show Blk w4 g2 37 #[.int .i64 0, .int .i64 0, .string ⟨#[]⟩] by rw [hw4, hg2]; exact HK22.out.alloc _)
  have HKd := Aside0.mk (show Blk w4 g4 37 #[.int .i64 3, .int .i64 tv, .string ⟨#[]⟩] by rw [hw4, hg4]; exact Blk.new w2 _ _)
  have HNE := Aside0.mk (show g2 ≠ g4 ∧ w.heap.size ≤ g2 ∧ w.heap.size ≤ g4 by have := HK22.out.lt; have := HS2.out; omega)
  rw [← hw4, ← hg4, ← hg2]
  clear hw4 hg4 HT HK2 HBa HB2 HK22 HS2 hg2
  obtain ⟨pb, hpb⟩ : ∃ pb, Lib.hasPrefix s.data.toList [120, 39] = pb := ⟨_, rfl⟩
  obtain ⟨inn, hinn⟩ : ∃ inn : ByteArray, (⟨(Lib.trimPrefix s.data.toList [120, 39]).toArray⟩ : ByteArray) = inn := ⟨_, rfl⟩
  have HCP := Aside0.mk (show ∀ W : World, Calls Tryd.prog 39 #[.string s, .string ⟨#[120, 39]⟩] W fun e w' => e = .returned (.tuple #[.string inn, .bool pb]) ∧ w' = W from fun W => by
    have := Tryd.strings_CutPrefix s ⟨#[120, 39]⟩ W
    rw [← hpb, ← hinn]
    exact this)
  have HPB := Aside0.mk hpb
  have HINN := Aside0.mk (show Lib.trimPrefix s.data.toList [120, 39] = inn.data.toList by rw [← hinn])
  clear hpb hinn
  go_upto_if 20 with (go_at_call 39; (with_reducible refine (HCP.out _).mono ?_); rintro e w5 ⟨rfl, hw5⟩; subst w5)
  clear HCP
  go_cut [5] from 5 (fun v5 wc => ∃ (f0 f1 : Int) (f2 : ByteArray), Aside0 (Blk wc g4 37 #[.int .i64 f0, .int .i64 f1, .string f2]) ∧ Aside0 (Blk wc g2 37 #[.int .i64 0, .int .i64 0, .string ⟨#[]⟩]) ∧ Aside0 (Below w.heap.size w wc) ∧ Aside0 (preV s = ((f0, f1, f2), false)))
  case first =>
    cases pb
    · have HAT := Aside0.mk (atoiV s hs w4 (HV.out.below HB4.out))
      go_upto_region 13 with (go_at_call 41; (with_reducible refine HAT.out.mono ?_); rintro e w6 ⟨v, ev, rfl, hcase, hb⟩; have HCS := Aside0.mk hcase; have HK4 := Aside0.mk (HKd.out.after hb); have HK2 := Aside0.mk (HKc.out.after hb); have HB6 := Aside0.mk (HB4.out.trans (hb.mono HB4.out.size)); clear hb hcase)
      rcases HCS.out with ⟨rfl, ha⟩ | ⟨⟨te, pe, rfl⟩, hn⟩
      · have HP := Aside0.mk (show preV s = ((1, v, ⟨#[]⟩), false) by unfold preV; rw [HPB.out, if_neg (by decide), ha])
        have z0 : w6.cell? ⟨g4, 0, none⟩ = some (.int .i64 3) := HK4.out.cell 0
        have z1 : w6.cell? ⟨g4, 1, none⟩ = some (.int .i64 tv) := HK4.out.cell 1
        have z2 : w6.cell? ⟨g4, 2, none⟩ = some (.string ⟨#[]⟩) := HK4.out.cell 2
        have y0 : w6.frozen? ⟨g4, 0, none⟩ = false := HK4.out.frozen 0
        have y1 : w6.frozen? ⟨g4, 1, none⟩ = false := HK4.out.frozen 1
        have y2 : w6.frozen? ⟨g4, 2, none⟩ = false := HK4.out.frozen 2
        clear HCS ha
        go_wp2_with (go_at_call 18; (with_reducible refine (value_Number.calls v 1 v ⟨#[]⟩ w6 rfl).mono ?_); rintro e w7 ⟨rfl, hb⟩; have HK47 := Aside0.mk (HK4.out.after hb); have HK27 := Aside0.mk (HK2.out.after hb); have HB7 := Aside0.mk (HB6.out.trans (hb.mono HB6.out.size)); have u0 : w7.cell? ⟨g4, 0, none⟩ = some (.int .i64 3) := HK47.out.cell 0; have u1 : w7.cell? ⟨g4, 1, none⟩ = some (.int .i64 tv) := HK47.out.cell 1; have u2 : w7.cell? ⟨g4, 2, none⟩ = some (.string ⟨#[]⟩) := HK47.out.cell 2; have v0 : w7.frozen? ⟨g4, 0, none⟩ = false := HK47.out.frozen 0; have v1 : w7.frozen? ⟨g4, 1, none⟩ = false := HK47.out.frozen 1; have v2 : w7.frozen? ⟨g4, 2, none⟩ = false := HK47.out.frozen 2; clear hb)
        go_meet
        case rel => exact ⟨1, v, ⟨#[]⟩, ⟨by simpa using ((HK47.out.set_ 0 (.int .i64 1)).set_ 1 (.int .i64 v)).set_ 2 (.string ⟨#[]⟩)⟩, ⟨((HK27.out.far (p := ⟨g4, 0, none⟩) HNE.out.1 _).far (p := ⟨g4, 1, none⟩) HNE.out.1 _).far (p := ⟨g4, 2, none⟩) HNE.out.1 _⟩, ⟨((HB7.out.setCell (by exact HNE.out.2.2) _).setCell (by exact HNE.out.2.2) _).setCell (by exact HNE.out.2.2) _⟩, HP⟩
      · have HP := Aside0.mk (show preV s = ((3, tv, ⟨#[]⟩), false) by
          unfold preV
          rw [HPB.out, if_neg (by decide), HTV.out]
          cases ha : Lib.atoiAll s.data.toList with
          | ok v' => exact absurd ha (hn v')
          | range => rfl
          | _ => rfl)
        clear HCS hn
        go_wp2
        go_meet
        case rel => exact ⟨3, tv, ⟨#[]⟩, HK4, HK2, HB6, HP⟩
    · have HAL := Aside0.mk (show inn.data.toList.length ≤ s.size by
        rw [← HINN.out]
        unfold Lib.trimPrefix
        split
        · rw [List.length_drop, Lib.size_eq]; omega
        · rw [Lib.size_eq]; omega)
      go_wp2
      go_loopw [5, 7] (fun v5 v7 wl => ∃ (x : ByteArray) (acc : List UInt8), v5 = .string x ∧ Aside0 (unhexU x.data.toList acc = unhexU inn.data.toList []) ∧ Aside0 (2 * acc.length + x.size ≤ inn.size) ∧ Aside0 ((Kd.int .u8).R 5 wl w4.heap.size (fun _ => True) v7 (nat8 acc)) ∧ Aside0 (Below w4.heap.size w4 wl)) (fun v5 _ _ => strSz v5)
      case atStart => exact ⟨inn, [], rfl, ⟨rfl⟩, ⟨by simp⟩, ⟨Kd.R_nil _ _ _ _ _⟩, ⟨Below.refl _ _⟩⟩
      case round =>
        obtain ⟨x, acc, rfl, HU, HA, HO, HBl⟩ := hrel
        have HK4 := Aside0.mk (HKd.out.after HBl.out)
        have HK2 := Aside0.mk (HKc.out.after HBl.out)
        have HB6 := Aside0.mk (HB4.out.trans (HBl.out.mono HB4.out.size))
        have hx63 : x.size ≤ 9223372036854775807 := by
          have h1 := HA.out
          have h2 := HAL.out
          have h3 := Lib.size_eq inn
          omega
        by_cases hx1 : 1 < x.size
        · have hx0 : 0 < x.size := by omega
          obtain ⟨a, ha⟩ : ∃ a, x[0]'hx0 = a := ⟨_, rfl⟩
          obtain ⟨b, hb⟩ : ∃ b, x[1]'hx1 = b := ⟨_, rfl⟩
          obtain ⟨ia, hia⟩ : ∃ ia, ixB a = ia := ⟨_, rfl⟩
          obtain ⟨ib, hib⟩ : ∃ ib, ixB b = ib := ⟨_, rfl⟩
          have HIA := Aside0.mk (show ∀ W : World, Calls Tryd.prog 40 #[.string ⟨#[48, 49, 50, 51, 52, 53, 54, 55, 56, 57, 97, 98, 99, 100, 101, 102]⟩, .int .u8 (a.toNat : Int)] W fun e w' => e = .returned (.int .i64 ia) ∧ w' = W from fun W => by
            have := Tryd.strings_IndexByte ⟨#[48, 49, 50, 51, 52, 53, 54, 55, 56, 57, 97, 98, 99, 100, 101, 102]⟩ (a.toNat : Int) W
            rw [← hia]
            simpa [ixB, digU] using this)
          have HIB := Aside0.mk (show ∀ W : World, Calls Tryd.prog 40 #[.string ⟨#[48, 49, 50, 51, 52, 53, 54, 55, 56, 57, 97, 98, 99, 100, 101, 102]⟩, .int .u8 (b.toNat : Int)] W fun e w' => e = .returned (.int .i64 ib) ∧ w' = W from fun W => by
            have := Tryd.strings_IndexByte ⟨#[48, 49, 50, 51, 52, 53, 54, 55, 56, 57, 97, 98, 99, 100, 101, 102]⟩ (b.toNat : Int) W
            rw [← hib]
            simpa [ixB, digU] using this)
          have HUX := Aside0.mk (show unhexU x.data.toList acc = if ia < 0 ∨ ib < 0 then none else unhexU (x.extract 2 x.size).data.toList (acc ++ [(ia * 16 + ib).toNat.toUInt8]) by
            rw [two_bytes x hx0 hx1, ha, hb, unhexU, hia, hib, extract_two])
          have hla := ix_lt digU a
          have hlb := ix_lt digU b
          have hia2 : Lib.indexByte digU a = ia := hia
          have hib2 : Lib.indexByte digU b = ib := hib
          rw [hia2] at hla
          rw [hib2] at hlb
          have HLA := Aside0.mk (show ia < 16 ∧ -1 ≤ ia from ⟨hla.1, hla.2⟩)
          have HLB := Aside0.mk (show ib < 16 ∧ -1 ≤ ib from ⟨hlb.1, hlb.2⟩)
          have hx1b : decide (1 < (x.size : Int)) = true := decide_eq_true (by omega)
          have hx1i : (1 : Int) < (x.size : Int) := by omega
          have hx0i : (0 : Int) < (x.size : Int) := by omega
          clear hia hib hla hlb hia2 hib2
          have z0 : wr.cell? ⟨g4, 0, none⟩ = some (.int .i64 3) := HK4.out.cell 0
          have z1 : wr.cell? ⟨g4, 1, none⟩ = some (.int .i64 tv) := HK4.out.cell 1
          have z2 : wr.cell? ⟨g4, 2, none⟩ = some (.string ⟨#[]⟩) := HK4.out.cell 2
          have y0 : wr.cell? ⟨g2, 0, none⟩ = some (.int .i64 0) := HK2.out.cell 0
          have y1 : wr.cell? ⟨g2, 1, none⟩ = some (.int .i64 0) := HK2.out.cell 1
          have y2 : wr.cell? ⟨g2, 2, none⟩ = some (.string ⟨#[]⟩) := HK2.out.cell 2
          have q0 : wr.frozen? ⟨g2, 0, none⟩ = false := HK2.out.frozen 0
          have q1 : wr.frozen? ⟨g2, 1, none⟩ = false := HK2.out.frozen 1
          have q2 : wr.frozen? ⟨g2, 2, none⟩ = false := HK2.out.frozen 2
          by_cases hbad : ia < 0 ∨ ib < 0
          · have HPF := Aside0.mk (show preV s = ((3, tv, ⟨#[]⟩), true) by
              unfold preV
              rw [HPB.out, if_pos rfl, HINN.out, ← HU.out, HUX.out, if_pos hbad, HTV.out])
            have hend : ∀ W, Blk W g2 37 #[.int .i64 0, .int .i64 0, .string ⟨#[]⟩] → True := fun _ _ => trivial
            clear hend HUX HU
            have hh := H.out
            rw [HPF.out, if_pos rfl] at hh
            simp only [Option.some.injEq, Prod.mk.injEq] at hh
            obtain ⟨rfl, rfl, rfl, rfl⟩ := hh
            clear H HPF
            have HK2d := Aside0.mk HK2.out.drew
            have HB6d := Aside0.mk HB6.out.drew
            clear z0 z1 z2 y0 y1 y2 q0 q1 q2
            by_cases hn : ia < 0
            · have da : decide (ia < 0) = true := decide_eq_true hn
              clear hn hbad
              have z0 : wr.drew.cell? ⟨g4, 0, none⟩ = some (.int .i64 3) := HK4.out.cell 0
              have z1 : wr.drew.cell? ⟨g4, 1, none⟩ = some (.int .i64 tv) := HK4.out.cell 1
              have z2 : wr.drew.cell? ⟨g4, 2, none⟩ = some (.string ⟨#[]⟩) := HK4.out.cell 2
              have y0 : wr.drew.cell? ⟨g2, 0, none⟩ = some (.int .i64 0) := HK2.out.cell 0
              have y1 : wr.drew.cell? ⟨g2, 1, none⟩ = some (.int .i64 0) := HK2.out.cell 1
              have y2 : wr.drew.cell? ⟨g2, 2, none⟩ = some (.string ⟨#[]⟩) := HK2.out.cell 2
              have q0 : wr.drew.frozen? ⟨g2, 0, none⟩ = false := HK2.out.frozen 0
              have q1 : wr.drew.frozen? ⟨g2, 1, none⟩ = false := HK2.out.frozen 1
              have q2 : wr.drew.frozen? ⟨g2, 2, none⟩ = false := HK2.out.frozen 2
              go_upto_region 7 with (fail)
              refine start_ (n := 8) (S := fun w' => True) (ds := []) #[false, false, false, false, false, false, false, false] (by kernel_rfl) rfl rfl trivial (fun hHeld => ?_)
              generalize wr.drew = wd at HK2d HB6d z0 z1 z2 y0 y1 y2 q0 q1 q2 hHeld ⊢
              refine pure_ (i := 0) (N := some 26) (v := ?_) (a' := ?_) #[true, false, false, false, false, false, false, false] rfl rfl (by kernel_rfl) (fun _ _ _ h => h) (Or.inl ⟨by rfl, ?_⟩) ?_ ?_
              rotate_left
              · intro w'
                go_simp
                with_reducible rfl
              rotate_left
              · simp only [Act.put, List.setIfInBounds_toArray, List.set_cons_zero, List.set_cons_succ, i64_w, i32_w]
                rfl
              refine pure_ (i := 3) (N := some 29) (v := ?_) (a' := ?_) #[true, false, false, true, false, false, false, false] rfl rfl (by kernel_rfl) (fun _ _ _ h => h) (Or.inl ⟨by rfl, ?_⟩) ?_ ?_
              rotate_left
              · intro w'
                go_simp
                with_reducible rfl
              rotate_left
              · simp only [Act.put, List.setIfInBounds_toArray, List.set_cons_zero, List.set_cons_succ, i64_w, i32_w]
                rfl
              refine take_ (i := 1) (N := some 27) (v := ?_) (a' := ?_) #[true, true, false, true, false, false, false, false] rfl rfl (by kernel_rfl) (fun _ _ _ h => h) (Or.inl ⟨by rfl, ?_⟩) hHeld ?_ ?_
              rotate_left
              · intro w' _
                go_simp
                with_reducible rfl
              rotate_left
              · simp only [Act.put, List.setIfInBounds_toArray, List.set_cons_zero, List.set_cons_succ, i64_w, i32_w]
                rfl
              refine take_ (i := 4) (N := some 30) (v := ?_) (a' := ?_) #[true, true, false, true, true, false, false, false] rfl rfl (by kernel_rfl) (fun _ _ _ h => h) (Or.inl ⟨by rfl, ?_⟩) hHeld ?_ ?_
              rotate_left
              · intro w' _
                go_simp
                with_reducible rfl
              rotate_left
              · simp only [Act.put, List.setIfInBounds_toArray, List.set_cons_zero, List.set_cons_succ, i64_w, i32_w]
                rfl
              refine one_ (i := 2) (N := some 28) #[true, true, true, true, true, false, false, false] rfl rfl (by kernel_rfl) (by decide) (fun K hK => ?_)
              refine goes_ Tryd.func40 (by kernel_rfl) rfl #[.string ⟨#[48, 49, 50, 51, 52, 53, 54, 55, 56, 57, 97, 98, 99, 100, 101, 102]⟩, .int .u8 (a.toNat : Int)] (by rfl) rfl rfl (by simp only [List.map_toArray, List.map_cons, List.map_nil]; rfl) ?_
              with_reducible refine (HIA.out wd).mono ?_
              rintro e w8 ⟨rfl, hw8⟩
              refine ⟨_, rfl, ?_⟩
              subst w8
              refine hK.out _ _ trivial (fun hHeld => ?_)
              clear hK K
              refine norm_ (a' := ?_) ?_ ?_
              rotate_left
              · show Act.put _ (some 28) _ = _
                simp only [Act.put, List.setIfInBounds_toArray, List.set_cons_zero, List.set_cons_succ, i64_w, i32_w]
                rfl
              refine one_ (i := 5) (N := some 31) #[true, true, true, true, true, true, false, false] rfl rfl (by kernel_rfl) (by decide) (fun K hK => ?_)
              refine goes_ Tryd.func40 (by kernel_rfl) rfl #[.string ⟨#[48, 49, 50, 51, 52, 53, 54, 55, 56, 57, 97, 98, 99, 100, 101, 102]⟩, .int .u8 (b.toNat : Int)] (by rfl) rfl rfl (by simp only [List.map_toArray, List.map_cons, List.map_nil]; rfl) ?_
              with_reducible refine (HIB.out wd).mono ?_
              rintro e w8 ⟨rfl, hw8⟩
              refine ⟨_, rfl, ?_⟩
              subst w8
              refine hK.out _ _ trivial (fun hHeld => ?_)
              clear hK K
              refine norm_ (a' := ?_) ?_ ?_
              rotate_left
              · show Act.put _ (some 31) _ = _
                simp only [Act.put, List.setIfInBounds_toArray, List.set_cons_zero, List.set_cons_succ, i64_w, i32_w]
                rfl
              refine pure_ (i := 6) (N := some 8) (v := ?_) (a' := ?_) #[true, true, true, true, true, true, true, false] rfl rfl (by kernel_rfl) (fun _ _ _ h => h) (Or.inl ⟨by rfl, ?_⟩) ?_ ?_
              rotate_left
              · intro w'
                go_simp
                with_reducible rfl
              rotate_left
              · simp only [Act.put, List.setIfInBounds_toArray, List.set_cons_zero, List.set_cons_succ, i64_w, i32_w]
                rfl
              refine pure_ (i := 7) (N := some 9) (v := ?_) (a' := ?_) #[true, true, true, true, true, true, true, true] rfl rfl (by kernel_rfl) (fun _ _ _ h => h) (Or.inl ⟨by rfl, ?_⟩) ?_ ?_
              rotate_left
              · intro w'
                go_simp
                with_reducible rfl
              rotate_left
              · simp only [Act.put, List.setIfInBounds_toArray, List.set_cons_zero, List.set_cons_succ, i64_w, i32_w]
                rfl
              refine done_ (by kernel_rfl) ?_
              clear hHeld
              go_wp2
              refine bodyPost_ret (results_ct rfl _ _ g2 37 #[.int .i64 3, .int .i64 tv, .string ⟨#[]⟩] (0, 0) _ rfl (show Blk _ g2 37 #[.int .i64 3, .int .i64 tv, .string ⟨#[]⟩] from by simpa using ((HK2d.out.set_ 0 (.int .i64 3)).set_ 1 (.int .i64 tv)).set_ 2 (.string ⟨#[]⟩)) Tryd.underlying37 rfl (by kernel_rfl)) rfl ?_
              exact ⟨rfl, ((HB6d.out.setCell (by exact HNE.out.2.1) _).setCell (by exact HNE.out.2.1) _).setCell (by exact HNE.out.2.1) _⟩
            · have da : decide (ia < 0) = false := decide_eq_false hn
              have db : decide (ib < 0) = true := decide_eq_true (by omega)
              clear hn hbad
              have z0 : wr.drew.cell? ⟨g4, 0, none⟩ = some (.int .i64 3) := HK4.out.cell 0
              have z1 : wr.drew.cell? ⟨g4, 1, none⟩ = some (.int .i64 tv) := HK4.out.cell 1
              have z2 : wr.drew.cell? ⟨g4, 2, none⟩ = some (.string ⟨#[]⟩) := HK4.out.cell 2
              have y0 : wr.drew.cell? ⟨g2, 0, none⟩ = some (.int .i64 0) := HK2.out.cell 0
              have y1 : wr.drew.cell? ⟨g2, 1, none⟩ = some (.int .i64 0) := HK2.out.cell 1
              have y2 : wr.drew.cell? ⟨g2, 2, none⟩ = some (.string ⟨#[]⟩) := HK2.out.cell 2
              have q0 : wr.drew.frozen? ⟨g2, 0, none⟩ = false := HK2.out.frozen 0
              have q1 : wr.drew.frozen? ⟨g2, 1, none⟩ = false := HK2.out.frozen 1
              have q2 : wr.drew.frozen? ⟨g2, 2, none⟩ = false := HK2.out.frozen 2
              go_upto_region 7 with (fail)
              refine start_ (n := 8) (S := fun w' => True) (ds := []) #[false, false, false, false, false, false, false, false] (by kernel_rfl) rfl rfl trivial (fun hHeld => ?_)
              generalize wr.drew = wd at HK2d HB6d z0 z1 z2 y0 y1 y2 q0 q1 q2 hHeld ⊢
              refine pure_ (i := 0) (N := some 26) (v := ?_) (a' := ?_) #[true, false, false, false, false, false, false, false] rfl rfl (by kernel_rfl) (fun _ _ _ h => h) (Or.inl ⟨by rfl, ?_⟩) ?_ ?_
              rotate_left
              · intro w'
                go_simp
                with_reducible rfl
              rotate_left
              · simp only [Act.put, List.setIfInBounds_toArray, List.set_cons_zero, List.set_cons_succ, i64_w, i32_w]
                rfl
              refine pure_ (i := 3) (N := some 29) (v := ?_) (a' := ?_) #[true, false, false, true, false, false, false, false] rfl rfl (by kernel_rfl) (fun _ _ _ h => h) (Or.inl ⟨by rfl, ?_⟩) ?_ ?_
              rotate_left
              · intro w'
                go_simp
                with_reducible rfl
              rotate_left
              · simp only [Act.put, List.setIfInBounds_toArray, List.set_cons_zero, List.set_cons_succ, i64_w, i32_w]
                rfl
              refine take_ (i := 1) (N := some 27) (v := ?_) (a' := ?_) #[true, true, false, true, false, false, false, false] rfl rfl (by kernel_rfl) (fun _ _ _ h => h) (Or.inl ⟨by rfl, ?_⟩) hHeld ?_ ?_
              rotate_left
              · intro w' _
                go_simp
                with_reducible rfl
              rotate_left
              · simp only [Act.put, List.setIfInBounds_toArray, List.set_cons_zero, List.set_cons_succ, i64_w, i32_w]
                rfl
              refine take_ (i := 4) (N := some 30) (v := ?_) (a' := ?_) #[true, true, false, true, true, false, false, false] rfl rfl (by kernel_rfl) (fun _ _ _ h => h) (Or.inl ⟨by rfl, ?_⟩) hHeld ?_ ?_
              rotate_left
              · intro w' _
                go_simp
                with_reducible rfl
              rotate_left
              · simp only [Act.put, List.setIfInBounds_toArray, List.set_cons_zero, List.set_cons_succ, i64_w, i32_w]
                rfl
              refine one_ (i := 2) (N := some 28) #[true, true, true, true, true, false, false, false] rfl rfl (by kernel_rfl) (by decide) (fun K hK => ?_)
              refine goes_ Tryd.func40 (by kernel_rfl) rfl #[.string ⟨#[48, 49, 50, 51, 52, 53, 54, 55, 56, 57, 97, 98, 99, 100, 101, 102]⟩, .int .u8 (a.toNat : Int)] (by rfl) rfl rfl (by simp only [List.map_toArray, List.map_cons, List.map_nil]; rfl) ?_
              with_reducible refine (HIA.out wd).mono ?_
              rintro e w8 ⟨rfl, hw8⟩
              refine ⟨_, rfl, ?_⟩
              subst w8
              refine hK.out _ _ trivial (fun hHeld => ?_)
              clear hK K
              refine norm_ (a' := ?_) ?_ ?_
              rotate_left
              · show Act.put _ (some 28) _ = _
                simp only [Act.put, List.setIfInBounds_toArray, List.set_cons_zero, List.set_cons_succ, i64_w, i32_w]
                rfl
              refine one_ (i := 5) (N := some 31) #[true, true, true, true, true, true, false, false] rfl rfl (by kernel_rfl) (by decide) (fun K hK => ?_)
              refine goes_ Tryd.func40 (by kernel_rfl) rfl #[.string ⟨#[48, 49, 50, 51, 52, 53, 54, 55, 56, 57, 97, 98, 99, 100, 101, 102]⟩, .int .u8 (b.toNat : Int)] (by rfl) rfl rfl (by simp only [List.map_toArray, List.map_cons, List.map_nil]; rfl) ?_
              with_reducible refine (HIB.out wd).mono ?_
              rintro e w8 ⟨rfl, hw8⟩
              refine ⟨_, rfl, ?_⟩
              subst w8
              refine hK.out _ _ trivial (fun hHeld => ?_)
              clear hK K
              refine norm_ (a' := ?_) ?_ ?_
              rotate_left
              · show Act.put _ (some 31) _ = _
                simp only [Act.put, List.setIfInBounds_toArray, List.set_cons_zero, List.set_cons_succ, i64_w, i32_w]
                rfl
              refine pure_ (i := 6) (N := some 8) (v := ?_) (a' := ?_) #[true, true, true, true, true, true, true, false] rfl rfl (by kernel_rfl) (fun _ _ _ h => h) (Or.inl ⟨by rfl, ?_⟩) ?_ ?_
              rotate_left
              · intro w'
                go_simp
                with_reducible rfl
              rotate_left
              · simp only [Act.put, List.setIfInBounds_toArray, List.set_cons_zero, List.set_cons_succ, i64_w, i32_w]
                rfl
              refine pure_ (i := 7) (N := some 9) (v := ?_) (a' := ?_) #[true, true, true, true, true, true, true, true] rfl rfl (by kernel_rfl) (fun _ _ _ h => h) (Or.inl ⟨by rfl, ?_⟩) ?_ ?_
              rotate_left
              · intro w'
                go_simp
                with_reducible rfl
              rotate_left
              · simp only [Act.put, List.setIfInBounds_toArray, List.set_cons_zero, List.set_cons_succ, i64_w, i32_w]
                rfl
              refine done_ (by kernel_rfl) ?_
              clear hHeld
              go_wp2
              refine bodyPost_ret (results_ct rfl _ _ g2 37 #[.int .i64 3, .int .i64 tv, .string ⟨#[]⟩] (0, 0) _ rfl (show Blk _ g2 37 #[.int .i64 3, .int .i64 tv, .string ⟨#[]⟩] from by simpa using ((HK2d.out.set_ 0 (.int .i64 3)).set_ 1 (.int .i64 tv)).set_ 2 (.string ⟨#[]⟩)) Tryd.underlying37 rfl (by kernel_rfl)) rfl ?_
              exact ⟨rfl, ((HB6d.out.setCell (by exact HNE.out.2.1) _).setCell (by exact HNE.out.2.1) _).setCell (by exact HNE.out.2.1) _⟩
          · have da : decide (ia < 0) = false := decide_eq_false (by omega)
            have db : decide (ib < 0) = false := decide_eq_false (by omega)
            obtain ⟨n, rfl⟩ := Int.eq_ofNat_of_zero_le (show 0 ≤ ia by omega)
            obtain ⟨m, rfl⟩ := Int.eq_ofNat_of_zero_le (show 0 ≤ ib by omega)
            have hn16 : n < 16 := by have := HLA.out; omega
            have hm16 : m < 16 := by have := HLB.out; omega
            have hor : Go.bits .or .i64 ((n : Int) * 16) (m : Int) = ((n * 16 + m : Nat) : Int) := or16 ⟨n, hn16⟩ ⟨m, hm16⟩
            have HU2 := Aside0.mk (show unhexU (x.extract 2 x.size).data.toList (acc ++ [(n * 16 + m).toUInt8]) = unhexU inn.data.toList [] by
              rw [← HU.out, HUX.out, if_neg (by omega)]
              rfl)
            clear HUX HU hbad HLA HLB z0 z1 z2 y0 y1 y2 q0 q1 q2
            have HOd := Aside0.mk (Kd.R_drew HO.out)
            have HBd := Aside0.mk HBl.out.drew
            have HNL := Aside0.mk (show nat8 (acc ++ [(n * 16 + m).toUInt8]) = nat8 acc ++ [((n * 16 + m : Nat) : Int)] by
              unfold nat8
              rw [List.map_append]
              congr 1
              simp
              omega)
            have HAL2 := Aside0.mk (show ((nat8 acc).length + 1) * 1 ≤ 140737488355328 by
              have h1 := HA.out
              have h2 := HAL.out
              have h3 := Lib.size_eq inn
              unfold nat8
              rw [List.length_map]
              omega)
            go_upto_region 7 with (fail)
            refine start_ (n := 8) (S := fun w' => True) (ds := []) #[false, false, false, false, false, false, false, false] (by kernel_rfl) rfl rfl trivial (fun hHeld => ?_)
            generalize wr.drew = wd at HOd HBd hHeld ⊢
            refine pure_ (i := 0) (N := some 26) (v := ?_) (a' := ?_) #[true, false, false, false, false, false, false, false] rfl rfl (by kernel_rfl) (fun _ _ _ h => h) (Or.inl ⟨by rfl, ?_⟩) ?_ ?_
            rotate_left
            · intro w'
              go_simp
              with_reducible rfl
            rotate_left
            · simp only [Act.put, List.setIfInBounds_toArray, List.set_cons_zero, List.set_cons_succ, i64_w, i32_w]
              rfl
            refine pure_ (i := 3) (N := some 29) (v := ?_) (a' := ?_) #[true, false, false, true, false, false, false, false] rfl rfl (by kernel_rfl) (fun _ _ _ h => h) (Or.inl ⟨by rfl, ?_⟩) ?_ ?_
            rotate_left
            · intro w'
              go_simp
              with_reducible rfl
            rotate_left
            · simp only [Act.put, List.setIfInBounds_toArray, List.set_cons_zero, List.set_cons_succ, i64_w, i32_w]
              rfl
            refine take_ (i := 1) (N := some 27) (v := ?_) (a' := ?_) #[true, true, false, true, false, false, false, false] rfl rfl (by kernel_rfl) (fun _ _ _ h => h) (Or.inl ⟨by rfl, ?_⟩) hHeld ?_ ?_
            rotate_left
            · intro w' _
              go_simp
              with_reducible rfl
            rotate_left
            · simp only [Act.put, List.setIfInBounds_toArray, List.set_cons_zero, List.set_cons_succ, i64_w, i32_w]
              rfl
            refine take_ (i := 4) (N := some 30) (v := ?_) (a' := ?_) #[true, true, false, true, true, false, false, false] rfl rfl (by kernel_rfl) (fun _ _ _ h => h) (Or.inl ⟨by rfl, ?_⟩) hHeld ?_ ?_
            rotate_left
            · intro w' _
              go_simp
              with_reducible rfl
            rotate_left
            · simp only [Act.put, List.setIfInBounds_toArray, List.set_cons_zero, List.set_cons_succ, i64_w, i32_w]
              rfl
            refine one_ (i := 2) (N := some 28) #[true, true, true, true, true, false, false, false] rfl rfl (by kernel_rfl) (by decide) (fun K hK => ?_)
            refine goes_ Tryd.func40 (by kernel_rfl) rfl #[.string ⟨#[48, 49, 50, 51, 52, 53, 54, 55, 56, 57, 97, 98, 99, 100, 101, 102]⟩, .int .u8 (a.toNat : Int)] (by rfl) rfl rfl (by simp only [List.map_toArray, List.map_cons, List.map_nil]; rfl) ?_
            with_reducible refine (HIA.out wd).mono ?_
            rintro e w8 ⟨rfl, hw8⟩
            refine ⟨_, rfl, ?_⟩
            subst w8
            refine hK.out _ _ trivial (fun hHeld => ?_)
            clear hK K
            refine norm_ (a' := ?_) ?_ ?_
            rotate_left
            · show Act.put _ (some 28) _ = _
              simp only [Act.put, List.setIfInBounds_toArray, List.set_cons_zero, List.set_cons_succ, i64_w, i32_w]
              rfl
            refine one_ (i := 5) (N := some 31) #[true, true, true, true, true, true, false, false] rfl rfl (by kernel_rfl) (by decide) (fun K hK => ?_)
            refine goes_ Tryd.func40 (by kernel_rfl) rfl #[.string ⟨#[48, 49, 50, 51, 52, 53, 54, 55, 56, 57, 97, 98, 99, 100, 101, 102]⟩, .int .u8 (b.toNat : Int)] (by rfl) rfl rfl (by simp only [List.map_toArray, List.map_cons, List.map_nil]; rfl) ?_
            with_reducible refine (HIB.out wd).mono ?_
            rintro e w8 ⟨rfl, hw8⟩
            refine ⟨_, rfl, ?_⟩
            subst w8
            refine hK.out _ _ trivial (fun hHeld => ?_)
            clear hK K
            refine norm_ (a' := ?_) ?_ ?_
            rotate_left
            · show Act.put _ (some 31) _ = _
              simp only [Act.put, List.setIfInBounds_toArray, List.set_cons_zero, List.set_cons_succ, i64_w, i32_w]
              rfl
            refine pure_ (i := 6) (N := some 8) (v := ?_) (a' := ?_) #[true, true, true, true, true, true, true, false] rfl rfl (by kernel_rfl) (fun _ _ _ h => h) (Or.inl ⟨by rfl, ?_⟩) ?_ ?_
            rotate_left
            · intro w'
              go_simp
              with_reducible rfl
            rotate_left
            · simp only [Act.put, List.setIfInBounds_toArray, List.set_cons_zero, List.set_cons_succ, i64_w, i32_w]
              rfl
            refine pure_ (i := 7) (N := some 9) (v := ?_) (a' := ?_) #[true, true, true, true, true, true, true, true] rfl rfl (by kernel_rfl) (fun _ _ _ h => h) (Or.inl ⟨by rfl, ?_⟩) ?_ ?_
            rotate_left
            · intro w'
              go_simp
              with_reducible rfl
            rotate_left
            · simp only [Act.put, List.setIfInBounds_toArray, List.set_cons_zero, List.set_cons_succ, i64_w, i32_w]
              rfl
            refine done_ (by kernel_rfl) ?_
            clear hHeld
            go_upto_region 6 with ((with_reducible refine gate_builtin (b := .append) (xs := #[.tmp 39, .tmp 45]) rfl ?_); at_builtin; refine Kd.R_append (Kd.int .u8) (w0 := w4) (W := wd) w4.heap.size rfl (.tmp 39) (.tmp 45) 60 5 (.int .u8 0) 1 rfl Tryd.underlying60 info5 rfl (by decide) (by omega) _ (nat8 acc) ((n * 16 + m : Nat) : Int) [.int .u8 ((n * 16 + m : Nat) : Int)] (fun _ => True) (fun _ => False) rfl rfl rfl (fun _ hk => hk.elim) (fun _ _ => trivial) HOd.out HBd.out HBd.out.size HAL2.out ?_; intro v5 w5 hR5 hB5 _ _; rw [← HNL.out] at hR5; have HR5 := Aside0.mk hR5; have HB5 := Aside0.mk hB5; clear hR5 hB5)
            have HSZ := Aside0.mk (show (x.extract 2 x.size).size = x.size - 2 by
              have h1 := congrArg List.length (extract_two x)
              rw [List.length_drop, ← Lib.size_eq, ← Lib.size_eq] at h1
              exact h1)
            clear hor ha hb
            go_wp2
            go_roundw
            case rel => exact ⟨x.extract 2 x.size, acc ++ [(n * 16 + m).toUInt8], rfl, HU2, ⟨by have h1 := HA.out; have h2 := HSZ.out; rw [List.length_append, List.length_singleton]; omega⟩, HR5, HB5⟩
            case measure => have h2 := HSZ.out; simp [strSz]; omega
        · have hx1b : decide (1 < (x.size : Int)) = false := decide_eq_false (by omega)
          have hx1i : ¬ (1 : Int) < (x.size : Int) := by omega
          have HUE := Aside0.mk (show unhexU x.data.toList acc = some acc by
            have h1 : x.data.toList.length ≤ 1 := by rw [← Lib.size_eq]; omega
            match hh : x.data.toList, h1 with
            | [], _ => rfl
            | [a], _ => rfl
            | a :: b :: r, h1 => simp at h1)
          have HP := Aside0.mk (show preV s = ((2, 0, ⟨acc.toArray⟩), false) by
            unfold preV
            rw [HPB.out, if_pos rfl, HINN.out, ← HU.out, HUE.out])
          obtain ⟨A7, c7, rfl, hc7, hC7⟩ := Kd.R_reads HO.out
          have hcv := fun W (hW : (Kd.int .u8).C W A7 (nat8 acc).length (nat8 acc)) => Kd.C_string (P := Tryd.prog) (src := 60) (dst := 9) (e := 5) (c := c7) Tryd.underlying60 Tryd.underlying5 Tryd.underlying9 hW
          have hcv1 := hcv wr hC7
          rw [show strOfNums (nat8 acc) = ⟨acc.toArray⟩ from strOf8 acc] at hcv1
          clear hcv hC7 HU HUE HO HA hx1 hx63
          go_wp2_with (go_at_call 19; (with_reducible refine (value_Text.calls ⟨acc.toArray⟩ 2 0 ⟨acc.toArray⟩ wr rfl).mono ?_); rintro e w7 ⟨rfl, hb⟩; have HK47 := Aside0.mk (HK4.out.after hb); have HK27 := Aside0.mk (HK2.out.after hb); have HB7 := Aside0.mk (HB6.out.trans (hb.mono HB6.out.size)); have u0 : w7.cell? ⟨g4, 0, none⟩ = some (.int .i64 3) := HK47.out.cell 0; have u1 : w7.cell? ⟨g4, 1, none⟩ = some (.int .i64 tv) := HK47.out.cell 1; have u2 : w7.cell? ⟨g4, 2, none⟩ = some (.string ⟨#[]⟩) := HK47.out.cell 2; have v0 : w7.frozen? ⟨g4, 0, none⟩ = false := HK47.out.frozen 0; have v1 : w7.frozen? ⟨g4, 1, none⟩ = false := HK47.out.frozen 1; have v2 : w7.frozen? ⟨g4, 2, none⟩ = false := HK47.out.frozen 2; clear hb)
          go_meet
          case rel => exact ⟨2, 0, ⟨acc.toArray⟩, ⟨by simpa using ((HK47.out.set_ 0 (.int .i64 2)).set_ 1 (.int .i64 0)).set_ 2 (.string ⟨acc.toArray⟩)⟩, ⟨((HK27.out.far (p := ⟨g4, 0, none⟩) HNE.out.1 _).far (p := ⟨g4, 1, none⟩) HNE.out.1 _).far (p := ⟨g4, 2, none⟩) HNE.out.1 _⟩, ⟨((HB7.out.setCell (by exact HNE.out.2.2) _).setCell (by exact HNE.out.2.2) _).setCell (by exact HNE.out.2.2) _⟩, HP⟩
  case rest =>
    obtain ⟨f0, f1, f2, HK4, HK2, HB, HP⟩ := hcut
    clear HKc HKd HB4
    have h := H.out
    rw [HP.out] at h
    dsimp only at h
    rw [if_neg (by decide)] at h
    obtain ⟨q, hq, h⟩ := Option.bind_eq_some_iff.1 h
    have HQ := Aside0.mk hq
    clear hq H
    go_upto_region 15 with (fail)
    have HK4d := Aside0.mk HK4.out.drew
    have HK2d := Aside0.mk HK2.out.drew
    have HBd := Aside0.mk HB.out.drew
    have x0 : wc.drew.cell? ⟨g4, 0, none⟩ = some (.int .i64 f0) := HK4d.out.cell 0
    have x1 : wc.drew.cell? ⟨g4, 1, none⟩ = some (.int .i64 f1) := HK4d.out.cell 1
    have x2 : wc.drew.cell? ⟨g4, 2, none⟩ = some (.string f2) := HK4d.out.cell 2
    clear HK4 HK2 HB
    cases q
    · rw [if_neg (by decide)] at h
      have HH := Aside0.mk h
      clear h
      refine start_ (n := 11) (S := fun w' => w'.cell? ⟨g4, 0, none⟩ = some (.int .i64 f0) ∧ w'.cell? ⟨g4, 1, none⟩ = some (.int .i64 f1) ∧ w'.cell? ⟨g4, 2, none⟩ = some (.string f2)) (ds := [9]) #[false, false, false, false, false, false, false, false, false, false, false] (by kernel_rfl) rfl rfl ⟨x0, x1, x2⟩ (fun hHeld => ?_)
      generalize wc.drew = wd at HK4d HK2d HBd x0 x1 x2 hHeld ⊢
      refine take_ (i := 0) (N := some 59) (v := ?_) (a' := ?_) #[true, false, false, false, false, false, false, false, false, false, false] rfl rfl (by kernel_rfl) (fun _ _ _ h => h) (Or.inl ⟨by rfl, ?_⟩) hHeld ?_ ?_
      rotate_left
      · rintro w' ⟨s0, s1, s2⟩
        go_simp
        with_reducible rfl
      rotate_left
      · simp only [Act.put, List.setIfInBounds_toArray, List.set_cons_zero, List.set_cons_succ, i64_w, i32_w]
        rfl
      refine take_ (i := 1) (N := some 60) (v := ?_) (a' := ?_) #[true, true, false, false, false, false, false, false, false, false, false] rfl rfl (by kernel_rfl) (fun _ _ _ h => h) (Or.inl ⟨by rfl, ?_⟩) hHeld ?_ ?_
      rotate_left
      · rintro w' ⟨s0, s1, s2⟩
        go_simp
        with_reducible rfl
      rotate_left
      · simp only [Act.put, List.setIfInBounds_toArray, List.set_cons_zero, List.set_cons_succ, i64_w, i32_w]
        rfl
      refine one_ (i := 2) (N := some 61) #[true, true, true, false, false, false, false, false, false, false, false] rfl rfl (by kernel_rfl) (by decide) (fun K hK => ?_)
      refine goes_ Tryd.func15 (by kernel_rfl) rfl #[.agg #[.int .i64 f0, .int .i64 f1, .string f2]] (by rfl) rfl rfl (by simp only [List.map_toArray, List.map_cons, List.map_nil]; rfl) ?_
      with_reducible refine (value_Right.calls f0 f1 f2 false wd HQ.out).mono ?_
      rintro e w6 ⟨rfl, hb6⟩
      refine ⟨_, rfl, ?_⟩
      have HK46 := Aside0.mk (HK4d.out.after hb6)
      have HK26 := Aside0.mk (HK2d.out.after hb6)
      have HB6 := Aside0.mk (HBd.out.trans (hb6.mono HBd.out.size))
      have z0 : w6.cell? ⟨g2, 0, none⟩ = some (.int .i64 0) := HK26.out.cell 0
      have z1 : w6.cell? ⟨g2, 1, none⟩ = some (.int .i64 0) := HK26.out.cell 1
      have z2 : w6.cell? ⟨g2, 2, none⟩ = some (.string ⟨#[]⟩) := HK26.out.cell 2
      have y0 : w6.frozen? ⟨g2, 0, none⟩ = false := HK26.out.frozen 0
      have y1 : w6.frozen? ⟨g2, 1, none⟩ = false := HK26.out.frozen 1
      have y2 : w6.frozen? ⟨g2, 2, none⟩ = false := HK26.out.frozen 2
      clear hb6
      refine hK.out _ _ ⟨(HK46.out.cell 0), (HK46.out.cell 1), (HK46.out.cell 2)⟩ (fun hHeld => ?_)
      clear hK K
      refine norm_ (a' := ?_) ?_ ?_
      rotate_left
      · show Act.put _ (some 61) _ = _
        simp only [Act.put, List.setIfInBounds_toArray, List.set_cons_zero, List.set_cons_succ, i64_w, i32_w]
        rfl
      refine pure_ (i := 3) (N := some 62) (v := ?_) (a' := ?_) #[true, true, true, true, false, false, false, false, false, false, false] rfl rfl (by kernel_rfl) (fun _ _ _ h => h) (Or.inl ⟨by rfl, ?_⟩) ?_ ?_
      rotate_left
      · intro w'
        go_simp
        with_reducible rfl
      rotate_left
      · simp only [Act.put, List.setIfInBounds_toArray, List.set_cons_zero, List.set_cons_succ, i64_w, i32_w]
        rfl
      refine pure_ (i := 4) (N := some 63) (v := undef) (a' := ?_) #[true, true, true, true, true, false, false, false, false, false, false] rfl rfl (by kernel_rfl) (fun _ _ _ h => h) (Or.inr ⟨by rfl, rfl⟩) ?_ ?_
      rotate_left
      · simp only [Act.put, List.setIfInBounds_toArray, List.set_cons_zero, List.set_cons_succ, i64_w, i32_w]
        rfl
      refine pure_ (i := 5) (N := some 64) (v := undef) (a' := ?_) #[true, true, true, true, true, true, false, false, false, false, false] rfl rfl (by kernel_rfl) (fun _ _ _ h => h) (Or.inr ⟨by rfl, rfl⟩) ?_ ?_
      rotate_left
      · simp only [Act.put, List.setIfInBounds_toArray, List.set_cons_zero, List.set_cons_succ, i64_w, i32_w]
        rfl
      refine pure_ (i := 6) (N := some 65) (v := undef) (a' := ?_) #[true, true, true, true, true, true, true, false, false, false, false] rfl rfl (by kernel_rfl) (fun _ _ _ h => h) (Or.inr ⟨by rfl, rfl⟩) ?_ ?_
      rotate_left
      · simp only [Act.put, List.setIfInBounds_toArray, List.set_cons_zero, List.set_cons_succ, i64_w, i32_w]
        rfl
      refine pure_ (i := 7) (N := some 66) (v := undef) (a' := ?_) #[true, true, true, true, true, true, true, true, false, false, false] rfl rfl (by kernel_rfl) (fun _ _ _ h => h) (Or.inr ⟨by rfl, rfl⟩) ?_ ?_
      rotate_left
      · simp only [Act.put, List.setIfInBounds_toArray, List.set_cons_zero, List.set_cons_succ, i64_w, i32_w]
        rfl
      refine pure_ (i := 8) (N := some 67) (v := ?_) (a' := ?_) #[true, true, true, true, true, true, true, true, true, false, false] rfl rfl (by kernel_rfl) (fun _ _ _ h => h) (Or.inl ⟨by rfl, ?_⟩) ?_ ?_
      rotate_left
      · intro w'
        go_simp
        with_reducible rfl
      rotate_left
      · simp only [Act.put, List.setIfInBounds_toArray, List.set_cons_zero, List.set_cons_succ, i64_w, i32_w]
        rfl
      refine last_ (i := 9) (N := none) #[true, true, true, true, true, true, true, true, true, true, false] rfl rfl (by kernel_rfl) (by decide) (fun K hK => ?_)
      refine skip_ (w1 := ?_) (by rfl) rfl ?_ ?_
      rotate_left
      · go_simp
        rfl
      refine hK.out _ _ ?_
      clear hK K
      refine pure_ (i := 10) (N := some 3) (v := ?_) (a' := ?_) #[true, true, true, true, true, true, true, true, true, true, true] rfl rfl (by kernel_rfl) (fun _ _ _ h => h) (Or.inl ⟨by rfl, ?_⟩) ?_ ?_
      rotate_left
      · intro w'
        go_simp
        with_reducible rfl
      rotate_left
      · simp only [Act.put, List.setIfInBounds_toArray, List.set_cons_zero, List.set_cons_succ, i64_w, i32_w]
        rfl
      refine done_ (by kernel_rfl) ?_
      clear hHeld
      go_wp2
      have hh := HH.out
      simp only [Option.some.injEq, Prod.mk.injEq] at hh
      obtain ⟨rfl, rfl, rfl, rfl⟩ := hh
      refine bodyPost_ret (results_ct rfl _ _ g2 37 #[.int .i64 f0, .int .i64 f1, .string f2] (0, 0) _ rfl (show Blk _ g2 37 #[.int .i64 f0, .int .i64 f1, .string f2] from by simpa using ((HK26.out.set_ 0 (.int .i64 f0)).set_ 1 (.int .i64 f1)).set_ 2 (.string f2)) Tryd.underlying37 rfl (by kernel_rfl)) rfl ?_
      exact ⟨rfl, ((HB6.out.setCell (by exact HNE.out.2.1) _).setCell (by exact HNE.out.2.1) _).setCell (by exact HNE.out.2.1) _⟩
    · rw [if_pos rfl] at h
      obtain ⟨t, ht, h⟩ := Option.bind_eq_some_iff.1 h
      have HX := Aside0.mk ht
      have HH := Aside0.mk h
      clear ht h
      refine start_ (n := 11) (S := fun w' => w'.cell? ⟨g4, 0, none⟩ = some (.int .i64 f0) ∧ w'.cell? ⟨g4, 1, none⟩ = some (.int .i64 f1) ∧ w'.cell? ⟨g4, 2, none⟩ = some (.string f2)) (ds := [9]) #[false, false, false, false, false, false, false, false, false, false, false] (by kernel_rfl) rfl rfl ⟨x0, x1, x2⟩ (fun hHeld => ?_)
      generalize wc.drew = wd at HK4d HK2d HBd x0 x1 x2 hHeld ⊢
      refine take_ (i := 0) (N := some 59) (v := ?_) (a' := ?_) #[true, false, false, false, false, false, false, false, false, false, false] rfl rfl (by kernel_rfl) (fun _ _ _ h => h) (Or.inl ⟨by rfl, ?_⟩) hHeld ?_ ?_
      rotate_left
      · rintro w' ⟨s0, s1, s2⟩
        go_simp
        with_reducible rfl
      rotate_left
      · simp only [Act.put, List.setIfInBounds_toArray, List.set_cons_zero, List.set_cons_succ, i64_w, i32_w]
        rfl
      refine take_ (i := 1) (N := some 60) (v := ?_) (a' := ?_) #[true, true, false, false, false, false, false, false, false, false, false] rfl rfl (by kernel_rfl) (fun _ _ _ h => h) (Or.inl ⟨by rfl, ?_⟩) hHeld ?_ ?_
      rotate_left
      · rintro w' ⟨s0, s1, s2⟩
        go_simp
        with_reducible rfl
      rotate_left
      · simp only [Act.put, List.setIfInBounds_toArray, List.set_cons_zero, List.set_cons_succ, i64_w, i32_w]
        rfl
      refine one_ (i := 2) (N := some 61) #[true, true, true, false, false, false, false, false, false, false, false] rfl rfl (by kernel_rfl) (by decide) (fun K hK => ?_)
      refine goes_ Tryd.func15 (by kernel_rfl) rfl #[.agg #[.int .i64 f0, .int .i64 f1, .string f2]] (by rfl) rfl rfl (by simp only [List.map_toArray, List.map_cons, List.map_nil]; rfl) ?_
      with_reducible refine (value_Right.calls f0 f1 f2 true wd HQ.out).mono ?_
      rintro e w6 ⟨rfl, hb6⟩
      refine ⟨_, rfl, ?_⟩
      have HK46 := Aside0.mk (HK4d.out.after hb6)
      have HK26 := Aside0.mk (HK2d.out.after hb6)
      have HB6 := Aside0.mk (HBd.out.trans (hb6.mono HBd.out.size))
      clear hb6
      refine hK.out _ _ ⟨(HK46.out.cell 0), (HK46.out.cell 1), (HK46.out.cell 2)⟩ (fun hHeld => ?_)
      clear hK K
      refine norm_ (a' := ?_) ?_ ?_
      rotate_left
      · show Act.put _ (some 61) _ = _
        simp only [Act.put, List.setIfInBounds_toArray, List.set_cons_zero, List.set_cons_succ, i64_w, i32_w]
        rfl
      refine pure_ (i := 3) (N := some 62) (v := ?_) (a' := ?_) #[true, true, true, true, false, false, false, false, false, false, false] rfl rfl (by kernel_rfl) (fun _ _ _ h => h) (Or.inl ⟨by rfl, ?_⟩) ?_ ?_
      rotate_left
      · intro w'
        go_simp
        with_reducible rfl
      rotate_left
      · simp only [Act.put, List.setIfInBounds_toArray, List.set_cons_zero, List.set_cons_succ, i64_w, i32_w]
        rfl
      refine pure_ (i := 6) (N := some 65) (v := ?_) (a' := ?_) #[true, true, true, true, false, false, true, false, false, false, false] rfl rfl (by kernel_rfl) (fun _ _ _ h => h) (Or.inl ⟨by rfl, ?_⟩) ?_ ?_
      rotate_left
      · intro w'
        go_simp
        with_reducible rfl
      rotate_left
      · simp only [Act.put, List.setIfInBounds_toArray, List.set_cons_zero, List.set_cons_succ, i64_w, i32_w]
        rfl
      refine take_ (i := 4) (N := some 63) (v := ?_) (a' := ?_) #[true, true, true, true, true, false, true, false, false, false, false] rfl rfl (by kernel_rfl) (fun _ _ _ h => h) (Or.inl ⟨by rfl, ?_⟩) hHeld ?_ ?_
      rotate_left
      · rintro w' ⟨s0, s1, s2⟩
        go_simp
        with_reducible rfl
      rotate_left
      · simp only [Act.put, List.setIfInBounds_toArray, List.set_cons_zero, List.set_cons_succ, i64_w, i32_w]
        rfl
      refine one_ (i := 5) (N := some 64) #[true, true, true, true, true, true, true, false, false, false, false] rfl rfl (by kernel_rfl) (by decide) (fun K hK => ?_)
      refine goes_ Tryd.func31 (by kernel_rfl) rfl #[.agg #[.int .i64 f0, .int .i64 f1, .string f2]] (by rfl) rfl rfl (by simp only [List.map_toArray, List.map_cons, List.map_nil]; rfl) ?_
      with_reducible refine (value_text.calls f0 f1 f2 t w6 HX.out (HV.out.below HB6.out)).mono ?_
      rintro e w7 ⟨rfl, hb7⟩
      refine ⟨_, rfl, ?_⟩
      have HK27 := Aside0.mk (HK26.out.after hb7)
      have HK47 := Aside0.mk (HK46.out.after hb7)
      have HB7 := Aside0.mk (HB6.out.trans (hb7.mono HB6.out.size))
      have z0 : w7.cell? ⟨g2, 0, none⟩ = some (.int .i64 0) := HK27.out.cell 0
      have z1 : w7.cell? ⟨g2, 1, none⟩ = some (.int .i64 0) := HK27.out.cell 1
      have z2 : w7.cell? ⟨g2, 2, none⟩ = some (.string ⟨#[]⟩) := HK27.out.cell 2
      have y0 : w7.frozen? ⟨g2, 0, none⟩ = false := HK27.out.frozen 0
      have y1 : w7.frozen? ⟨g2, 1, none⟩ = false := HK27.out.frozen 1
      have y2 : w7.frozen? ⟨g2, 2, none⟩ = false := HK27.out.frozen 2
      clear hb7
      refine hK.out _ _ ⟨(HK47.out.cell 0), (HK47.out.cell 1), (HK47.out.cell 2)⟩ (fun hHeld => ?_)
      clear hK K
      refine norm_ (a' := ?_) ?_ ?_
      rotate_left
      · show Act.put _ (some 64) _ = _
        simp only [Act.put, List.setIfInBounds_toArray, List.set_cons_zero, List.set_cons_succ, i64_w, i32_w]
        rfl
      refine pure_ (i := 7) (N := some 66) (v := ?_) (a' := ?_) #[true, true, true, true, true, true, true, true, false, false, false] rfl rfl (by kernel_rfl) (fun _ _ _ h => h) (Or.inl ⟨by rfl, ?_⟩) ?_ ?_
      rotate_left
      · intro w'
        go_simp
        with_reducible rfl
      rotate_left
      · simp only [Act.put, List.setIfInBounds_toArray, List.set_cons_zero, List.set_cons_succ, i64_w, i32_w]
        rfl
      refine pure_ (i := 8) (N := some 67) (v := ?_) (a' := ?_) #[true, true, true, true, true, true, true, true, true, false, false] rfl rfl (by kernel_rfl) (fun _ _ _ h => h) (Or.inl ⟨by rfl, ?_⟩) ?_ ?_
      rotate_left
      · intro w'
        go_simp
        with_reducible rfl
      rotate_left
      · simp only [Act.put, List.setIfInBounds_toArray, List.set_cons_zero, List.set_cons_succ, i64_w, i32_w]
        rfl
      refine last_ (i := 9) (N := none) #[true, true, true, true, true, true, true, true, true, true, false] rfl rfl (by kernel_rfl) (by decide) (fun K hK => ?_)
      refine skip_ (w1 := ?_) (by rfl) rfl ?_ ?_
      rotate_left
      · go_simp
        rfl
      refine hK.out _ _ ?_
      clear hK K
      refine pure_ (i := 10) (N := some 3) (v := ?_) (a' := ?_) #[true, true, true, true, true, true, true, true, true, true, true] rfl rfl (by kernel_rfl) (fun _ _ _ h => h) (Or.inl ⟨by rfl, ?_⟩) ?_ ?_
      rotate_left
      · intro w'
        go_simp
        with_reducible rfl
      rotate_left
      · simp only [Act.put, List.setIfInBounds_toArray, List.set_cons_zero, List.set_cons_succ, i64_w, i32_w]
        rfl
      refine done_ (by kernel_rfl) ?_
      clear hHeld
      go_wp2
      have hh := HH.out
      simp only [Option.some.injEq, Prod.mk.injEq] at hh
      obtain ⟨rfl, rfl, rfl, rfl⟩ := hh
      refine bodyPost_ret (results_ct rfl _ _ g2 37 #[.int .i64 f0, .int .i64 f1, .string f2] (0, 0) _ rfl (show Blk _ g2 37 #[.int .i64 f0, .int .i64 f1, .string f2] from by simpa using ((HK27.out.set_ 0 (.int .i64 f0)).set_ 1 (.int .i64 f1)).set_ 2 (.string f2)) Tryd.underlying37 rfl (by kernel_rfl)) rfl ?_
      exact ⟨rfl, ((HB7.out.setCell (by exact HNE.out.2.1) _).setCell (by exact HNE.out.2.1) _).setCell (by exact HNE.out.2.1) _⟩


end Go.Proofs.YtblaibigjhlblaaDoor.Q
end

section
-- written by hprint.py (a program of these sessions) out of the translation; Lean checks it
namespace Go.Proofs.YtblaibigjhlblaaDoor.Q
open Go.RowKit Go.Proofs.YtblaibigjhlblaaDoorW.Hb Go.Proofs.YtblaibigjhlblaaDoorW.PrintWords Go.Proofs.YtblaibigjhlblaaDoorW.PrintLast Go.Proofs.YtblaibigjhlblaaDoorW.PrintMore
attribute [local go_sem] max2_int min2_int max_two min_two max_three min_three max_four min_four   -- for this text's walks alone
set_option linter.unusedVariables false
set_option linter.unusedSimpArgs false

/-! ### value_Parse: function 8, by hand -/
def parseL : List ByteArray → List S37 → Option (List S37 × Int)
  | [], acc => some (acc, 0)
  | s :: r, acc => (value_word.f s).bind fun v => if v.2.2.2 = true then parseL r (acc ++ [⟨v.1, v.2.1, v.2.2.1⟩]) else some ([], 21)
def spB (s : ByteArray) : List ByteArray := Lib.splitB ⟨#[32]⟩ 0 (Lib.countB s ⟨#[32]⟩) s
theorem at_strP {w : World} {A : Option Addr} {n : Nat} {xs : List ByteArray} (h : Kd.string.C w A n xs) (i : Nat) (hi : i < xs.length) : ∃ ad, A = some ad ∧ w.cell? (ad.add i) = some (.string xs[i]) := by
  obtain ⟨ad, e, hc⟩ := Kd.at_string h i (by omega) (by have := h.1; omega)
  refine ⟨ad, e, ?_⟩
  rw [Int.toNat_natCast] at hc
  rw [hc]
  simp [rdOf, List.getD_eq_getElem?_getD, hi]
theorem parseC (w : World) (P : List ByteArray) (hP : P.length ≤ 9223372036854775807) : Kd.string.C (w.alloc (.cells (P.map Value.string).toArray 9)) (some ⟨w.heap.size, 0, none⟩) P.length P := by
  refine ⟨rfl, hP, fun _ => ⟨_, rfl, fun j p hj => ⟨[.string p], rfl, rfl, fun i u hu => ?_⟩⟩⟩
  have hi : i = 0 := by
    rcases i with _ | i
    · rfl
    · simp at hu
  subst hi
  obtain rfl : Value.string p = u := by simpa using hu
  have e : j * Kd.string.sz + 0 = j := by show j * 1 + 0 = j; omega
  rw [e, Addr.add_lit, Nat.zero_add, (Blk.new w 9 (P.map Value.string).toArray).cell j]
  simp [hj]
def value_Parse.f (s : ByteArray) : Option (List S37 × Int) := if s.size = 0 then some ([], 0) else if 4294967281 ≤ s.size then none else if (spB s).length = Lib.countB s ⟨#[32]⟩ + 1 ∧ (spB s).length * 32 ≤ 140737488355328 then parseL (spB s) [] else none
set_option maxRecDepth 100000 in
set_option maxHeartbeats 4000000 in
theorem value_Parse.calls (s : ByteArray) (r1 : List S37) (r2 : Int) (w : World) (h : value_Parse.f s = some (r1, r2)) (hV : VarsOk w) :
    Calls Tryd.prog 8 #[.string s] w fun e w' => ∃ v0_ : Value, e = .returned (.tuple #[v0_, .int .i64 r2]) ∧ Kd.R k37 37 w' w.heap.size (fun _ => True) v0_ r1 ∧ Below w.heap.size w w' := by
  unfold value_Parse.f at h
  by_cases h0 : s.size = 0
  · rw [if_pos h0] at h
    simp only [Option.some.injEq, Prod.mk.injEq] at h
    obtain ⟨rfl, rfl⟩ := h
    have hs : s = ⟨#[]⟩ := by
      have : s.data.toList = [] := List.eq_nil_of_length_eq_zero (by rw [← Lib.size_eq]; exact h0)
      cases s with
      | mk d => simpa using this
    subst hs
    clear h0
    go_enter Tryd.func8, Tryd.ntmps8
    go_wp2
    go_ret2
    exact ⟨_, rfl, Kd.R_nil _ _ _ _ _, Below.refl _ _⟩
  rw [if_neg h0] at h
  by_cases hbig : 4294967281 ≤ s.size
  · rw [if_pos hbig] at h
    cases h
  rw [if_neg hbig] at h
  by_cases hsp : (spB s).length = Lib.countB s ⟨#[32]⟩ + 1 ∧ (spB s).length * 32 ≤ 140737488355328
  rotate_left
  · rw [if_neg hsp] at h
    cases h
  rw [if_pos hsp] at h
  have H0 := Aside0.mk h
  have HV := Aside0.mk hV
  have hne : (s.toList == []) = false := by
    have : s.toList ≠ [] := by
      intro he
      rw [ByteArray.toList_eq] at he
      exact h0 (by rw [Lib.size_eq, he]; rfl)
    simpa using this
  have HSP := Aside0.mk (splitV s ⟨#[32]⟩ (by omega) (by decide) w hV)
  obtain ⟨P, hP⟩ : ∃ P, spB s = P := ⟨_, rfl⟩
  rw [show Lib.splitB ⟨#[32]⟩ 0 (Lib.countB s ⟨#[32]⟩) s = P from hP, ← hsp.1, hP] at HSP
  rw [hP] at H0
  have HPL := Aside0.mk (show P.length * 32 ≤ 140737488355328 by rw [← hP]; exact hsp.2)
  have HPC := Aside0.mk (show Kd.string.C (w.alloc (.cells (P.map Value.string).toArray 9)) (some ⟨w.heap.size, 0, none⟩) P.length P from parseC w P (by rw [← hP]; have := hsp.2; omega))
  have HB1 := Aside0.mk ((Below.refl w.heap.size w).alloc (Nat.le_refl _) (.cells (P.map Value.string).toArray 9))
  have hPm : P.length ≤ 9223372036854775807 := by rw [← hP]; have := hsp.2; omega
  clear h hV h0 hbig hsp hP
  go_enter Tryd.func8, Tryd.ntmps8
  go_wp2_with (go_at_call 27; (with_reducible refine HSP.out.mono ?_); rintro e w1 ⟨rfl, rfl⟩)
  obtain ⟨w1, hw1⟩ : ∃ w1, w1 = w.alloc (.cells (P.map Value.string).toArray 9) := ⟨_, rfl⟩
  rw [← hw1] at HPC HB1 ⊢
  clear hw1 HSP hne
  go_loopw [4, 14] (fun v4 v14 wl => ∃ (j : Nat) (acc : List S37), j ≤ P.length ∧ v14 = .int .i64 j ∧ Aside0 (parseL (P.drop j) acc = some (r1, r2)) ∧ Aside0 (acc.length ≤ j) ∧ Aside0 (Kd.R k37 37 wl w1.heap.size (fun _ => True) v4 acc) ∧ Aside0 (Below w1.heap.size w1 wl)) (fun _ v _ => P.length - (intOf v).toNat)
  case atStart => exact ⟨0, [], Nat.zero_le _, rfl, H0, ⟨Nat.le_refl _⟩, ⟨Kd.R_nil _ _ _ _ _⟩, ⟨Below.refl _ _⟩⟩
  case round =>
    clear H0
    obtain ⟨j, acc, hj, rfl, HU, HA, HO, HBl⟩ := hrel
    have HB := Aside0.mk (HB1.out.trans (HBl.out.mono HB1.out.size))
    by_cases hlt : j < P.length
    · obtain ⟨ad, e, hc⟩ := at_strP (Kd.C_below HPC.out HBl.out) j hlt
      cases e
      obtain ⟨x, hx⟩ : ∃ x, P[j] = x := ⟨_, rfl⟩
      have h := HU.out
      rw [List.drop_eq_getElem_cons hlt, parseL] at h
      rw [hx] at hc h
      obtain ⟨⟨a, b, c, ok⟩, hwd, h⟩ := Option.bind_eq_some_iff.1 h
      dsimp only at h
      have HW := Aside0.mk (value_word.calls x a b c ok wr hwd (HV.out.below HB.out))
      have hlti : (j : Int) < (P.length : Int) := by omega
      have HAL := Aside0.mk (show (acc.length + 1) * 32 ≤ 140737488355328 by have := HA.out; have := HPL.out; omega)
      rw [Addr.add_lit, Nat.zero_add] at hc
      clear hwd hx HU
      cases ok
      · rw [if_neg (by decide)] at h
        simp only [Option.some.injEq, Prod.mk.injEq] at h
        obtain ⟨rfl, rfl⟩ := h
        go_wp2_with (go_at_call 28; (with_reducible refine HW.out.mono ?_); rintro e w4 ⟨rfl, hb4⟩; have HB4 := Aside0.mk (HB.out.trans (hb4.mono HB.out.size)); clear hb4)
        go_ret2
        exact ⟨_, rfl, Kd.R_nil _ _ _ _ _, HB4.out.alloc HB4.out.size _⟩
      · rw [if_pos rfl] at h
        have HU2 := Aside0.mk h
        clear h
        go_upto_region 10 with (go_at_call 28; (with_reducible refine HW.out.mono ?_); rintro e w4 ⟨rfl, hb4⟩; have HBl4 := Aside0.mk ((HBl.out.trans (hb4.mono HBl.out.size)).alloc (HBl.out.trans (hb4.mono HBl.out.size)).size (.cells #[.int .i64 a, .int .i64 b, .string c] 37)); have HB4 := Aside0.mk (HB1.out.trans (HBl4.out.mono HB1.out.size)); have HO4 := Aside0.mk (Kd.R_alloc (Kd.R_below HO.out hb4) (.cells #[.int .i64 a, .int .i64 b, .string c] 37)); clear hb4)
        have k0 : (w4.alloc (.cells #[.int .i64 a, .int .i64 b, .string c] 37)).cell? ⟨w4.heap.size, 0, none⟩ = some (.int .i64 a) := (Blk.new w4 37 #[.int .i64 a, .int .i64 b, .string c]).cell 0
        have k1 : (w4.alloc (.cells #[.int .i64 a, .int .i64 b, .string c] 37)).cell? ⟨w4.heap.size, 1, none⟩ = some (.int .i64 b) := (Blk.new w4 37 #[.int .i64 a, .int .i64 b, .string c]).cell 1
        have k2 : (w4.alloc (.cells #[.int .i64 a, .int .i64 b, .string c] 37)).cell? ⟨w4.heap.size, 2, none⟩ = some (.string c) := (Blk.new w4 37 #[.int .i64 a, .int .i64 b, .string c]).cell 2
        generalize w4.alloc (.cells #[.int .i64 a, .int .i64 b, .string c] 37) = w6 at HBl4 HB4 HO4 k0 k1 k2 ⊢
        go_wp2_with ((with_reducible refine gate_builtin (b := .append) (xs := #[.tmp 25, .tmp 27]) rfl ?_); at_builtin; refine Kd.R_append k37 (w0 := w1) w1.heap.size rfl (.tmp 25) (.tmp 27) 22 37 (.agg #[(.int .i64 0), (.int .i64 0), (.string ⟨#[]⟩)]) 32 rfl Tryd.underlying22 info37 rfl (by decide) (by omega) _ acc ⟨a, b, c⟩ [.int .i64 a, .int .i64 b, .string c] (fun _ => True) (fun _ => False) rfl rfl ?aP (fun _ hk => hk.elim) (fun _ _ => trivial) HO4.out HBl4.out HBl4.out.size HAL.out ?_; (case aP => exact k37_mkM _ _ _ ⟨a, b, c⟩); intro v5 w5 hR5 hB5 _ _; have HR5 := Aside0.mk hR5; have HB5 := Aside0.mk hB5; clear hR5 hB5)
        go_roundw
        case rel => exact ⟨j + 1, _, by omega, by go_num, HU2, ⟨by have := HA.out; rw [List.length_append, List.length_singleton]; omega⟩, HR5, HB5⟩
        case measure => simp [intOf]; omega
    · have hdr : P.drop j = [] := List.drop_eq_nil_of_le (by omega)
      have h := HU.out
      rw [hdr, parseL] at h
      simp only [Option.some.injEq, Prod.mk.injEq] at h
      obtain ⟨rfl, rfl⟩ := h
      have hlti : ¬ (j : Int) < (P.length : Int) := by omega
      clear hdr HU
      go_wp2
      go_ret2
      exact ⟨_, rfl, Kd.R_lower HO.out HB1.out.size, HB.out⟩


end Go.Proofs.YtblaibigjhlblaaDoor.Q
end

section
-- written by hprint.py (a program of these sessions) out of the translation; Lean checks it
namespace Go.Proofs.YtblaibigjhlblaaDoor.Q
open Go.RowKit Go.Proofs.YtblaibigjhlblaaDoorW.Hb Go.Proofs.YtblaibigjhlblaaDoorW.PrintWords Go.Proofs.YtblaibigjhlblaaDoorW.PrintLast Go.Proofs.YtblaibigjhlblaaDoorW.PrintMore
attribute [local go_sem] max2_int min2_int max_two min_two max_three min_three max_four min_four   -- for this text's walks alone
set_option linter.unusedVariables false
set_option linter.unusedSimpArgs false

/-! ### value_all: function 30 -/
def value_all.l0 : Nat → List (S37) → Int → Int → Option (Bool)
  | 0, _, _, _ => none
  | k + 1, x5, x6, x7 => if x7 < x6 then (if 0 ≤ x7 then (if x7 < (x5.length : Int) then ((value_Right.f ((rd_T37 x5 x7).f0) ((rd_T37 x5 x7).f1) ((rd_T37 x5 x7).f2)).bind fun t196 => (if t196 = true then (value_all.l0 k x5 x6 (wrap64 (x7 + 1))) else (some false))) else (none)) else (none)) else (some true)
def value_all.f (k : Nat) (l0 : List (S37)) : Option (Bool) := value_all.l0 k l0 (l0.length : Int) 0
theorem value_all.mono_l : ∀ k, (∀ y0 y1 y2, LeO (value_all.l0 k y0 y1 y2) (value_all.l0 (k + 1) y0 y1 y2))
  | 0 => fun _ _ _ r h => by simp [value_all.l0] at h
  | k + 1 => by
    have ih0 := value_all.mono_l k
    · intro y0 y1 y2
      unfold value_all.l0
      repeat' first
      | (with_reducible exact ih0 _ _ _)
      | (with_reducible exact LeO.refl _)
      | (with_reducible exact LeO.none _)
      | (with_reducible refine LeO.ite ?_ ?_)
      | (with_reducible refine LeO.bind ?_ (fun _ => ?_))
      | exact ih0 _ _ _
      | exact LeO.none _
      | refine LeO.ite ?_ ?_
      | refine LeO.bind ?_ (fun _ => ?_)
theorem value_all.mono : ∀ a0 k, LeO (value_all.f k a0) (value_all.f (k + 1) a0) := by
  intro a0 k
  have ih0 := value_all.mono_l k
  unfold value_all.f
  repeat' first
      | (with_reducible exact ih0 _ _ _)
      | (with_reducible exact LeO.refl _)
      | (with_reducible exact LeO.none _)
      | (with_reducible refine LeO.ite ?_ ?_)
      | (with_reducible refine LeO.bind ?_ (fun _ => ?_))
      | exact ih0 _ _ _
      | exact LeO.none _
      | refine LeO.ite ?_ ?_
      | refine LeO.bind ?_ (fun _ => ?_)
set_option maxHeartbeats 8000000 in
set_option maxRecDepth 100000 in
theorem value_all.calls (k : Nat) (A0 : Option Addr) (c0 : Nat) (l0 : List (S37)) (r : Bool) (w : World) (hr0 : Kd.C k37 w A0 l0.length l0) (hc0 : l0.length ≤ c0) (h : value_all.f k l0 = some r) :
    Calls Tryd.prog 30 #[.slice A0 l0.length c0] w fun e w' => e = .returned (.bool r) ∧ Below w.heap.size w w' := by
  have hu37 := Tryd.underlying37
  have HR0 := Aside0.mk hr0
  have HC0 := Aside0.mk hc0
  clear hr0 hc0
  have HB := Aside0.mk (Below.refl w.heap.size w)
  have H : (value_all.l0 k l0 (l0.length : Int) 0) = some r := h
  clear h
  have H' := Aside0.mk H
  clear H
  go_enter Tryd.func30, Tryd.ntmps30
  go_wp2
  go_loopg [7] k (fun kq v7 w' => ∃ (x7_1 : Int), v7 = .int .i64 x7_1 ∧ Aside0 (value_all.l0 kq l0 (l0.length : Int) x7_1 = some r) ∧ Aside0 (kq ≤ k) ∧ Aside0 (Below w.heap.size w w'))
  case atStart => exact ⟨(0), (by first | rfl | (simp; done) | (simp [*]; done)), H', ⟨Nat.le_refl _⟩, ⟨by repeat (first | (with_reducible first | exact HB.out | apply below_alloc | apply pw_below_drewN | apply below_drew1) | exact HB.out)⟩⟩
  case round =>
    clear H'
    obtain ⟨x7_1, rfl, HA, HK1, HB⟩ := hrel
    cases gk with
    | zero => exact absurd HA.out (by simp [value_all.l0])
    | succ k1 =>
      have H := HA.out
      clear HA
      simp only [value_all.l0] at H
      by_cases c2 : x7_1 < (l0.length : Int)
      · rw [if_pos c2] at H
        have c2b0 : decide (x7_1 < (l0.length : Int)) = true := decide_eq_true c2
        clear c2
        by_cases c3 : 0 ≤ x7_1
        · rw [if_pos c3] at H
          have c3b0 : decide (0 ≤ x7_1) = true := decide_eq_true c3
          clear c3
          by_cases c4 : x7_1 < (l0.length : Int)
          · rw [if_pos c4] at H
            have c4b0 : decide (x7_1 < (l0.length : Int)) = true := decide_eq_true c4
            clear c4
            replace H := Option.bind_eq_some_iff.mp H
            obtain ⟨t196, A50, H⟩ := H
            replace H : (if t196 = true then (value_all.l0 k1 l0 (l0.length : Int) (wrap64 (x7_1 + 1))) else (some false)) = some r := H
            have A5 := Aside0.mk A50
            clear A50
            by_cases c6 : t196 = true
            · subst c6
              have H1 : (value_all.l0 k1 l0 (l0.length : Int) (wrap64 (x7_1 + 1))) = some r := by rw [if_pos rfl] at H; exact H
              clear H
              have H := H1
              clear H1
              have H' := Aside0.mk H
              clear H
              have p194 : 0 ≤ (x7_1 : Int) := of_decide_eq_true (by first | (with_reducible assumption) | assumption)
              have q194 : x7_1 < (l0.length : Int) := of_decide_eq_true (by first | (with_reducible assumption) | assumption)
              obtain ⟨ad194, e194, hx194_0, hx194_1, hx194_2⟩ := at_T37 HR0.out x7_1 p194 q194
              cases e194
              replace hx194_0 := (HB.out.cell (World.block_lt_of_cell? w _ hx194_0)).trans hx194_0
              replace hx194_1 := (HB.out.cell (World.block_lt_of_cell? w _ hx194_1)).trans hx194_1
              replace hx194_2 := (HB.out.cell (World.block_lt_of_cell? w _ hx194_2)).trans hx194_2
              replace p194 := eq_true p194
              replace q194 := eq_true q194
              go_wp2_with (first | ((with_reducible refine gate_dst (N := 4) rfl ?_); refine box_event ?hg (N := 4) ?hd (cs := #[.int .i64 0, .int .i64 0, .string (⟨#[]⟩ : ByteArray)]) (t := 37) ?hr ?_; (case hd => rfl); (case hg => rfl); (case hr => first | (go_simp; done) | (go_simp; rfl)); intro gb195 hg w7 hbox hb; have n0_ := Aside0.mk (below_step (by repeat (first | (with_reducible first | exact HB.out | apply below_alloc | apply pw_below_drewN | apply below_drew1) | exact HB.out)) hb); have n1_ := Aside0.mk (hbox); have n2_ := Aside0.mk ((by rw [hg]; exact (below_size (by repeat (first | (with_reducible first | exact HB.out | apply below_alloc | apply pw_below_drewN | apply below_drew1) | exact HB.out))) : w.heap.size ≤ gb195)); have n3_ := Aside0.mk ((by rw [hg]; exact (below_size (by repeat (first | (with_reducible first | exact HB.out | apply below_alloc | apply pw_below_drewN | apply below_drew1) | exact HB.out))) : w.heap.size ≤ gb195)); clear HB; have HB := n0_; have BK195 := n1_; have GW195 := n2_; have GE195 := n3_; clear n0_ n1_ n2_ n3_; clear hb hbox hg; have hcz8_0 : w7.cell? ⟨gb195, 0, none⟩ = some (.int .i64 0) := (blk_cell BK195.out 0).trans rfl; have hcz8_1 : w7.cell? ⟨gb195, 1, none⟩ = some (.int .i64 0) := (blk_cell BK195.out 1).trans rfl; have hcz8_2 : w7.cell? ⟨gb195, 2, none⟩ = some (.string (⟨#[]⟩ : ByteArray)) := (blk_cell BK195.out 2).trans rfl; have hfz8_0 := blk_frozen BK195.out 0; have hfz8_1 := blk_frozen BK195.out 1; have hfz8_2 := blk_frozen BK195.out 2) | ((with_reducible refine gate_callee (f := 15) rfl ?_); refine goesL_ (some 12) rfl rfl Tryd.func15 (by kernel_rfl) rfl #[.agg #[.int .i64 ((rd_T37 l0 x7_1).f0), .int .i64 ((rd_T37 l0 x7_1).f1), .string ((rd_T37 l0 x7_1).f2)]] rfl (by (try simp only [List.map_toArray, List.map_cons, List.map_nil]); first | done | rfl | (simp only [List.length_drop, List.length_take]; rfl)) ?_; (with_reducible refine (value_Right.calls ((rd_T37 l0 x7_1).f0) ((rd_T37 l0 x7_1).f1) ((rd_T37 l0 x7_1).f2) true _ A5.out).mono ?_); rintro e w9 ⟨rfl, hb⟩; refine ⟨_, rfl, ?_⟩; have n0_ := Aside0.mk (blk_below (g := gb195) (o := .cells #[.int .i64 ((rd_T37 l0 x7_1).f0), .int .i64 ((rd_T37 l0 x7_1).f1), .string ((rd_T37 l0 x7_1).f2)] 37 (0, 0)) (by (with_reducible repeat (first | refine blk_drewN ?_ _ | refine blk_drew ?_ | refine blk_alloc ?_ _)); refine blk_put (cs := #[.int .i64 ((rd_T37 l0 x7_1).f0), .int .i64 ((rd_T37 l0 x7_1).f1), .string (⟨#[]⟩ : ByteArray)]) ?_ 2 _ rfl; (with_reducible repeat (first | refine blk_drewN ?_ _ | refine blk_drew ?_ | refine blk_alloc ?_ _)); refine blk_put (cs := #[.int .i64 ((rd_T37 l0 x7_1).f0), .int .i64 0, .string (⟨#[]⟩ : ByteArray)]) ?_ 1 _ rfl; (with_reducible repeat (first | refine blk_drewN ?_ _ | refine blk_drew ?_ | refine blk_alloc ?_ _)); refine blk_put (cs := #[.int .i64 0, .int .i64 0, .string (⟨#[]⟩ : ByteArray)]) ?_ 0 _ rfl; (with_reducible repeat (first | refine blk_drewN ?_ _ | refine blk_drew ?_ | refine blk_alloc ?_ _)); exact BK195.out) hb); have n1_ := Aside0.mk (below_step (by repeat (first | (with_reducible first | exact HB.out | apply below_alloc | apply pw_below_drewN | apply below_drew1 | refine below_set ?_ GE195.out) | exact HB.out)) hb); clear BK195; clear HB; have BK195 := n0_; have HB := n1_; clear n0_ n1_; (try clear hb); (try clear hb2); (try clear hk); (try clear hi)))
              go_roundg k1
              case measure => have := HK1.out; omega
              case rel => exact ⟨(wrap64 (x7_1 + 1)), (by first | rfl | (simp; done) | (simp [*]; done)), H', ⟨by have := HK1.out; omega⟩, ⟨by repeat (first | (with_reducible first | exact HB.out | apply below_alloc | apply pw_below_drewN | apply below_drew1 | refine below_set ?_ GE195.out) | exact HB.out)⟩⟩
            · replace c6 := Bool.eq_false_iff.mpr c6
              subst c6
              have H1 : (some false) = some r := by rw [if_neg (show ¬ (false = true) by decide)] at H; exact H
              clear H
              have H := H1
              clear H1
              obtain rfl := Option.some.inj H
              have p194 : 0 ≤ (x7_1 : Int) := of_decide_eq_true (by first | (with_reducible assumption) | assumption)
              have q194 : x7_1 < (l0.length : Int) := of_decide_eq_true (by first | (with_reducible assumption) | assumption)
              obtain ⟨ad194, e194, hx194_0, hx194_1, hx194_2⟩ := at_T37 HR0.out x7_1 p194 q194
              cases e194
              replace hx194_0 := (HB.out.cell (World.block_lt_of_cell? w _ hx194_0)).trans hx194_0
              replace hx194_1 := (HB.out.cell (World.block_lt_of_cell? w _ hx194_1)).trans hx194_1
              replace hx194_2 := (HB.out.cell (World.block_lt_of_cell? w _ hx194_2)).trans hx194_2
              replace p194 := eq_true p194
              replace q194 := eq_true q194
              go_wp2_with (first | ((with_reducible refine gate_dst (N := 4) rfl ?_); refine box_event ?hg (N := 4) ?hd (cs := #[.int .i64 0, .int .i64 0, .string (⟨#[]⟩ : ByteArray)]) (t := 37) ?hr ?_; (case hd => rfl); (case hg => rfl); (case hr => first | (go_simp; done) | (go_simp; rfl)); intro gb195 hg w10 hbox hb; have n0_ := Aside0.mk (below_step (by repeat (first | (with_reducible first | exact HB.out | apply below_alloc | apply pw_below_drewN | apply below_drew1) | exact HB.out)) hb); have n1_ := Aside0.mk (hbox); have n2_ := Aside0.mk ((by rw [hg]; exact (below_size (by repeat (first | (with_reducible first | exact HB.out | apply below_alloc | apply pw_below_drewN | apply below_drew1) | exact HB.out))) : w.heap.size ≤ gb195)); have n3_ := Aside0.mk ((by rw [hg]; exact (below_size (by repeat (first | (with_reducible first | exact HB.out | apply below_alloc | apply pw_below_drewN | apply below_drew1) | exact HB.out))) : w.heap.size ≤ gb195)); clear HB; have HB := n0_; have BK195 := n1_; have GW195 := n2_; have GE195 := n3_; clear n0_ n1_ n2_ n3_; clear hb hbox hg; have hcz11_0 : w10.cell? ⟨gb195, 0, none⟩ = some (.int .i64 0) := (blk_cell BK195.out 0).trans rfl; have hcz11_1 : w10.cell? ⟨gb195, 1, none⟩ = some (.int .i64 0) := (blk_cell BK195.out 1).trans rfl; have hcz11_2 : w10.cell? ⟨gb195, 2, none⟩ = some (.string (⟨#[]⟩ : ByteArray)) := (blk_cell BK195.out 2).trans rfl; have hfz11_0 := blk_frozen BK195.out 0; have hfz11_1 := blk_frozen BK195.out 1; have hfz11_2 := blk_frozen BK195.out 2) | ((with_reducible refine gate_callee (f := 15) rfl ?_); refine goesL_ (some 12) rfl rfl Tryd.func15 (by kernel_rfl) rfl #[.agg #[.int .i64 ((rd_T37 l0 x7_1).f0), .int .i64 ((rd_T37 l0 x7_1).f1), .string ((rd_T37 l0 x7_1).f2)]] rfl (by (try simp only [List.map_toArray, List.map_cons, List.map_nil]); first | done | rfl | (simp only [List.length_drop, List.length_take]; rfl)) ?_; (with_reducible refine (value_Right.calls ((rd_T37 l0 x7_1).f0) ((rd_T37 l0 x7_1).f1) ((rd_T37 l0 x7_1).f2) false _ A5.out).mono ?_); rintro e w12 ⟨rfl, hb⟩; refine ⟨_, rfl, ?_⟩; have n0_ := Aside0.mk (blk_below (g := gb195) (o := .cells #[.int .i64 ((rd_T37 l0 x7_1).f0), .int .i64 ((rd_T37 l0 x7_1).f1), .string ((rd_T37 l0 x7_1).f2)] 37 (0, 0)) (by (with_reducible repeat (first | refine blk_drewN ?_ _ | refine blk_drew ?_ | refine blk_alloc ?_ _)); refine blk_put (cs := #[.int .i64 ((rd_T37 l0 x7_1).f0), .int .i64 ((rd_T37 l0 x7_1).f1), .string (⟨#[]⟩ : ByteArray)]) ?_ 2 _ rfl; (with_reducible repeat (first | refine blk_drewN ?_ _ | refine blk_drew ?_ | refine blk_alloc ?_ _)); refine blk_put (cs := #[.int .i64 ((rd_T37 l0 x7_1).f0), .int .i64 0, .string (⟨#[]⟩ : ByteArray)]) ?_ 1 _ rfl; (with_reducible repeat (first | refine blk_drewN ?_ _ | refine blk_drew ?_ | refine blk_alloc ?_ _)); refine blk_put (cs := #[.int .i64 0, .int .i64 0, .string (⟨#[]⟩ : ByteArray)]) ?_ 0 _ rfl; (with_reducible repeat (first | refine blk_drewN ?_ _ | refine blk_drew ?_ | refine blk_alloc ?_ _)); exact BK195.out) hb); have n1_ := Aside0.mk (below_step (by repeat (first | (with_reducible first | exact HB.out | apply below_alloc | apply pw_below_drewN | apply below_drew1 | refine below_set ?_ GE195.out) | exact HB.out)) hb); clear BK195; clear HB; have BK195 := n0_; have HB := n1_; clear n0_ n1_; (try clear hb); (try clear hb2); (try clear hk); (try clear hi)))
              go_ret
              exact ⟨by first | rfl | (simp [errW_none, errW_some] <;> rfl) | (simp [*, errW_none, errW_some] <;> rfl), by repeat (first | (with_reducible first | exact HB.out | apply below_alloc | apply pw_below_drewN | apply below_drew1 | refine below_set ?_ GE195.out) | exact HB.out)⟩
          · rw [if_neg c4] at H
            exact absurd H (by simp)
        · rw [if_neg c3] at H
          exact absurd H (by simp)
      · rw [if_neg c2] at H
        have c2b0 : decide (x7_1 < (l0.length : Int)) = false := decide_eq_false c2
        clear c2
        obtain rfl := Option.some.inj H
        go_wp2
        go_ret
        exact ⟨by first | rfl | (simp [errW_none, errW_some] <;> rfl) | (simp [*, errW_none, errW_some] <;> rfl), by repeat (first | (with_reducible first | exact HB.out | apply below_alloc | apply pw_below_drewN | apply below_drew1) | exact HB.out)⟩

end Go.Proofs.YtblaibigjhlblaaDoor.Q
end

section
-- written by hprint.py (a program of these sessions) out of the translation; Lean checks it
namespace Go.Proofs.YtblaibigjhlblaaDoor.Q
open Go.RowKit Go.Proofs.YtblaibigjhlblaaDoorW.Hb Go.Proofs.YtblaibigjhlblaaDoorW.PrintWords Go.Proofs.YtblaibigjhlblaaDoorW.PrintLast Go.Proofs.YtblaibigjhlblaaDoorW.PrintMore
attribute [local go_sem] max2_int min2_int max_two min_two max_three min_three max_four min_four   -- for this text's walks alone
set_option linter.unusedVariables false
set_option linter.unusedSimpArgs false

/-! ### value_Print: function 10, by hand -/
def textsOf : List S37 → Option (List ByteArray)
  | [] => some []
  | v :: r => (value_text.f v.f0 v.f1 v.f2).bind fun t => (textsOf r).bind fun ts => some (t :: ts)
theorem textsOf_at : ∀ {l : List S37} {ts : List ByteArray}, textsOf l = some ts → ts.length = l.length ∧ ∀ (j : Nat) (v : S37), l[j]? = some v → ∃ t, ts[j]? = some t ∧ value_text.f v.f0 v.f1 v.f2 = some t
  | [], ts, h => by
    obtain rfl := Option.some.inj h
    exact ⟨rfl, fun j v hv => by simp at hv⟩
  | v :: r, ts, h => by
    obtain ⟨t, h1, h⟩ := Option.bind_eq_some_iff.1 h
    obtain ⟨ts', h2, h⟩ := Option.bind_eq_some_iff.1 h
    obtain rfl := Option.some.inj h
    obtain ⟨i1, i2⟩ := textsOf_at h2
    refine ⟨by rw [List.length_cons, List.length_cons, i1], fun j v' hv => ?_⟩
    cases j with
    | zero => obtain rfl : v = v' := by simpa using hv
              exact ⟨t, rfl, h1⟩
    | succ j => exact i2 j v' (by simpa using hv)
def joinB (ts : List ByteArray) : List UInt8 := Lib.join (ts.map (·.data.toList)) [32]
def value_Print.f (k : Nat) (l0 : List S37) : Option ByteArray := (value_all.f k l0).bind fun q => if q = true then (textsOf l0).bind fun ts => (if (l0.length + 1) * 16 ≤ 140737488355328 ∧ (joinB ts).length ≤ 140737488355328 then some ⟨(joinB ts).toArray⟩ else none) else some ⟨#[]⟩
theorem value_Print.mono : ∀ a0 k, LeO (value_Print.f k a0) (value_Print.f (k + 1) a0) := fun a0 k => LeO.bind (value_all.mono _ _) (fun _ => LeO.refl _)
set_option maxRecDepth 100000 in
set_option maxHeartbeats 4000000 in
theorem value_Print.calls (k : Nat) (A0 : Option Addr) (c0 : Nat) (l0 : List S37) (r : ByteArray) (w : World) (hr0 : Kd.C k37 w A0 l0.length l0) (hc0 : l0.length ≤ c0) (h : value_Print.f k l0 = some r) (hV : VarsOk w) :
    Calls Tryd.prog 10 #[.slice A0 l0.length c0] w fun e w' => e = .returned (.string r) ∧ Below w.heap.size w w' := by
  unfold value_Print.f at h
  obtain ⟨q, hq, h⟩ := Option.bind_eq_some_iff.1 h
  have HR := Aside0.mk hr0
  have HV := Aside0.mk hV
  have HQ := Aside0.mk (value_all.calls k A0 c0 l0 q w hr0 hc0 hq)
  have hm := hr0.2.1
  clear hr0 hV hq
  cases q
  · rw [if_neg (by decide)] at h
    obtain rfl := Option.some.inj h
    clear h
    go_enter Tryd.func10, Tryd.ntmps10
    go_wp2_with (go_at_call 30; (with_reducible refine HQ.out.mono ?_); rintro e w1 ⟨rfl, hb⟩; have HB1 := Aside0.mk hb; clear hb)
    go_ret
    exact ⟨rfl, HB1.out⟩
  · rw [if_pos rfl] at h
    obtain ⟨ts, hts, h⟩ := Option.bind_eq_some_iff.1 h
    by_cases hsz : (l0.length + 1) * 16 ≤ 140737488355328 ∧ (joinB ts).length ≤ 140737488355328
    · rw [if_pos hsz] at h
      obtain rfl := Option.some.inj h
      have HSZ := Aside0.mk hsz
      have HTS := Aside0.mk (textsOf_at hts)
      clear h hsz hts
      go_enter Tryd.func10, Tryd.ntmps10
      go_upto_region 3 with (go_at_call 30; (with_reducible refine HQ.out.mono ?_); rintro e w1 ⟨rfl, hb⟩; have HB1 := Aside0.mk hb; clear hb)
      clear HQ
      go_wp2
      go_loopw [3, 11] (fun v3 v11 wl => ∃ j : Nat, j ≤ l0.length ∧ v11 = .int .i64 j ∧ Aside0 (Kd.string.R 9 wl w.heap.size (fun _ => True) v3 (ts.take j)) ∧ Aside0 (Below w.heap.size w wl)) (fun _ v _ => l0.length - (intOf v).toNat)
      case atStart => exact ⟨0, Nat.zero_le _, rfl, ⟨Kd.R_nil _ _ _ _ _⟩, HB1⟩
      case round =>
        clear HB1
        obtain ⟨j, hj, rfl, HO, HB⟩ := hrel
        by_cases hlt : j < l0.length
        · obtain ⟨ad, e, x0, x1, x2⟩ := at_T37 (Kd.C_below HR.out HB.out) (j : Int) (by omega) (by omega)
          cases e
          obtain ⟨v, hv⟩ : ∃ v, l0[j]? = some v := ⟨_, List.getElem?_eq_getElem hlt⟩
          have hrd : rd_T37 l0 (j : Int) = v := by unfold rd_T37; rw [Int.toNat_natCast, List.getD_eq_getElem?_getD, hv]; rfl
          rw [hrd, Int.toNat_natCast] at x0 x1 x2
          obtain ⟨t, ht, htx⟩ := HTS.out.2 j v hv
          obtain ⟨f0, f1, f2⟩ := v
          dsimp only at x0 x1 x2 htx
          have HBa := Aside0.mk (HB.out.alloc HB.out.size (.cells #[.int .i64 f0, .int .i64 f1, .string f2] 37))
          have HTX := Aside0.mk (value_text.calls f0 f1 f2 t (wr.alloc (.cells #[.int .i64 f0, .int .i64 f1, .string f2] 37)) htx (HV.out.below HBa.out))
          have HOa := Aside0.mk (Kd.R_alloc HO.out (.cells #[.int .i64 f0, .int .i64 f1, .string f2] 37))
          have HTK := Aside0.mk (show ts.take (j + 1) = ts.take j ++ [t] by rw [List.take_add_one, ht]; rfl)
          have HTL := Aside0.mk (show ((ts.take j).length + 1) * 16 ≤ 140737488355328 by have := HSZ.out.1; rw [List.length_take]; have := HTS.out.1; omega)
          have hlti : (j : Int) < (l0.length : Int) := by omega
          clear hv hrd ht htx HO
          go_wp2_with (first | (go_at_call 31; (with_reducible refine HTX.out.mono ?_); rintro e w4 ⟨rfl, hb4⟩; have HO4 := Aside0.mk (Kd.R_below HOa.out hb4); have HB4 := Aside0.mk (HBa.out.trans (hb4.mono HBa.out.size)); clear hb4) | ((with_reducible refine gate_builtin (b := .append) (xs := #[.tmp 15, .tmp 18]) rfl ?_); at_builtin; refine Kd.R_append Kd.string (w0 := w) w.heap.size rfl (.tmp 15) (.tmp 18) 47 9 (.string ⟨#[]⟩) 16 rfl Tryd.underlying47 info9 rfl (by decide) (by omega) _ (ts.take j) t [.string t] (fun _ => True) (fun _ => False) rfl rfl rfl (fun _ hk => hk.elim) (fun _ _ => trivial) HO4.out HB4.out HB4.out.size HTL.out ?_; intro v5 w5 hR5 hB5 _ _; rw [← HTK.out] at hR5; have HR5 := Aside0.mk hR5; have HB5 := Aside0.mk hB5; clear hR5 hB5))
          go_roundw
          case rel => exact ⟨j + 1, by omega, by go_num, HR5, HB5⟩
          case measure => simp [intOf]; omega
        · have hlti : ¬ (j : Int) < (l0.length : Int) := by omega
          have hall : ts.take j = ts := List.take_of_length_le (by rw [HTS.out.1]; omega)
          rw [hall] at HO
          obtain ⟨A3, c3, rfl, hc3, hC3⟩ := Kd.R_reads HO.out
          have HJ : Aside0 (Calls Tryd.prog 32 #[.slice A3 ts.length c3, .string ⟨#[32]⟩] wr fun e w' => e = .returned (.string ⟨(joinB ts).toArray⟩) ∧ Below wr.heap.size wr w') := ⟨by
            by_cases h0 : ts = []
            · subst h0
              refine (Tryd.strings_Join_none A3 c3 ⟨#[32]⟩ wr).mono ?_
              rintro e w' ⟨rfl, rfl⟩
              exact ⟨rfl, Below.refl _ _⟩
            · obtain ⟨g, cap, hv, _, hlt', _⟩ := Kd.R_form HO.out (by rcases ts with _ | _; exact absurd rfl h0; simp)
              injection hv with h1 h2 h3
              subst h1 h3
              refine Tryd.strings_Join g 0 c3 ts ⟨#[32]⟩ wr (fun i x hx => ?_) hlt' (by have := HSZ.out.1; rw [HTS.out.1]; omega) hc3 HSZ.out.2
              have hi : i < ts.length := (List.getElem?_eq_some_iff.1 hx).1
              have hcel := (Kd.R_celln (⟨#[]⟩ : ByteArray) HO.out (i : Int) (by omega) (by omega)).1
              rw [Int.toNat_natCast] at hcel
              rw [Nat.zero_add, hcel]
              unfold rdOf
              rw [Int.toNat_natCast, List.getD_eq_getElem?_getD, hx]
              rfl⟩
          clear hC3 hall HO
          go_wp2_with (go_at_call 32; (with_reducible refine HJ.out.mono ?_); rintro e w4 ⟨rfl, hb4⟩; have HB4 := Aside0.mk hb4; clear hb4)
          go_ret
          exact ⟨rfl, HB.out.trans (HB4.out.mono HB.out.size)⟩
    · rw [if_neg hsz] at h
      cases h


end Go.Proofs.YtblaibigjhlblaaDoor.Q
end

section
-- written by hprint.py (a program of these sessions) out of the translation; Lean checks it
namespace Go.Proofs.YtblaibigjhlblaaDoor.Q
open Go.RowKit Go.Proofs.YtblaibigjhlblaaDoorW.Hb Go.Proofs.YtblaibigjhlblaaDoorW.PrintWords Go.Proofs.YtblaibigjhlblaaDoorW.PrintLast Go.Proofs.YtblaibigjhlblaaDoorW.PrintMore
attribute [local go_sem] max2_int min2_int max_two min_two max_three min_three max_four min_four   -- for this text's walks alone
set_option linter.unusedVariables false
set_option linter.unusedSimpArgs false

/-! ### weighhouselaw02_num: function 13 -/
def weighhouselaw02_num.f (a0 : Int) : Option (Int) := some a0
set_option maxHeartbeats 8000000 in
set_option maxRecDepth 100000 in
theorem weighhouselaw02_num.calls (a0 : Int) (r : Int) (w : World) (h : weighhouselaw02_num.f a0 = some r) :
    Calls Tryd.prog 13 #[.int .i64 a0] w fun e w' => e = .returned (.int .i64 r) ∧ Drawn0 w w' := by
  have H : (some a0) = some r := h
  clear h
  obtain rfl := Option.some.inj H
  go_enter Tryd.func13, Tryd.ntmps13
  go_wp2
  go_ret
  exact ⟨by first | rfl | (simp; done) | (simp [*]; done), by repeat (first | exact Drawn0.refl _ | apply Drawn0.step)⟩

end Go.Proofs.YtblaibigjhlblaaDoor.Q
end

section
-- written by hprint.py (a program of these sessions) out of the translation; Lean checks it
namespace Go.Proofs.YtblaibigjhlblaaDoor.Q
open Go.RowKit Go.Proofs.YtblaibigjhlblaaDoorW.Hb Go.Proofs.YtblaibigjhlblaaDoorW.PrintWords Go.Proofs.YtblaibigjhlblaaDoorW.PrintLast Go.Proofs.YtblaibigjhlblaaDoorW.PrintMore
attribute [local go_sem] max2_int min2_int max_two min_two max_three min_three max_four min_four   -- for this text's walks alone
set_option linter.unusedVariables false
set_option linter.unusedSimpArgs false

/-! ### weighhouselaw02_knows: function 14 -/
def weighhouselaw02_knows.f (k : Nat)  : Option (Bool) := (value_Number.f (-5)).bind fun bt222 => ((value_Text.f (⟨#[97]⟩ : ByteArray)).bind fun bt225 => ((value_Truth.f true).bind fun bt228 => ((value_Print.f k (([(⟨bt222.1, bt222.2.1, bt222.2.2⟩ : S37), (⟨bt225.1, bt225.2.1, bt225.2.2⟩ : S37), (⟨bt228.1, bt228.2.1, bt228.2.2⟩ : S37)] : List (S37)))).bind fun t234 => ((value_Parse.f t234).bind fun bt235 => (if t234.toList = ([45, 53, 32, 120, 39, 54, 49, 39, 32, 116, 114, 117, 101] : List UInt8) then ((weighhouselaw02_num.f bt235.2).bind fun t239 => (if t239 = 0 then (if (bt235.1.length : Int) = 3 then (if 0 < (bt235.1.length : Int) then ((value_Right.f ((rd_T37 bt235.1 0).f0) ((rd_T37 bt235.1 0).f1) ((rd_T37 bt235.1 0).f2)).bind fun t241 => (some t241)) else (none)) else (some false)) else (some false))) else (some false))))))
theorem weighhouselaw02_knows.mono : ∀ k, LeO (weighhouselaw02_knows.f k ) (weighhouselaw02_knows.f (k + 1) ) := by
  intro  k
  unfold weighhouselaw02_knows.f
  repeat' first
      | (with_reducible exact value_Print.mono _ _)
      | (with_reducible exact LeO.refl _)
      | (with_reducible exact LeO.none _)
      | (with_reducible refine LeO.ite ?_ ?_)
      | (with_reducible refine LeO.bind ?_ (fun _ => ?_))
      | exact value_Print.mono _ _
      | exact LeO.none _
      | refine LeO.ite ?_ ?_
      | refine LeO.bind ?_ (fun _ => ?_)
set_option maxHeartbeats 8000000 in
set_option maxRecDepth 100000 in
theorem weighhouselaw02_knows.calls (k : Nat)  (r : Bool) (w : World) (h : weighhouselaw02_knows.f k  = some r) (hV : VarsOk w) :
    Calls Tryd.prog 14 #[] w fun e w' => e = .returned (.bool r) ∧ Below w.heap.size w w' := by
  have hu37 := Tryd.underlying37
  have HB := Aside0.mk (Below.refl w.heap.size w)
  have HV := Aside0.mk hV
  clear hV
  have H : ((value_Number.f (-5)).bind fun bt222 => ((value_Text.f (⟨#[97]⟩ : ByteArray)).bind fun bt225 => ((value_Truth.f true).bind fun bt228 => ((value_Print.f k (([(⟨bt222.1, bt222.2.1, bt222.2.2⟩ : S37), (⟨bt225.1, bt225.2.1, bt225.2.2⟩ : S37), (⟨bt228.1, bt228.2.1, bt228.2.2⟩ : S37)] : List (S37)))).bind fun t234 => ((value_Parse.f t234).bind fun bt235 => (if t234.toList = ([45, 53, 32, 120, 39, 54, 49, 39, 32, 116, 114, 117, 101] : List UInt8) then ((weighhouselaw02_num.f bt235.2).bind fun t239 => (if t239 = 0 then (if (bt235.1.length : Int) = 3 then (if 0 < (bt235.1.length : Int) then ((value_Right.f ((rd_T37 bt235.1 0).f0) ((rd_T37 bt235.1 0).f1) ((rd_T37 bt235.1 0).f2)).bind fun t241 => (some t241)) else (none)) else (some false)) else (some false))) else (some false))))))) = some r := h
  clear h
  replace H := Option.bind_eq_some_iff.mp H
  obtain ⟨⟨t222, t223, t224⟩, A10, H⟩ := H
  replace H : ((value_Text.f (⟨#[97]⟩ : ByteArray)).bind fun bt225 => ((value_Truth.f true).bind fun bt228 => ((value_Print.f k (([(⟨t222, t223, t224⟩ : S37), (⟨bt225.1, bt225.2.1, bt225.2.2⟩ : S37), (⟨bt228.1, bt228.2.1, bt228.2.2⟩ : S37)] : List (S37)))).bind fun t234 => ((value_Parse.f t234).bind fun bt235 => (if t234.toList = ([45, 53, 32, 120, 39, 54, 49, 39, 32, 116, 114, 117, 101] : List UInt8) then ((weighhouselaw02_num.f bt235.2).bind fun t239 => (if t239 = 0 then (if (bt235.1.length : Int) = 3 then (if 0 < (bt235.1.length : Int) then ((value_Right.f ((rd_T37 bt235.1 0).f0) ((rd_T37 bt235.1 0).f1) ((rd_T37 bt235.1 0).f2)).bind fun t241 => (some t241)) else (none)) else (some false)) else (some false))) else (some false)))))) = some r := H
  have A1 := Aside0.mk A10
  clear A10
  replace H := Option.bind_eq_some_iff.mp H
  obtain ⟨⟨t225, t226, t227⟩, A20, H⟩ := H
  replace H : ((value_Truth.f true).bind fun bt228 => ((value_Print.f k (([(⟨t222, t223, t224⟩ : S37), (⟨t225, t226, t227⟩ : S37), (⟨bt228.1, bt228.2.1, bt228.2.2⟩ : S37)] : List (S37)))).bind fun t234 => ((value_Parse.f t234).bind fun bt235 => (if t234.toList = ([45, 53, 32, 120, 39, 54, 49, 39, 32, 116, 114, 117, 101] : List UInt8) then ((weighhouselaw02_num.f bt235.2).bind fun t239 => (if t239 = 0 then (if (bt235.1.length : Int) = 3 then (if 0 < (bt235.1.length : Int) then ((value_Right.f ((rd_T37 bt235.1 0).f0) ((rd_T37 bt235.1 0).f1) ((rd_T37 bt235.1 0).f2)).bind fun t241 => (some t241)) else (none)) else (some false)) else (some false))) else (some false))))) = some r := H
  have A2 := Aside0.mk A20
  clear A20
  replace H := Option.bind_eq_some_iff.mp H
  obtain ⟨⟨t228, t229, t230⟩, A30, H⟩ := H
  replace H : ((value_Print.f k (([(⟨t222, t223, t224⟩ : S37), (⟨t225, t226, t227⟩ : S37), (⟨t228, t229, t230⟩ : S37)] : List (S37)))).bind fun t234 => ((value_Parse.f t234).bind fun bt235 => (if t234.toList = ([45, 53, 32, 120, 39, 54, 49, 39, 32, 116, 114, 117, 101] : List UInt8) then ((weighhouselaw02_num.f bt235.2).bind fun t239 => (if t239 = 0 then (if (bt235.1.length : Int) = 3 then (if 0 < (bt235.1.length : Int) then ((value_Right.f ((rd_T37 bt235.1 0).f0) ((rd_T37 bt235.1 0).f1) ((rd_T37 bt235.1 0).f2)).bind fun t241 => (some t241)) else (none)) else (some false)) else (some false))) else (some false)))) = some r := H
  have A3 := Aside0.mk A30
  clear A30
  obtain ⟨y231, hy231⟩ : ∃ y_ : List (S37), y_ = (([(⟨t222, t223, t224⟩ : S37), (⟨t225, t226, t227⟩ : S37), (⟨t228, t229, t230⟩ : S37)] : List (S37))) := ⟨_, rfl⟩
  replace H : ((value_Print.f k y231).bind fun t234 => ((value_Parse.f t234).bind fun bt235 => (if t234.toList = ([45, 53, 32, 120, 39, 54, 49, 39, 32, 116, 114, 117, 101] : List UInt8) then ((weighhouselaw02_num.f bt235.2).bind fun t239 => (if t239 = 0 then (if (bt235.1.length : Int) = 3 then (if 0 < (bt235.1.length : Int) then ((value_Right.f ((rd_T37 bt235.1 0).f0) ((rd_T37 bt235.1 0).f1) ((rd_T37 bt235.1 0).f2)).bind fun t241 => (some t241)) else (none)) else (some false)) else (some false))) else (some false)))) = some r := by first | (rw [hy231]; with_reducible exact H) | (have H2_ := (Option.bind_some _ _).symm.trans H; rw [hy231]; with_reducible exact H2_) | (have H2_ := (Option.bind_some _ _).symm.trans H; with_reducible exact H2_) | with_reducible exact H | (rw [hy231]; exact H) | exact H
  have Ny231 := Aside0.mk hy231
  clear hy231
  replace H := Option.bind_eq_some_iff.mp H
  obtain ⟨t234, A40, H⟩ := H
  replace H : ((value_Parse.f t234).bind fun bt235 => (if t234.toList = ([45, 53, 32, 120, 39, 54, 49, 39, 32, 116, 114, 117, 101] : List UInt8) then ((weighhouselaw02_num.f bt235.2).bind fun t239 => (if t239 = 0 then (if (bt235.1.length : Int) = 3 then (if 0 < (bt235.1.length : Int) then ((value_Right.f ((rd_T37 bt235.1 0).f0) ((rd_T37 bt235.1 0).f1) ((rd_T37 bt235.1 0).f2)).bind fun t241 => (some t241)) else (none)) else (some false)) else (some false))) else (some false))) = some r := H
  have A4 := Aside0.mk A40
  clear A40
  replace H := Option.bind_eq_some_iff.mp H
  obtain ⟨⟨t235, t236⟩, A50, H⟩ := H
  replace H : (if t234.toList = ([45, 53, 32, 120, 39, 54, 49, 39, 32, 116, 114, 117, 101] : List UInt8) then ((weighhouselaw02_num.f t236).bind fun t239 => (if t239 = 0 then (if (t235.length : Int) = 3 then (if 0 < (t235.length : Int) then ((value_Right.f ((rd_T37 t235 0).f0) ((rd_T37 t235 0).f1) ((rd_T37 t235 0).f2)).bind fun t241 => (some t241)) else (none)) else (some false)) else (some false))) else (some false)) = some r := H
  have A5 := Aside0.mk A50
  clear A50
  by_cases c6 : t234.toList = ([45, 53, 32, 120, 39, 54, 49, 39, 32, 116, 114, 117, 101] : List UInt8)
  · rw [if_pos c6] at H
    have c6b0 : (t234.toList == ([45, 53, 32, 120, 39, 54, 49, 39, 32, 116, 114, 117, 101] : List UInt8)) = true := beq_iff_eq.mpr c6
    have c6b1 : (t234.toList != ([45, 53, 32, 120, 39, 54, 49, 39, 32, 116, 114, 117, 101] : List UInt8)) = false := bne_eq_false_iff_eq.mpr c6
    clear c6
    replace H := Option.bind_eq_some_iff.mp H
    obtain ⟨t239, A70, H⟩ := H
    replace H : (if t239 = 0 then (if (t235.length : Int) = 3 then (if 0 < (t235.length : Int) then ((value_Right.f ((rd_T37 t235 0).f0) ((rd_T37 t235 0).f1) ((rd_T37 t235 0).f2)).bind fun t241 => (some t241)) else (none)) else (some false)) else (some false)) = some r := H
    have A7 := Aside0.mk A70
    clear A70
    by_cases c8 : t239 = 0
    · rw [if_pos c8] at H
      have c8b0 : (t239 == 0) = true := beq_iff_eq.mpr c8
      have c8b1 : (t239 != 0) = false := bne_eq_false_iff_eq.mpr c8
      clear c8
      by_cases c9 : (t235.length : Int) = 3
      · rw [if_pos c9] at H
        have c9b0 : ((t235.length : Int) == 3) = true := beq_iff_eq.mpr c9
        have c9b1 : ((t235.length : Int) != 3) = false := bne_eq_false_iff_eq.mpr c9
        clear c9
        by_cases c10 : 0 < (t235.length : Int)
        · rw [if_pos c10] at H
          have c10b0 : decide (0 < (t235.length : Int)) = true := decide_eq_true c10
          have c10b1 : decide (0 < t235.length) = true := decide_eq_true (by omega)
          clear c10
          replace H := Option.bind_eq_some_iff.mp H
          obtain ⟨t241, A110, H⟩ := H
          replace H : (some t241) = some r := H
          have A11 := Aside0.mk A110
          clear A110
          obtain rfl := Option.some.inj H
          go_enter Tryd.func14, Tryd.ntmps14
          go_wp2_with (first | ((with_reducible refine gate_callee (f := 18) rfl ?_); refine goesL_ (some 4) rfl rfl Tryd.func18 (by kernel_rfl) rfl #[.int .i64 (-5)] rfl (by (try simp only [List.map_toArray, List.map_cons, List.map_nil]); first | done | rfl | (simp only [List.length_drop, List.length_take]; rfl)) ?_; (with_reducible refine (value_Number.calls (-5) t222 t223 t224 _ A1.out).mono ?_); rintro e w12 ⟨rfl, hb⟩; refine ⟨_, rfl, ?_⟩; have n0_ := Aside0.mk (below_step (by repeat (first | (with_reducible first | exact HB.out | apply below_alloc | apply pw_below_drewN | apply below_drew1) | exact HB.out)) hb); clear HB; have HB := n0_; clear n0_; (try clear hb); (try clear hb2); (try clear hk); (try clear hi)) | ((with_reducible refine gate_callee (f := 19) rfl ?_); refine goesL_ (some 5) rfl rfl Tryd.func19 (by kernel_rfl) rfl #[.string (⟨#[97]⟩ : ByteArray)] rfl (by (try simp only [List.map_toArray, List.map_cons, List.map_nil]); first | done | rfl | (simp only [List.length_drop, List.length_take]; rfl)) ?_; (with_reducible refine (value_Text.calls (⟨#[97]⟩ : ByteArray) t225 t226 t227 _ A2.out).mono ?_); rintro e w13 ⟨rfl, hb⟩; refine ⟨_, rfl, ?_⟩; have n0_ := Aside0.mk (below_step (by repeat (first | (with_reducible first | exact HB.out | apply below_alloc | apply pw_below_drewN | apply below_drew1) | exact HB.out)) hb); clear HB; have HB := n0_; clear n0_; (try clear hb); (try clear hb2); (try clear hk); (try clear hi)) | ((with_reducible refine gate_callee (f := 20) rfl ?_); refine goesL_ (some 6) rfl rfl Tryd.func20 (by kernel_rfl) rfl #[.bool true] rfl (by (try simp only [List.map_toArray, List.map_cons, List.map_nil]); first | done | rfl | (simp only [List.length_drop, List.length_take]; rfl)) ?_; (with_reducible refine (value_Truth.calls true t228 t229 t230 _ A3.out).mono ?_); rintro e w14 ⟨rfl, hb⟩; refine ⟨_, rfl, ?_⟩; have n0_ := Aside0.mk (below_step (by repeat (first | (with_reducible first | exact HB.out | apply below_alloc | apply pw_below_drewN | apply below_drew1) | exact HB.out)) hb); clear HB; have HB := n0_; clear n0_; (try clear hb); (try clear hb2); (try clear hk); (try clear hi)) | ((with_reducible refine gate_dst (N := 7) rfl ?_); (try (refine gate_guard (by rfl) ?_; dsimp only)); refine Kd.R_lit k37 _ 37 ?hg (N := 7) ?hd (xs := ([(⟨t222, t223, t224⟩ : S37), (⟨t225, t226, t227⟩ : S37), (⟨t228, t229, t230⟩ : S37)] : List (S37))) (inner := [.int .i64 t222, .int .i64 t223, .string t224, .int .i64 t225, .int .i64 t226, .string t227, .int .i64 t228, .int .i64 t229, .string t230]) (ok := fun _ => True) (okp := fun _ => True) ?hr ?hp (fun _ hk => hk) trivial (Below.refl _ _) (Nat.le_refl _) (by simp) ?_; (case hd => rfl); (case hg => rfl); (case hr => first | (go_simp; done) | (go_simp; rfl)); (case hp => exact (Reps.c3 (show Kd.M k37 _ _ _ (⟨t222, t223, t224⟩ : S37) [.int .i64 t222, .int .i64 t223, .string t224] from (k37_mkM _ _ _ (⟨t222, t223, t224⟩ : S37) )) (Reps.c3 (show Kd.M k37 _ _ _ (⟨t225, t226, t227⟩ : S37) [.int .i64 t225, .int .i64 t226, .string t227] from (k37_mkM _ _ _ (⟨t225, t226, t227⟩ : S37) )) (Reps.c3 (show Kd.M k37 _ _ _ (⟨t228, t229, t230⟩ : S37) [.int .i64 t228, .int .i64 t229, .string t230] from (k37_mkM _ _ _ (⟨t228, t229, t230⟩ : S37) )) (Reps.none _ _))))); intro v232 w15 ho16 hb hg_ hnew_; clear hg_ hnew_; (first | rw [← Ny231.out] at ho16 | (simp only [Int.reduceToNat] at ho16; rw [← Ny231.out] at ho16)); have n0_ := Aside0.mk (Kd.R_lower ho16 (below_size (by repeat (first | (with_reducible first | exact HB.out | apply below_alloc | apply pw_below_drewN | apply below_drew1) | exact HB.out)))); have n1_ := Aside0.mk (below_step (by repeat (first | (with_reducible first | exact HB.out | apply below_alloc | apply pw_below_drewN | apply below_drew1) | exact HB.out)) hb); clear HB; have HO233 := n0_; have HB := n1_; clear n0_ n1_; clear hb ho16; obtain ⟨Ao17, co17, eo17⟩ := Kd.R_slice HO233.out; subst eo17) | ((with_reducible refine gate_callee (f := 10) rfl ?_); refine goesL_ (some 8) rfl rfl Tryd.func10 (by kernel_rfl) rfl #[.slice Ao17 y231.length co17] rfl (by (try simp only [List.map_toArray, List.map_cons, List.map_nil]); first | done | rfl | (simp only [List.length_drop, List.length_take]; rfl)) ?_; (with_reducible refine (value_Print.calls k _ _ y231 t234 _ ?side1 ?side2 A4.out ?sideV).mono ?_); (case sideV => exact HV.out.below (by repeat (first | (with_reducible first | exact HB.out | apply below_alloc | apply pw_below_drewN | apply below_drew1) | exact HB.out))); (case side1 => repeat (first | exact (Kd.R_reads' HO233.out).2.2 | (with_reducible refine Kd.C_alloc ?_ _) | (with_reducible refine Kd.C_drewN ?_ _) | (with_reducible refine Kd.C_drew ?_))); (case side2 => exact (Kd.R_reads' HO233.out).2.1); rintro e w18 ⟨rfl, hb⟩; refine ⟨_, rfl, ?_⟩; have n0_ := Aside0.mk (Kd.R_below (by (with_reducible repeat (first | apply Kd.R_alloc | apply Kd.R_drewN | apply Kd.R_drew)); exact HO233.out) hb); have n1_ := Aside0.mk (below_step (by repeat (first | (with_reducible first | exact HB.out | apply below_alloc | apply pw_below_drewN | apply below_drew1) | exact HB.out)) hb); clear HO233; clear HB; have HO233 := n0_; have HB := n1_; clear n0_ n1_; (try clear hb); (try clear hb2); (try clear hk); (try clear hi)) | ((with_reducible refine gate_callee (f := 8) rfl ?_); refine goesL_ (some 11) rfl rfl Tryd.func8 (by kernel_rfl) rfl #[.string t234] rfl (by (try simp only [List.map_toArray, List.map_cons, List.map_nil]); first | done | rfl | (simp only [List.length_drop, List.length_take]; rfl)) ?_; (with_reducible refine (value_Parse.calls t234 t235 t236 _ A5.out ?sideV).mono ?_); (case sideV => exact HV.out.below (by repeat (first | (with_reducible first | exact HB.out | apply below_alloc | apply pw_below_drewN | apply below_drew1) | exact HB.out))); rintro e w19 ⟨v237, rfl, ho0, hb⟩; refine ⟨_, rfl, ?_⟩; have n0_ := Aside0.mk (Kd.R_elder' (by (with_reducible repeat (first | apply Kd.R_alloc | apply Kd.R_drewN | apply Kd.R_drew)); exact HO233.out) (Kd.R_base ho0) hb); have n1_ := Aside0.mk (Kd.R_lower (Kd.R_new' ho0 (Kd.R_lt (by (with_reducible repeat (first | apply Kd.R_alloc | apply Kd.R_drewN | apply Kd.R_drew)); exact HO233.out))) (below_size (by repeat (first | (with_reducible first | exact HB.out | apply below_alloc | apply pw_below_drewN | apply below_drew1) | exact HB.out)))); have n2_ := Aside0.mk (below_step (by repeat (first | (with_reducible first | exact HB.out | apply below_alloc | apply pw_below_drewN | apply below_drew1) | exact HB.out)) hb); clear HO233; clear HB; have HO233 := n0_; have HO238 := n1_; have HB := n2_; clear n0_ n1_ n2_; (try clear hb); (try clear hb2); (try clear hk); (try clear hi); (try clear ho0)) | (go_at_call 13; (with_reducible refine (weighhouselaw02_num.calls t236 t239 _ A7.out).mono ?_); rintro e w' ⟨rfl, ⟨nd, rfl⟩⟩; obtain ⟨Ao20, co20, eo20⟩ := Kd.R_slice HO238.out; subst eo20; have p240 : 0 ≤ (0 : Int) := (by omega); have q240 : 0 < (t235.length : Int) := of_decide_eq_true (by first | (with_reducible assumption) | assumption); obtain ⟨ad240, e240, hx240_0, hx240_1, hx240_2⟩ := at_T37 (Kd.R_reads' HO238.out).2.2 0 p240 q240; cases e240; have qi240 : (0 < t235.length) = True := eq_true (by omega); (try rw [show ((0 : Int)).toNat = 0 from rfl] at hx240_0); (try rw [show 0 * 3 = 0 from rfl] at hx240_0); (try rw [Addr.add_zero'] at hx240_0); (try rw [show ((0 : Int)).toNat = 0 from rfl] at hx240_1); (try rw [show 0 * 3 = 0 from rfl] at hx240_1); (try rw [Addr.add_zero'] at hx240_1); (try rw [show ((0 : Int)).toNat = 0 from rfl] at hx240_2); (try rw [show 0 * 3 = 0 from rfl] at hx240_2); (try rw [Addr.add_zero'] at hx240_2); replace p240 := eq_true p240; replace q240 := eq_true q240) | (go_at_call 15; (with_reducible refine (value_Right.calls ((rd_T37 t235 0).f0) ((rd_T37 t235 0).f1) ((rd_T37 t235 0).f2) t241 _ A11.out).mono ?_); rintro e w21 ⟨rfl, hb⟩; have n0_ := Aside0.mk (Kd.R_below (by (with_reducible repeat (first | apply Kd.R_alloc | apply Kd.R_drewN | apply Kd.R_drew)); exact HO233.out) hb); have n1_ := Aside0.mk (Kd.R_below (by (with_reducible repeat (first | apply Kd.R_alloc | apply Kd.R_drewN | apply Kd.R_drew)); exact HO238.out) hb); have n2_ := Aside0.mk (below_step (by repeat (first | (with_reducible first | exact HB.out | apply below_alloc | apply pw_below_drewN | apply below_drew1) | exact HB.out)) hb); clear HO233; clear HO238; clear HB; have HO233 := n0_; have HO238 := n1_; have HB := n2_; clear n0_ n1_ n2_; (try clear hb); (try clear hb2); (try clear hk); (try clear hi)))
          go_ret
          exact ⟨by first | rfl | (simp [errW_none, errW_some] <;> rfl) | (simp [*, errW_none, errW_some] <;> rfl), by repeat (first | (with_reducible first | exact HB.out | apply below_alloc | apply pw_below_drewN | apply below_drew1) | exact HB.out)⟩
        · rw [if_neg c10] at H
          exact absurd H (by simp)
      · rw [if_neg c9] at H
        have c9b0 : ((t235.length : Int) == 3) = false := beq_eq_false_iff_ne.mpr c9
        have c9b1 : ((t235.length : Int) != 3) = true := bne_iff_ne.mpr c9
        obtain rfl := Option.some.inj H
        go_enter Tryd.func14, Tryd.ntmps14
        go_wp2_with (first | ((with_reducible refine gate_callee (f := 18) rfl ?_); refine goesL_ (some 4) rfl rfl Tryd.func18 (by kernel_rfl) rfl #[.int .i64 (-5)] rfl (by (try simp only [List.map_toArray, List.map_cons, List.map_nil]); first | done | rfl | (simp only [List.length_drop, List.length_take]; rfl)) ?_; (with_reducible refine (value_Number.calls (-5) t222 t223 t224 _ A1.out).mono ?_); rintro e w22 ⟨rfl, hb⟩; refine ⟨_, rfl, ?_⟩; have n0_ := Aside0.mk (below_step (by repeat (first | (with_reducible first | exact HB.out | apply below_alloc | apply pw_below_drewN | apply below_drew1) | exact HB.out)) hb); clear HB; have HB := n0_; clear n0_; (try clear hb); (try clear hb2); (try clear hk); (try clear hi)) | ((with_reducible refine gate_callee (f := 19) rfl ?_); refine goesL_ (some 5) rfl rfl Tryd.func19 (by kernel_rfl) rfl #[.string (⟨#[97]⟩ : ByteArray)] rfl (by (try simp only [List.map_toArray, List.map_cons, List.map_nil]); first | done | rfl | (simp only [List.length_drop, List.length_take]; rfl)) ?_; (with_reducible refine (value_Text.calls (⟨#[97]⟩ : ByteArray) t225 t226 t227 _ A2.out).mono ?_); rintro e w23 ⟨rfl, hb⟩; refine ⟨_, rfl, ?_⟩; have n0_ := Aside0.mk (below_step (by repeat (first | (with_reducible first | exact HB.out | apply below_alloc | apply pw_below_drewN | apply below_drew1) | exact HB.out)) hb); clear HB; have HB := n0_; clear n0_; (try clear hb); (try clear hb2); (try clear hk); (try clear hi)) | ((with_reducible refine gate_callee (f := 20) rfl ?_); refine goesL_ (some 6) rfl rfl Tryd.func20 (by kernel_rfl) rfl #[.bool true] rfl (by (try simp only [List.map_toArray, List.map_cons, List.map_nil]); first | done | rfl | (simp only [List.length_drop, List.length_take]; rfl)) ?_; (with_reducible refine (value_Truth.calls true t228 t229 t230 _ A3.out).mono ?_); rintro e w24 ⟨rfl, hb⟩; refine ⟨_, rfl, ?_⟩; have n0_ := Aside0.mk (below_step (by repeat (first | (with_reducible first | exact HB.out | apply below_alloc | apply pw_below_drewN | apply below_drew1) | exact HB.out)) hb); clear HB; have HB := n0_; clear n0_; (try clear hb); (try clear hb2); (try clear hk); (try clear hi)) | ((with_reducible refine gate_dst (N := 7) rfl ?_); (try (refine gate_guard (by rfl) ?_; dsimp only)); refine Kd.R_lit k37 _ 37 ?hg (N := 7) ?hd (xs := ([(⟨t222, t223, t224⟩ : S37), (⟨t225, t226, t227⟩ : S37), (⟨t228, t229, t230⟩ : S37)] : List (S37))) (inner := [.int .i64 t222, .int .i64 t223, .string t224, .int .i64 t225, .int .i64 t226, .string t227, .int .i64 t228, .int .i64 t229, .string t230]) (ok := fun _ => True) (okp := fun _ => True) ?hr ?hp (fun _ hk => hk) trivial (Below.refl _ _) (Nat.le_refl _) (by simp) ?_; (case hd => rfl); (case hg => rfl); (case hr => first | (go_simp; done) | (go_simp; rfl)); (case hp => exact (Reps.c3 (show Kd.M k37 _ _ _ (⟨t222, t223, t224⟩ : S37) [.int .i64 t222, .int .i64 t223, .string t224] from (k37_mkM _ _ _ (⟨t222, t223, t224⟩ : S37) )) (Reps.c3 (show Kd.M k37 _ _ _ (⟨t225, t226, t227⟩ : S37) [.int .i64 t225, .int .i64 t226, .string t227] from (k37_mkM _ _ _ (⟨t225, t226, t227⟩ : S37) )) (Reps.c3 (show Kd.M k37 _ _ _ (⟨t228, t229, t230⟩ : S37) [.int .i64 t228, .int .i64 t229, .string t230] from (k37_mkM _ _ _ (⟨t228, t229, t230⟩ : S37) )) (Reps.none _ _))))); intro v232 w25 ho26 hb hg_ hnew_; clear hg_ hnew_; (first | rw [← Ny231.out] at ho26 | (simp only [Int.reduceToNat] at ho26; rw [← Ny231.out] at ho26)); have n0_ := Aside0.mk (Kd.R_lower ho26 (below_size (by repeat (first | (with_reducible first | exact HB.out | apply below_alloc | apply pw_below_drewN | apply below_drew1) | exact HB.out)))); have n1_ := Aside0.mk (below_step (by repeat (first | (with_reducible first | exact HB.out | apply below_alloc | apply pw_below_drewN | apply below_drew1) | exact HB.out)) hb); clear HB; have HO233 := n0_; have HB := n1_; clear n0_ n1_; clear hb ho26; obtain ⟨Ao27, co27, eo27⟩ := Kd.R_slice HO233.out; subst eo27) | ((with_reducible refine gate_callee (f := 10) rfl ?_); refine goesL_ (some 8) rfl rfl Tryd.func10 (by kernel_rfl) rfl #[.slice Ao27 y231.length co27] rfl (by (try simp only [List.map_toArray, List.map_cons, List.map_nil]); first | done | rfl | (simp only [List.length_drop, List.length_take]; rfl)) ?_; (with_reducible refine (value_Print.calls k _ _ y231 t234 _ ?side1 ?side2 A4.out ?sideV).mono ?_); (case sideV => exact HV.out.below (by repeat (first | (with_reducible first | exact HB.out | apply below_alloc | apply pw_below_drewN | apply below_drew1) | exact HB.out))); (case side1 => repeat (first | exact (Kd.R_reads' HO233.out).2.2 | (with_reducible refine Kd.C_alloc ?_ _) | (with_reducible refine Kd.C_drewN ?_ _) | (with_reducible refine Kd.C_drew ?_))); (case side2 => exact (Kd.R_reads' HO233.out).2.1); rintro e w28 ⟨rfl, hb⟩; refine ⟨_, rfl, ?_⟩; have n0_ := Aside0.mk (Kd.R_below (by (with_reducible repeat (first | apply Kd.R_alloc | apply Kd.R_drewN | apply Kd.R_drew)); exact HO233.out) hb); have n1_ := Aside0.mk (below_step (by repeat (first | (with_reducible first | exact HB.out | apply below_alloc | apply pw_below_drewN | apply below_drew1) | exact HB.out)) hb); clear HO233; clear HB; have HO233 := n0_; have HB := n1_; clear n0_ n1_; (try clear hb); (try clear hb2); (try clear hk); (try clear hi)) | ((with_reducible refine gate_callee (f := 8) rfl ?_); refine goesL_ (some 11) rfl rfl Tryd.func8 (by kernel_rfl) rfl #[.string t234] rfl (by (try simp only [List.map_toArray, List.map_cons, List.map_nil]); first | done | rfl | (simp only [List.length_drop, List.length_take]; rfl)) ?_; (with_reducible refine (value_Parse.calls t234 t235 t236 _ A5.out ?sideV).mono ?_); (case sideV => exact HV.out.below (by repeat (first | (with_reducible first | exact HB.out | apply below_alloc | apply pw_below_drewN | apply below_drew1) | exact HB.out))); rintro e w29 ⟨v237, rfl, ho0, hb⟩; refine ⟨_, rfl, ?_⟩; have n0_ := Aside0.mk (Kd.R_elder' (by (with_reducible repeat (first | apply Kd.R_alloc | apply Kd.R_drewN | apply Kd.R_drew)); exact HO233.out) (Kd.R_base ho0) hb); have n1_ := Aside0.mk (Kd.R_lower (Kd.R_new' ho0 (Kd.R_lt (by (with_reducible repeat (first | apply Kd.R_alloc | apply Kd.R_drewN | apply Kd.R_drew)); exact HO233.out))) (below_size (by repeat (first | (with_reducible first | exact HB.out | apply below_alloc | apply pw_below_drewN | apply below_drew1) | exact HB.out)))); have n2_ := Aside0.mk (below_step (by repeat (first | (with_reducible first | exact HB.out | apply below_alloc | apply pw_below_drewN | apply below_drew1) | exact HB.out)) hb); clear HO233; clear HB; have HO233 := n0_; have HO238 := n1_; have HB := n2_; clear n0_ n1_ n2_; (try clear hb); (try clear hb2); (try clear hk); (try clear hi); (try clear ho0)) | (go_at_call 13; (with_reducible refine (weighhouselaw02_num.calls t236 t239 _ A7.out).mono ?_); rintro e w' ⟨rfl, ⟨nd, rfl⟩⟩; obtain ⟨Ao30, co30, eo30⟩ := Kd.R_slice HO238.out; subst eo30))
        go_ret
        exact ⟨by first | rfl | (simp [errW_none, errW_some] <;> rfl) | (simp [*, errW_none, errW_some] <;> rfl), by repeat (first | (with_reducible first | exact HB.out | apply below_alloc | apply pw_below_drewN | apply below_drew1) | exact HB.out)⟩
    · rw [if_neg c8] at H
      have c8b0 : (t239 == 0) = false := beq_eq_false_iff_ne.mpr c8
      have c8b1 : (t239 != 0) = true := bne_iff_ne.mpr c8
      obtain rfl := Option.some.inj H
      go_enter Tryd.func14, Tryd.ntmps14
      go_wp2_with (first | ((with_reducible refine gate_callee (f := 18) rfl ?_); refine goesL_ (some 4) rfl rfl Tryd.func18 (by kernel_rfl) rfl #[.int .i64 (-5)] rfl (by (try simp only [List.map_toArray, List.map_cons, List.map_nil]); first | done | rfl | (simp only [List.length_drop, List.length_take]; rfl)) ?_; (with_reducible refine (value_Number.calls (-5) t222 t223 t224 _ A1.out).mono ?_); rintro e w31 ⟨rfl, hb⟩; refine ⟨_, rfl, ?_⟩; have n0_ := Aside0.mk (below_step (by repeat (first | (with_reducible first | exact HB.out | apply below_alloc | apply pw_below_drewN | apply below_drew1) | exact HB.out)) hb); clear HB; have HB := n0_; clear n0_; (try clear hb); (try clear hb2); (try clear hk); (try clear hi)) | ((with_reducible refine gate_callee (f := 19) rfl ?_); refine goesL_ (some 5) rfl rfl Tryd.func19 (by kernel_rfl) rfl #[.string (⟨#[97]⟩ : ByteArray)] rfl (by (try simp only [List.map_toArray, List.map_cons, List.map_nil]); first | done | rfl | (simp only [List.length_drop, List.length_take]; rfl)) ?_; (with_reducible refine (value_Text.calls (⟨#[97]⟩ : ByteArray) t225 t226 t227 _ A2.out).mono ?_); rintro e w32 ⟨rfl, hb⟩; refine ⟨_, rfl, ?_⟩; have n0_ := Aside0.mk (below_step (by repeat (first | (with_reducible first | exact HB.out | apply below_alloc | apply pw_below_drewN | apply below_drew1) | exact HB.out)) hb); clear HB; have HB := n0_; clear n0_; (try clear hb); (try clear hb2); (try clear hk); (try clear hi)) | ((with_reducible refine gate_callee (f := 20) rfl ?_); refine goesL_ (some 6) rfl rfl Tryd.func20 (by kernel_rfl) rfl #[.bool true] rfl (by (try simp only [List.map_toArray, List.map_cons, List.map_nil]); first | done | rfl | (simp only [List.length_drop, List.length_take]; rfl)) ?_; (with_reducible refine (value_Truth.calls true t228 t229 t230 _ A3.out).mono ?_); rintro e w33 ⟨rfl, hb⟩; refine ⟨_, rfl, ?_⟩; have n0_ := Aside0.mk (below_step (by repeat (first | (with_reducible first | exact HB.out | apply below_alloc | apply pw_below_drewN | apply below_drew1) | exact HB.out)) hb); clear HB; have HB := n0_; clear n0_; (try clear hb); (try clear hb2); (try clear hk); (try clear hi)) | ((with_reducible refine gate_dst (N := 7) rfl ?_); (try (refine gate_guard (by rfl) ?_; dsimp only)); refine Kd.R_lit k37 _ 37 ?hg (N := 7) ?hd (xs := ([(⟨t222, t223, t224⟩ : S37), (⟨t225, t226, t227⟩ : S37), (⟨t228, t229, t230⟩ : S37)] : List (S37))) (inner := [.int .i64 t222, .int .i64 t223, .string t224, .int .i64 t225, .int .i64 t226, .string t227, .int .i64 t228, .int .i64 t229, .string t230]) (ok := fun _ => True) (okp := fun _ => True) ?hr ?hp (fun _ hk => hk) trivial (Below.refl _ _) (Nat.le_refl _) (by simp) ?_; (case hd => rfl); (case hg => rfl); (case hr => first | (go_simp; done) | (go_simp; rfl)); (case hp => exact (Reps.c3 (show Kd.M k37 _ _ _ (⟨t222, t223, t224⟩ : S37) [.int .i64 t222, .int .i64 t223, .string t224] from (k37_mkM _ _ _ (⟨t222, t223, t224⟩ : S37) )) (Reps.c3 (show Kd.M k37 _ _ _ (⟨t225, t226, t227⟩ : S37) [.int .i64 t225, .int .i64 t226, .string t227] from (k37_mkM _ _ _ (⟨t225, t226, t227⟩ : S37) )) (Reps.c3 (show Kd.M k37 _ _ _ (⟨t228, t229, t230⟩ : S37) [.int .i64 t228, .int .i64 t229, .string t230] from (k37_mkM _ _ _ (⟨t228, t229, t230⟩ : S37) )) (Reps.none _ _))))); intro v232 w34 ho35 hb hg_ hnew_; clear hg_ hnew_; (first | rw [← Ny231.out] at ho35 | (simp only [Int.reduceToNat] at ho35; rw [← Ny231.out] at ho35)); have n0_ := Aside0.mk (Kd.R_lower ho35 (below_size (by repeat (first | (with_reducible first | exact HB.out | apply below_alloc | apply pw_below_drewN | apply below_drew1) | exact HB.out)))); have n1_ := Aside0.mk (below_step (by repeat (first | (with_reducible first | exact HB.out | apply below_alloc | apply pw_below_drewN | apply below_drew1) | exact HB.out)) hb); clear HB; have HO233 := n0_; have HB := n1_; clear n0_ n1_; clear hb ho35; obtain ⟨Ao36, co36, eo36⟩ := Kd.R_slice HO233.out; subst eo36) | ((with_reducible refine gate_callee (f := 10) rfl ?_); refine goesL_ (some 8) rfl rfl Tryd.func10 (by kernel_rfl) rfl #[.slice Ao36 y231.length co36] rfl (by (try simp only [List.map_toArray, List.map_cons, List.map_nil]); first | done | rfl | (simp only [List.length_drop, List.length_take]; rfl)) ?_; (with_reducible refine (value_Print.calls k _ _ y231 t234 _ ?side1 ?side2 A4.out ?sideV).mono ?_); (case sideV => exact HV.out.below (by repeat (first | (with_reducible first | exact HB.out | apply below_alloc | apply pw_below_drewN | apply below_drew1) | exact HB.out))); (case side1 => repeat (first | exact (Kd.R_reads' HO233.out).2.2 | (with_reducible refine Kd.C_alloc ?_ _) | (with_reducible refine Kd.C_drewN ?_ _) | (with_reducible refine Kd.C_drew ?_))); (case side2 => exact (Kd.R_reads' HO233.out).2.1); rintro e w37 ⟨rfl, hb⟩; refine ⟨_, rfl, ?_⟩; have n0_ := Aside0.mk (Kd.R_below (by (with_reducible repeat (first | apply Kd.R_alloc | apply Kd.R_drewN | apply Kd.R_drew)); exact HO233.out) hb); have n1_ := Aside0.mk (below_step (by repeat (first | (with_reducible first | exact HB.out | apply below_alloc | apply pw_below_drewN | apply below_drew1) | exact HB.out)) hb); clear HO233; clear HB; have HO233 := n0_; have HB := n1_; clear n0_ n1_; (try clear hb); (try clear hb2); (try clear hk); (try clear hi)) | ((with_reducible refine gate_callee (f := 8) rfl ?_); refine goesL_ (some 11) rfl rfl Tryd.func8 (by kernel_rfl) rfl #[.string t234] rfl (by (try simp only [List.map_toArray, List.map_cons, List.map_nil]); first | done | rfl | (simp only [List.length_drop, List.length_take]; rfl)) ?_; (with_reducible refine (value_Parse.calls t234 t235 t236 _ A5.out ?sideV).mono ?_); (case sideV => exact HV.out.below (by repeat (first | (with_reducible first | exact HB.out | apply below_alloc | apply pw_below_drewN | apply below_drew1) | exact HB.out))); rintro e w38 ⟨v237, rfl, ho0, hb⟩; refine ⟨_, rfl, ?_⟩; have n0_ := Aside0.mk (Kd.R_elder' (by (with_reducible repeat (first | apply Kd.R_alloc | apply Kd.R_drewN | apply Kd.R_drew)); exact HO233.out) (Kd.R_base ho0) hb); have n1_ := Aside0.mk (Kd.R_lower (Kd.R_new' ho0 (Kd.R_lt (by (with_reducible repeat (first | apply Kd.R_alloc | apply Kd.R_drewN | apply Kd.R_drew)); exact HO233.out))) (below_size (by repeat (first | (with_reducible first | exact HB.out | apply below_alloc | apply pw_below_drewN | apply below_drew1) | exact HB.out)))); have n2_ := Aside0.mk (below_step (by repeat (first | (with_reducible first | exact HB.out | apply below_alloc | apply pw_below_drewN | apply below_drew1) | exact HB.out)) hb); clear HO233; clear HB; have HO233 := n0_; have HO238 := n1_; have HB := n2_; clear n0_ n1_ n2_; (try clear hb); (try clear hb2); (try clear hk); (try clear hi); (try clear ho0)) | (go_at_call 13; (with_reducible refine (weighhouselaw02_num.calls t236 t239 _ A7.out).mono ?_); rintro e w' ⟨rfl, ⟨nd, rfl⟩⟩))
      go_ret
      exact ⟨by first | rfl | (simp [errW_none, errW_some] <;> rfl) | (simp [*, errW_none, errW_some] <;> rfl), by repeat (first | (with_reducible first | exact HB.out | apply below_alloc | apply pw_below_drewN | apply below_drew1) | exact HB.out)⟩
  · rw [if_neg c6] at H
    have c6b0 : (t234.toList == ([45, 53, 32, 120, 39, 54, 49, 39, 32, 116, 114, 117, 101] : List UInt8)) = false := beq_eq_false_iff_ne.mpr c6
    have c6b1 : (t234.toList != ([45, 53, 32, 120, 39, 54, 49, 39, 32, 116, 114, 117, 101] : List UInt8)) = true := bne_iff_ne.mpr c6
    obtain rfl := Option.some.inj H
    go_enter Tryd.func14, Tryd.ntmps14
    go_wp2_with (first | ((with_reducible refine gate_callee (f := 18) rfl ?_); refine goesL_ (some 4) rfl rfl Tryd.func18 (by kernel_rfl) rfl #[.int .i64 (-5)] rfl (by (try simp only [List.map_toArray, List.map_cons, List.map_nil]); first | done | rfl | (simp only [List.length_drop, List.length_take]; rfl)) ?_; (with_reducible refine (value_Number.calls (-5) t222 t223 t224 _ A1.out).mono ?_); rintro e w39 ⟨rfl, hb⟩; refine ⟨_, rfl, ?_⟩; have n0_ := Aside0.mk (below_step (by repeat (first | (with_reducible first | exact HB.out | apply below_alloc | apply pw_below_drewN | apply below_drew1) | exact HB.out)) hb); clear HB; have HB := n0_; clear n0_; (try clear hb); (try clear hb2); (try clear hk); (try clear hi)) | ((with_reducible refine gate_callee (f := 19) rfl ?_); refine goesL_ (some 5) rfl rfl Tryd.func19 (by kernel_rfl) rfl #[.string (⟨#[97]⟩ : ByteArray)] rfl (by (try simp only [List.map_toArray, List.map_cons, List.map_nil]); first | done | rfl | (simp only [List.length_drop, List.length_take]; rfl)) ?_; (with_reducible refine (value_Text.calls (⟨#[97]⟩ : ByteArray) t225 t226 t227 _ A2.out).mono ?_); rintro e w40 ⟨rfl, hb⟩; refine ⟨_, rfl, ?_⟩; have n0_ := Aside0.mk (below_step (by repeat (first | (with_reducible first | exact HB.out | apply below_alloc | apply pw_below_drewN | apply below_drew1) | exact HB.out)) hb); clear HB; have HB := n0_; clear n0_; (try clear hb); (try clear hb2); (try clear hk); (try clear hi)) | ((with_reducible refine gate_callee (f := 20) rfl ?_); refine goesL_ (some 6) rfl rfl Tryd.func20 (by kernel_rfl) rfl #[.bool true] rfl (by (try simp only [List.map_toArray, List.map_cons, List.map_nil]); first | done | rfl | (simp only [List.length_drop, List.length_take]; rfl)) ?_; (with_reducible refine (value_Truth.calls true t228 t229 t230 _ A3.out).mono ?_); rintro e w41 ⟨rfl, hb⟩; refine ⟨_, rfl, ?_⟩; have n0_ := Aside0.mk (below_step (by repeat (first | (with_reducible first | exact HB.out | apply below_alloc | apply pw_below_drewN | apply below_drew1) | exact HB.out)) hb); clear HB; have HB := n0_; clear n0_; (try clear hb); (try clear hb2); (try clear hk); (try clear hi)) | ((with_reducible refine gate_dst (N := 7) rfl ?_); (try (refine gate_guard (by rfl) ?_; dsimp only)); refine Kd.R_lit k37 _ 37 ?hg (N := 7) ?hd (xs := ([(⟨t222, t223, t224⟩ : S37), (⟨t225, t226, t227⟩ : S37), (⟨t228, t229, t230⟩ : S37)] : List (S37))) (inner := [.int .i64 t222, .int .i64 t223, .string t224, .int .i64 t225, .int .i64 t226, .string t227, .int .i64 t228, .int .i64 t229, .string t230]) (ok := fun _ => True) (okp := fun _ => True) ?hr ?hp (fun _ hk => hk) trivial (Below.refl _ _) (Nat.le_refl _) (by simp) ?_; (case hd => rfl); (case hg => rfl); (case hr => first | (go_simp; done) | (go_simp; rfl)); (case hp => exact (Reps.c3 (show Kd.M k37 _ _ _ (⟨t222, t223, t224⟩ : S37) [.int .i64 t222, .int .i64 t223, .string t224] from (k37_mkM _ _ _ (⟨t222, t223, t224⟩ : S37) )) (Reps.c3 (show Kd.M k37 _ _ _ (⟨t225, t226, t227⟩ : S37) [.int .i64 t225, .int .i64 t226, .string t227] from (k37_mkM _ _ _ (⟨t225, t226, t227⟩ : S37) )) (Reps.c3 (show Kd.M k37 _ _ _ (⟨t228, t229, t230⟩ : S37) [.int .i64 t228, .int .i64 t229, .string t230] from (k37_mkM _ _ _ (⟨t228, t229, t230⟩ : S37) )) (Reps.none _ _))))); intro v232 w42 ho43 hb hg_ hnew_; clear hg_ hnew_; (first | rw [← Ny231.out] at ho43 | (simp only [Int.reduceToNat] at ho43; rw [← Ny231.out] at ho43)); have n0_ := Aside0.mk (Kd.R_lower ho43 (below_size (by repeat (first | (with_reducible first | exact HB.out | apply below_alloc | apply pw_below_drewN | apply below_drew1) | exact HB.out)))); have n1_ := Aside0.mk (below_step (by repeat (first | (with_reducible first | exact HB.out | apply below_alloc | apply pw_below_drewN | apply below_drew1) | exact HB.out)) hb); clear HB; have HO233 := n0_; have HB := n1_; clear n0_ n1_; clear hb ho43; obtain ⟨Ao44, co44, eo44⟩ := Kd.R_slice HO233.out; subst eo44) | ((with_reducible refine gate_callee (f := 10) rfl ?_); refine goesL_ (some 8) rfl rfl Tryd.func10 (by kernel_rfl) rfl #[.slice Ao44 y231.length co44] rfl (by (try simp only [List.map_toArray, List.map_cons, List.map_nil]); first | done | rfl | (simp only [List.length_drop, List.length_take]; rfl)) ?_; (with_reducible refine (value_Print.calls k _ _ y231 t234 _ ?side1 ?side2 A4.out ?sideV).mono ?_); (case sideV => exact HV.out.below (by repeat (first | (with_reducible first | exact HB.out | apply below_alloc | apply pw_below_drewN | apply below_drew1) | exact HB.out))); (case side1 => repeat (first | exact (Kd.R_reads' HO233.out).2.2 | (with_reducible refine Kd.C_alloc ?_ _) | (with_reducible refine Kd.C_drewN ?_ _) | (with_reducible refine Kd.C_drew ?_))); (case side2 => exact (Kd.R_reads' HO233.out).2.1); rintro e w45 ⟨rfl, hb⟩; refine ⟨_, rfl, ?_⟩; have n0_ := Aside0.mk (Kd.R_below (by (with_reducible repeat (first | apply Kd.R_alloc | apply Kd.R_drewN | apply Kd.R_drew)); exact HO233.out) hb); have n1_ := Aside0.mk (below_step (by repeat (first | (with_reducible first | exact HB.out | apply below_alloc | apply pw_below_drewN | apply below_drew1) | exact HB.out)) hb); clear HO233; clear HB; have HO233 := n0_; have HB := n1_; clear n0_ n1_; (try clear hb); (try clear hb2); (try clear hk); (try clear hi)) | ((with_reducible refine gate_callee (f := 8) rfl ?_); refine goesL_ (some 11) rfl rfl Tryd.func8 (by kernel_rfl) rfl #[.string t234] rfl (by (try simp only [List.map_toArray, List.map_cons, List.map_nil]); first | done | rfl | (simp only [List.length_drop, List.length_take]; rfl)) ?_; (with_reducible refine (value_Parse.calls t234 t235 t236 _ A5.out ?sideV).mono ?_); (case sideV => exact HV.out.below (by repeat (first | (with_reducible first | exact HB.out | apply below_alloc | apply pw_below_drewN | apply below_drew1) | exact HB.out))); rintro e w46 ⟨v237, rfl, ho0, hb⟩; refine ⟨_, rfl, ?_⟩; have n0_ := Aside0.mk (Kd.R_elder' (by (with_reducible repeat (first | apply Kd.R_alloc | apply Kd.R_drewN | apply Kd.R_drew)); exact HO233.out) (Kd.R_base ho0) hb); have n1_ := Aside0.mk (Kd.R_lower (Kd.R_new' ho0 (Kd.R_lt (by (with_reducible repeat (first | apply Kd.R_alloc | apply Kd.R_drewN | apply Kd.R_drew)); exact HO233.out))) (below_size (by repeat (first | (with_reducible first | exact HB.out | apply below_alloc | apply pw_below_drewN | apply below_drew1) | exact HB.out)))); have n2_ := Aside0.mk (below_step (by repeat (first | (with_reducible first | exact HB.out | apply below_alloc | apply pw_below_drewN | apply below_drew1) | exact HB.out)) hb); clear HO233; clear HB; have HO233 := n0_; have HO238 := n1_; have HB := n2_; clear n0_ n1_ n2_; (try clear hb); (try clear hb2); (try clear hk); (try clear hi); (try clear ho0)))
    go_ret
    exact ⟨by first | rfl | (simp [errW_none, errW_some] <;> rfl) | (simp [*, errW_none, errW_some] <;> rfl), by repeat (first | (with_reducible first | exact HB.out | apply below_alloc | apply pw_below_drewN | apply below_drew1) | exact HB.out)⟩

end Go.Proofs.YtblaibigjhlblaaDoor.Q
end

section
-- written by hprint.py (a program of these sessions) out of the translation; Lean checks it
namespace Go.Proofs.YtblaibigjhlblaaDoor.Q
open Go.RowKit Go.Proofs.YtblaibigjhlblaaDoorW.Hb Go.Proofs.YtblaibigjhlblaaDoorW.PrintWords Go.Proofs.YtblaibigjhlblaaDoorW.PrintLast Go.Proofs.YtblaibigjhlblaaDoorW.PrintMore
attribute [local go_sem] max2_int min2_int max_two min_two max_three min_three max_four min_four   -- for this text's walks alone
set_option linter.unusedVariables false
set_option linter.unusedSimpArgs false

/-! ### value_Fits: function 16 -/
mutual
def value_Fits.j0 : Nat → List (S37) → List Int → Bool → Option (Bool)
  | 0, _, _, _ => none
  | k + 1, x0, x1, x16 => if x16 = true then (some false) else (value_Fits.l0 k x1 x0 (x0.length : Int) 0)
def value_Fits.l0 : Nat → List Int → List (S37) → Int → Int → Option (Bool)
  | 0, _, _, _, _ => none
  | k + 1, x1, x17, x18, x19 => if x19 < x18 then (if 0 ≤ x19 then (if x19 < (x17.length : Int) then (if x19 < (x1.length : Int) then (if ((rd_T37 x17 x19).f0) = (rd x1 x19) then (value_Fits.l0 k x1 x17 x18 (wrap64 (x19 + 1))) else (some false)) else (none)) else (none)) else (none)) else (some true)
end
def value_Fits.f (k : Nat) (l0 : List (S37)) (l1 : List Int) : Option (Bool) := if (l0.length : Int) = (l1.length : Int) then ((value_all.f k l0).bind fun t259 => (value_Fits.j0 k l0 l1 (!t259))) else (value_Fits.j0 k l0 l1 true)
theorem value_Fits.mono_l : ∀ k, (∀ y0 y1 y2, LeO (value_Fits.j0 k y0 y1 y2) (value_Fits.j0 (k + 1) y0 y1 y2)) ∧ (∀ y0 y1 y2 y3, LeO (value_Fits.l0 k y0 y1 y2 y3) (value_Fits.l0 (k + 1) y0 y1 y2 y3))
  | 0 => ⟨fun _ _ _ r h => by simp [value_Fits.j0] at h, fun _ _ _ _ r h => by simp [value_Fits.l0] at h⟩
  | k + 1 => by
    obtain ⟨ih0, ih1⟩ := value_Fits.mono_l k
    refine ⟨?_, ?_⟩
    · intro y0 y1 y2
      unfold value_Fits.j0
      repeat' first
      | (with_reducible exact ih0 _ _ _)
      | (with_reducible exact ih1 _ _ _ _)
      | (with_reducible exact value_all.mono _ _)
      | (with_reducible exact LeO.refl _)
      | (with_reducible exact LeO.none _)
      | (with_reducible refine LeO.ite ?_ ?_)
      | (with_reducible refine LeO.bind ?_ (fun _ => ?_))
      | exact ih0 _ _ _
      | exact ih1 _ _ _ _
      | exact value_all.mono _ _
      | exact LeO.none _
      | refine LeO.ite ?_ ?_
      | refine LeO.bind ?_ (fun _ => ?_)
    · intro y0 y1 y2 y3
      unfold value_Fits.l0
      repeat' first
      | (with_reducible exact ih0 _ _ _)
      | (with_reducible exact ih1 _ _ _ _)
      | (with_reducible exact value_all.mono _ _)
      | (with_reducible exact LeO.refl _)
      | (with_reducible exact LeO.none _)
      | (with_reducible refine LeO.ite ?_ ?_)
      | (with_reducible refine LeO.bind ?_ (fun _ => ?_))
      | exact ih0 _ _ _
      | exact ih1 _ _ _ _
      | exact value_all.mono _ _
      | exact LeO.none _
      | refine LeO.ite ?_ ?_
      | refine LeO.bind ?_ (fun _ => ?_)
theorem value_Fits.mono : ∀ a0 a1 k, LeO (value_Fits.f k a0 a1) (value_Fits.f (k + 1) a0 a1) := by
  intro a0 a1 k
  obtain ⟨ih0, ih1⟩ := value_Fits.mono_l k
  unfold value_Fits.f
  repeat' first
      | (with_reducible exact ih0 _ _ _)
      | (with_reducible exact ih1 _ _ _ _)
      | (with_reducible exact value_all.mono _ _)
      | (with_reducible exact LeO.refl _)
      | (with_reducible exact LeO.none _)
      | (with_reducible refine LeO.ite ?_ ?_)
      | (with_reducible refine LeO.bind ?_ (fun _ => ?_))
      | exact ih0 _ _ _
      | exact ih1 _ _ _ _
      | exact value_all.mono _ _
      | exact LeO.none _
      | refine LeO.ite ?_ ?_
      | refine LeO.bind ?_ (fun _ => ?_)
set_option maxHeartbeats 8000000 in
set_option maxRecDepth 100000 in
theorem value_Fits.calls (k : Nat) (A0 : Option Addr) (c0 : Nat) (l0 : List (S37)) (A1 : Option Addr) (c1 : Nat) (l1 : List Int) (r : Bool) (w : World) (hr0 : Kd.C k37 w A0 l0.length l0) (hc0 : l0.length ≤ c0) (hr1 : Kd.C (Kd.int .i64) w A1 l1.length l1) (hc1 : l1.length ≤ c1) (h : value_Fits.f k l0 l1 = some r) :
    Calls Tryd.prog 16 #[.slice A0 l0.length c0, .slice A1 l1.length c1] w fun e w' => e = .returned (.bool r) ∧ Below w.heap.size w w' := by
  have hu37 := Tryd.underlying37
  have HR0 := Aside0.mk hr0
  have HC0 := Aside0.mk hc0
  clear hr0 hc0
  have HR1 := Aside0.mk hr1
  have HC1 := Aside0.mk hc1
  clear hr1 hc1
  have HB := Aside0.mk (Below.refl w.heap.size w)
  have H : (if (l0.length : Int) = (l1.length : Int) then ((value_all.f k l0).bind fun t259 => (value_Fits.j0 k l0 l1 (!t259))) else (value_Fits.j0 k l0 l1 true)) = some r := h
  clear h
  have HC3 := Aside0.mk H
  clear H
  go_enter Tryd.func16, Tryd.ntmps16
  go_upto_region 1 with (fail)
  repeat (go_quiet (fail); go_upto_region 1 with (fail))
  go_cut [16] (fun v16 wc => ∃ (kq : Nat) (x16_2 : Bool), v16 = .bool x16_2 ∧ Aside0 (value_Fits.j0 kq l0 l1 x16_2 = some r) ∧ Aside0 (kq ≤ k) ∧ Aside0 (Below w.heap.size w wc))
  case first =>
    have H := HC3.out
    clear HC3
    by_cases c4 : (l0.length : Int) = (l1.length : Int)
    · rw [if_pos c4] at H
      have c4b0 : ((l0.length : Int) == (l1.length : Int)) = true := beq_iff_eq.mpr c4
      have c4b1 : ((l0.length : Int) != (l1.length : Int)) = false := bne_eq_false_iff_eq.mpr c4
      have c4b2 : (l0.length == l1.length) = true := by first | simpa using c4 | (simp at c4 ⊢; omega)
      clear c4
      (first | rw [c4b0] | (simp only [i64_w, i32_w]; rw [c4b0]) | skip)
      replace H := Option.bind_eq_some_iff.mp H
      obtain ⟨t259, A50, H⟩ := H
      replace H : (value_Fits.j0 k l0 l1 (!t259)) = some r := H
      have A5 := Aside0.mk A50
      clear A50
      have H' := Aside0.mk H
      clear H
      go_wp2_with (first | (go_at_call 30; (with_reducible refine (value_all.calls k _ _ l0 t259 _ ?side1 ?side2 A5.out).mono ?_); (case side1 => repeat (first | exact (Kd.C_below HR0.out HB.out) | (with_reducible refine Kd.C_alloc ?_ _) | (with_reducible refine Kd.C_drewN ?_ _) | (with_reducible refine Kd.C_drew ?_))); (case side2 => exact HC0.out); rintro e w6 ⟨rfl, hb⟩; have n0_ := Aside0.mk (below_step (by repeat (first | (with_reducible first | exact HB.out | apply below_alloc | apply pw_below_drewN | apply below_drew1) | exact HB.out)) hb); clear HB; have HB := n0_; clear n0_; (try clear hb); (try clear hb2); (try clear hk); (try clear hi)))
      repeat (go_quiet (first | (go_at_call 30; (with_reducible refine (value_all.calls k _ _ l0 t259 _ ?side1 ?side2 A5.out).mono ?_); (case side1 => repeat (first | exact (Kd.C_below HR0.out HB.out) | (with_reducible refine Kd.C_alloc ?_ _) | (with_reducible refine Kd.C_drewN ?_ _) | (with_reducible refine Kd.C_drew ?_))); (case side2 => exact HC0.out); rintro e w6 ⟨rfl, hb⟩; have n0_ := Aside0.mk (below_step (by repeat (first | (with_reducible first | exact HB.out | apply below_alloc | apply pw_below_drewN | apply below_drew1) | exact HB.out)) hb); clear HB; have HB := n0_; clear n0_; (try clear hb); (try clear hb2); (try clear hk); (try clear hi))); try go_wp2_with (first | (go_at_call 30; (with_reducible refine (value_all.calls k _ _ l0 t259 _ ?side1 ?side2 A5.out).mono ?_); (case side1 => repeat (first | exact (Kd.C_below HR0.out HB.out) | (with_reducible refine Kd.C_alloc ?_ _) | (with_reducible refine Kd.C_drewN ?_ _) | (with_reducible refine Kd.C_drew ?_))); (case side2 => exact HC0.out); rintro e w6 ⟨rfl, hb⟩; have n0_ := Aside0.mk (below_step (by repeat (first | (with_reducible first | exact HB.out | apply below_alloc | apply pw_below_drewN | apply below_drew1) | exact HB.out)) hb); clear HB; have HB := n0_; clear n0_; (try clear hb); (try clear hb2); (try clear hk); (try clear hi))))
      go_meet
      case rel => exact ⟨_, (!t259), (by first | rfl | (simp; done) | (simp [*]; done)), H', ⟨by first | omega | exact Nat.le_refl _⟩, ⟨by repeat (first | (with_reducible first | exact HB.out | apply below_alloc | apply pw_below_drewN | apply below_drew1) | exact HB.out)⟩⟩
    · rw [if_neg c4] at H
      have c4b0 : ((l0.length : Int) == (l1.length : Int)) = false := beq_eq_false_iff_ne.mpr c4
      have c4b1 : ((l0.length : Int) != (l1.length : Int)) = true := bne_iff_ne.mpr c4
      have c4b2 : (l0.length == l1.length) = false := by first | simpa using c4 | (simp at c4 ⊢; omega)
      (first | rw [c4b0] | (simp only [i64_w, i32_w]; rw [c4b0]) | skip)
      have H' := Aside0.mk H
      clear H
      go_wp2
      repeat (go_quiet (fail); try go_wp2)
      go_meet
      case rel => exact ⟨_, (true), (by first | rfl | (simp; done) | (simp [*]; done)), H', ⟨by first | omega | exact Nat.le_refl _⟩, ⟨by repeat (first | (with_reducible first | exact HB.out | apply below_alloc | apply pw_below_drewN | apply below_drew1) | exact HB.out)⟩⟩
  case rest =>
    clear HC3
    try clear c1
    try clear p2
    try clear c4
    try clear c4b0
    try clear c4b1
    try clear c4b2
    obtain ⟨kq, x16_2, rfl, HA, HJ2, HB⟩ := hcut
    cases kq with
    | zero => exact absurd HA.out (by simp [value_Fits.j0])
    | succ kj2 =>
      have H := HA.out
      clear HA
      simp only [value_Fits.j0] at H
      by_cases c7 : x16_2 = true
      · subst c7
        have H1 : (some false) = some r := by rw [if_pos rfl] at H; exact H
        clear H
        have H := H1
        clear H1
        obtain rfl := Option.some.inj H
        go_wp2
        repeat (go_quiet (fail); try go_wp2)
        go_ret
        exact ⟨by first | rfl | (simp [errW_none, errW_some] <;> rfl) | (simp [*, errW_none, errW_some] <;> rfl), by repeat (first | (with_reducible first | exact HB.out | apply below_alloc | apply pw_below_drewN | apply below_drew1) | exact HB.out)⟩
      · replace c7 := Bool.eq_false_iff.mpr c7
        subst c7
        have H1 : (value_Fits.l0 kj2 l1 l0 (l0.length : Int) 0) = some r := by rw [if_neg (show ¬ (false = true) by decide)] at H; exact H
        clear H
        have H := H1
        clear H1
        have H' := Aside0.mk H
        clear H
        go_wp2
        repeat (go_quiet (fail); try go_wp2)
        go_loopg [19] kj2 (fun kq v19 w' => ∃ (x19_2 : Int), v19 = .int .i64 x19_2 ∧ Aside0 (value_Fits.l0 kq l1 l0 (l0.length : Int) x19_2 = some r) ∧ Aside0 (kq ≤ kj2) ∧ Aside0 (Below w.heap.size w w'))
        case atStart => exact ⟨(0), (by first | rfl | (simp; done) | (simp [*]; done)), H', ⟨Nat.le_refl _⟩, ⟨by repeat (first | (with_reducible first | exact HB.out | apply below_alloc | apply pw_below_drewN | apply below_drew1) | exact HB.out)⟩⟩
        case round =>
          clear H'
          try clear c1
          try clear p2
          try clear c4
          try clear c4b0
          try clear c4b1
          try clear c4b2
          try clear c7
          try clear p2
          obtain ⟨x19_2, rfl, HA, HK2, HB⟩ := hrel
          cases gk with
          | zero => exact absurd HA.out (by simp [value_Fits.l0])
          | succ k2 =>
            have H := HA.out
            clear HA
            simp only [value_Fits.l0] at H
            by_cases c8 : x19_2 < (l0.length : Int)
            · rw [if_pos c8] at H
              have c8b0 : decide (x19_2 < (l0.length : Int)) = true := decide_eq_true c8
              clear c8
              by_cases c9 : 0 ≤ x19_2
              · rw [if_pos c9] at H
                have c9b0 : decide (0 ≤ x19_2) = true := decide_eq_true c9
                clear c9
                by_cases c10 : x19_2 < (l0.length : Int)
                · rw [if_pos c10] at H
                  have c10b0 : decide (x19_2 < (l0.length : Int)) = true := decide_eq_true c10
                  clear c10
                  by_cases c11 : x19_2 < (l1.length : Int)
                  · rw [if_pos c11] at H
                    have c11b0 : decide (x19_2 < (l1.length : Int)) = true := decide_eq_true c11
                    clear c11
                    by_cases c12 : ((rd_T37 l0 x19_2).f0) = (rd l1 x19_2)
                    · rw [if_pos c12] at H
                      have c12b0 : (((rd_T37 l0 x19_2).f0) == (rd l1 x19_2)) = true := beq_iff_eq.mpr c12
                      have c12b1 : (((rd_T37 l0 x19_2).f0) != (rd l1 x19_2)) = false := bne_eq_false_iff_eq.mpr c12
                      clear c12
                      have H' := Aside0.mk H
                      clear H
                      have p260 : 0 ≤ (x19_2 : Int) := of_decide_eq_true (by first | (with_reducible assumption) | assumption)
                      have q260 : x19_2 < (l0.length : Int) := of_decide_eq_true (by first | (with_reducible assumption) | assumption)
                      obtain ⟨ad260, e260, hx260_0, hx260_1, hx260_2⟩ := at_T37 HR0.out x19_2 p260 q260
                      cases e260
                      replace hx260_0 := (HB.out.cell (World.block_lt_of_cell? w _ hx260_0)).trans hx260_0
                      replace hx260_1 := (HB.out.cell (World.block_lt_of_cell? w _ hx260_1)).trans hx260_1
                      replace hx260_2 := (HB.out.cell (World.block_lt_of_cell? w _ hx260_2)).trans hx260_2
                      replace p260 := eq_true p260
                      replace q260 := eq_true q260
                      go_wp2_with (first | ((with_reducible refine gate_dst (N := 6) rfl ?_); refine box_event ?hg (N := 6) ?hd (cs := #[.int .i64 0, .int .i64 0, .string (⟨#[]⟩ : ByteArray)]) (t := 37) ?hr ?_; (case hd => rfl); (case hg => rfl); (case hr => first | (go_simp; done) | (go_simp; rfl)); intro gb261 hg w13 hbox hb; have n0_ := Aside0.mk (below_step (by repeat (first | (with_reducible first | exact HB.out | apply below_alloc | apply pw_below_drewN | apply below_drew1) | exact HB.out)) hb); have n1_ := Aside0.mk (hbox); have n2_ := Aside0.mk ((by rw [hg]; exact (below_size (by repeat (first | (with_reducible first | exact HB.out | apply below_alloc | apply pw_below_drewN | apply below_drew1) | exact HB.out))) : w.heap.size ≤ gb261)); have n3_ := Aside0.mk ((by rw [hg]; exact (below_size (by repeat (first | (with_reducible first | exact HB.out | apply below_alloc | apply pw_below_drewN | apply below_drew1) | exact HB.out))) : w.heap.size ≤ gb261)); clear HB; have HB := n0_; have BK261 := n1_; have GW261 := n2_; have GE261 := n3_; clear n0_ n1_ n2_ n3_; clear hb hbox hg; have hcz14_0 : w13.cell? ⟨gb261, 0, none⟩ = some (.int .i64 0) := (blk_cell BK261.out 0).trans rfl; have hcz14_1 : w13.cell? ⟨gb261, 1, none⟩ = some (.int .i64 0) := (blk_cell BK261.out 1).trans rfl; have hcz14_2 : w13.cell? ⟨gb261, 2, none⟩ = some (.string (⟨#[]⟩ : ByteArray)) := (blk_cell BK261.out 2).trans rfl; have hfz14_0 := blk_frozen BK261.out 0; have hfz14_1 := blk_frozen BK261.out 1; have hfz14_2 := blk_frozen BK261.out 2; have p262 : 0 ≤ (x19_2 : Int) := of_decide_eq_true (by first | (with_reducible assumption) | assumption); have q262 : x19_2 < (l1.length : Int) := of_decide_eq_true (by first | (with_reducible assumption) | assumption); obtain ⟨ad262, e262, hx262_0⟩ := Kd.at_int HR1.out x19_2 p262 q262; cases e262; have hn262_0 : ad262.block ≠ gb261 := Nat.ne_of_lt (Nat.lt_of_lt_of_le (by have := World.block_lt_of_cell? _ _ hx262_0; first | rwa [add_block] at this | exact this) GW261.out); have hn262_1 : ad262.block ≠ gb261 := Nat.ne_of_lt (Nat.lt_of_lt_of_le (by have := World.block_lt_of_cell? _ _ hx262_0; first | rwa [add_block] at this | exact this) GW261.out); have hn262_2 : ad262.block ≠ gb261 := Nat.ne_of_lt (Nat.lt_of_lt_of_le (by have := World.block_lt_of_cell? _ _ hx262_0; first | rwa [add_block] at this | exact this) GW261.out); replace hx262_0 := (HB.out.cell (World.block_lt_of_cell? w _ hx262_0)).trans hx262_0; replace hx262_0 := (cell_far (p := ⟨gb261, 0, none⟩) (by first | (rw [add_block]; exact hn262_0) | (show (Addr.add _ _).block ≠ _; rw [add_block]; exact hn262_0) | exact hn262_0) (.int .i64 ((rd_T37 l0 x19_2).f0))).trans hx262_0; replace hx262_0 := (cell_far (p := ⟨gb261, 1, none⟩) (by first | (rw [add_block]; exact hn262_1) | (show (Addr.add _ _).block ≠ _; rw [add_block]; exact hn262_1) | exact hn262_1) (.int .i64 ((rd_T37 l0 x19_2).f1))).trans hx262_0; replace hx262_0 := (cell_far (p := ⟨gb261, 2, none⟩) (by first | (rw [add_block]; exact hn262_2) | (show (Addr.add _ _).block ≠ _; rw [add_block]; exact hn262_2) | exact hn262_2) (.string ((rd_T37 l0 x19_2).f2))).trans hx262_0; (try have hy262_0 := fun (n_ : Nat) => (show (((((w13.drewN n_).setCell ⟨gb261, 0, none⟩ (.int .i64 ((rd_T37 l0 x19_2).f0))).setCell ⟨gb261, 1, none⟩ (.int .i64 ((rd_T37 l0 x19_2).f1))).setCell ⟨gb261, 2, none⟩ (.string ((rd_T37 l0 x19_2).f2)))).cell? _ = some _ from hx262_0)); clear hn262_0; clear hn262_1; clear hn262_2; replace p262 := eq_true p262; replace q262 := eq_true q262))
                      repeat (go_quiet (first | ((with_reducible refine gate_dst (N := 6) rfl ?_); refine box_event ?hg (N := 6) ?hd (cs := #[.int .i64 0, .int .i64 0, .string (⟨#[]⟩ : ByteArray)]) (t := 37) ?hr ?_; (case hd => rfl); (case hg => rfl); (case hr => first | (go_simp; done) | (go_simp; rfl)); intro gb261 hg w13 hbox hb; have n0_ := Aside0.mk (below_step (by repeat (first | (with_reducible first | exact HB.out | apply below_alloc | apply pw_below_drewN | apply below_drew1) | exact HB.out)) hb); have n1_ := Aside0.mk (hbox); have n2_ := Aside0.mk ((by rw [hg]; exact (below_size (by repeat (first | (with_reducible first | exact HB.out | apply below_alloc | apply pw_below_drewN | apply below_drew1) | exact HB.out))) : w.heap.size ≤ gb261)); have n3_ := Aside0.mk ((by rw [hg]; exact (below_size (by repeat (first | (with_reducible first | exact HB.out | apply below_alloc | apply pw_below_drewN | apply below_drew1) | exact HB.out))) : w.heap.size ≤ gb261)); clear HB; have HB := n0_; have BK261 := n1_; have GW261 := n2_; have GE261 := n3_; clear n0_ n1_ n2_ n3_; clear hb hbox hg; have hcz14_0 : w13.cell? ⟨gb261, 0, none⟩ = some (.int .i64 0) := (blk_cell BK261.out 0).trans rfl; have hcz14_1 : w13.cell? ⟨gb261, 1, none⟩ = some (.int .i64 0) := (blk_cell BK261.out 1).trans rfl; have hcz14_2 : w13.cell? ⟨gb261, 2, none⟩ = some (.string (⟨#[]⟩ : ByteArray)) := (blk_cell BK261.out 2).trans rfl; have hfz14_0 := blk_frozen BK261.out 0; have hfz14_1 := blk_frozen BK261.out 1; have hfz14_2 := blk_frozen BK261.out 2; have p262 : 0 ≤ (x19_2 : Int) := of_decide_eq_true (by first | (with_reducible assumption) | assumption); have q262 : x19_2 < (l1.length : Int) := of_decide_eq_true (by first | (with_reducible assumption) | assumption); obtain ⟨ad262, e262, hx262_0⟩ := Kd.at_int HR1.out x19_2 p262 q262; cases e262; have hn262_0 : ad262.block ≠ gb261 := Nat.ne_of_lt (Nat.lt_of_lt_of_le (by have := World.block_lt_of_cell? _ _ hx262_0; first | rwa [add_block] at this | exact this) GW261.out); have hn262_1 : ad262.block ≠ gb261 := Nat.ne_of_lt (Nat.lt_of_lt_of_le (by have := World.block_lt_of_cell? _ _ hx262_0; first | rwa [add_block] at this | exact this) GW261.out); have hn262_2 : ad262.block ≠ gb261 := Nat.ne_of_lt (Nat.lt_of_lt_of_le (by have := World.block_lt_of_cell? _ _ hx262_0; first | rwa [add_block] at this | exact this) GW261.out); replace hx262_0 := (HB.out.cell (World.block_lt_of_cell? w _ hx262_0)).trans hx262_0; replace hx262_0 := (cell_far (p := ⟨gb261, 0, none⟩) (by first | (rw [add_block]; exact hn262_0) | (show (Addr.add _ _).block ≠ _; rw [add_block]; exact hn262_0) | exact hn262_0) (.int .i64 ((rd_T37 l0 x19_2).f0))).trans hx262_0; replace hx262_0 := (cell_far (p := ⟨gb261, 1, none⟩) (by first | (rw [add_block]; exact hn262_1) | (show (Addr.add _ _).block ≠ _; rw [add_block]; exact hn262_1) | exact hn262_1) (.int .i64 ((rd_T37 l0 x19_2).f1))).trans hx262_0; replace hx262_0 := (cell_far (p := ⟨gb261, 2, none⟩) (by first | (rw [add_block]; exact hn262_2) | (show (Addr.add _ _).block ≠ _; rw [add_block]; exact hn262_2) | exact hn262_2) (.string ((rd_T37 l0 x19_2).f2))).trans hx262_0; (try have hy262_0 := fun (n_ : Nat) => (show (((((w13.drewN n_).setCell ⟨gb261, 0, none⟩ (.int .i64 ((rd_T37 l0 x19_2).f0))).setCell ⟨gb261, 1, none⟩ (.int .i64 ((rd_T37 l0 x19_2).f1))).setCell ⟨gb261, 2, none⟩ (.string ((rd_T37 l0 x19_2).f2)))).cell? _ = some _ from hx262_0)); clear hn262_0; clear hn262_1; clear hn262_2; replace p262 := eq_true p262; replace q262 := eq_true q262)); try go_wp2_with (first | ((with_reducible refine gate_dst (N := 6) rfl ?_); refine box_event ?hg (N := 6) ?hd (cs := #[.int .i64 0, .int .i64 0, .string (⟨#[]⟩ : ByteArray)]) (t := 37) ?hr ?_; (case hd => rfl); (case hg => rfl); (case hr => first | (go_simp; done) | (go_simp; rfl)); intro gb261 hg w13 hbox hb; have n0_ := Aside0.mk (below_step (by repeat (first | (with_reducible first | exact HB.out | apply below_alloc | apply pw_below_drewN | apply below_drew1) | exact HB.out)) hb); have n1_ := Aside0.mk (hbox); have n2_ := Aside0.mk ((by rw [hg]; exact (below_size (by repeat (first | (with_reducible first | exact HB.out | apply below_alloc | apply pw_below_drewN | apply below_drew1) | exact HB.out))) : w.heap.size ≤ gb261)); have n3_ := Aside0.mk ((by rw [hg]; exact (below_size (by repeat (first | (with_reducible first | exact HB.out | apply below_alloc | apply pw_below_drewN | apply below_drew1) | exact HB.out))) : w.heap.size ≤ gb261)); clear HB; have HB := n0_; have BK261 := n1_; have GW261 := n2_; have GE261 := n3_; clear n0_ n1_ n2_ n3_; clear hb hbox hg; have hcz14_0 : w13.cell? ⟨gb261, 0, none⟩ = some (.int .i64 0) := (blk_cell BK261.out 0).trans rfl; have hcz14_1 : w13.cell? ⟨gb261, 1, none⟩ = some (.int .i64 0) := (blk_cell BK261.out 1).trans rfl; have hcz14_2 : w13.cell? ⟨gb261, 2, none⟩ = some (.string (⟨#[]⟩ : ByteArray)) := (blk_cell BK261.out 2).trans rfl; have hfz14_0 := blk_frozen BK261.out 0; have hfz14_1 := blk_frozen BK261.out 1; have hfz14_2 := blk_frozen BK261.out 2; have p262 : 0 ≤ (x19_2 : Int) := of_decide_eq_true (by first | (with_reducible assumption) | assumption); have q262 : x19_2 < (l1.length : Int) := of_decide_eq_true (by first | (with_reducible assumption) | assumption); obtain ⟨ad262, e262, hx262_0⟩ := Kd.at_int HR1.out x19_2 p262 q262; cases e262; have hn262_0 : ad262.block ≠ gb261 := Nat.ne_of_lt (Nat.lt_of_lt_of_le (by have := World.block_lt_of_cell? _ _ hx262_0; first | rwa [add_block] at this | exact this) GW261.out); have hn262_1 : ad262.block ≠ gb261 := Nat.ne_of_lt (Nat.lt_of_lt_of_le (by have := World.block_lt_of_cell? _ _ hx262_0; first | rwa [add_block] at this | exact this) GW261.out); have hn262_2 : ad262.block ≠ gb261 := Nat.ne_of_lt (Nat.lt_of_lt_of_le (by have := World.block_lt_of_cell? _ _ hx262_0; first | rwa [add_block] at this | exact this) GW261.out); replace hx262_0 := (HB.out.cell (World.block_lt_of_cell? w _ hx262_0)).trans hx262_0; replace hx262_0 := (cell_far (p := ⟨gb261, 0, none⟩) (by first | (rw [add_block]; exact hn262_0) | (show (Addr.add _ _).block ≠ _; rw [add_block]; exact hn262_0) | exact hn262_0) (.int .i64 ((rd_T37 l0 x19_2).f0))).trans hx262_0; replace hx262_0 := (cell_far (p := ⟨gb261, 1, none⟩) (by first | (rw [add_block]; exact hn262_1) | (show (Addr.add _ _).block ≠ _; rw [add_block]; exact hn262_1) | exact hn262_1) (.int .i64 ((rd_T37 l0 x19_2).f1))).trans hx262_0; replace hx262_0 := (cell_far (p := ⟨gb261, 2, none⟩) (by first | (rw [add_block]; exact hn262_2) | (show (Addr.add _ _).block ≠ _; rw [add_block]; exact hn262_2) | exact hn262_2) (.string ((rd_T37 l0 x19_2).f2))).trans hx262_0; (try have hy262_0 := fun (n_ : Nat) => (show (((((w13.drewN n_).setCell ⟨gb261, 0, none⟩ (.int .i64 ((rd_T37 l0 x19_2).f0))).setCell ⟨gb261, 1, none⟩ (.int .i64 ((rd_T37 l0 x19_2).f1))).setCell ⟨gb261, 2, none⟩ (.string ((rd_T37 l0 x19_2).f2)))).cell? _ = some _ from hx262_0)); clear hn262_0; clear hn262_1; clear hn262_2; replace p262 := eq_true p262; replace q262 := eq_true q262)))
                      go_roundg k2
                      case measure => have := HJ2.out; have := HK2.out; omega
                      case rel => exact ⟨(wrap64 (x19_2 + 1)), (by first | rfl | (simp; done) | (simp [*]; done)), H', ⟨by have := HJ2.out; have := HK2.out; omega⟩, ⟨by repeat (first | (with_reducible first | exact HB.out | apply below_alloc | apply pw_below_drewN | apply below_drew1 | refine below_set ?_ GE261.out) | exact HB.out)⟩⟩
                    · rw [if_neg c12] at H
                      have c12b0 : (((rd_T37 l0 x19_2).f0) == (rd l1 x19_2)) = false := beq_eq_false_iff_ne.mpr c12
                      have c12b1 : (((rd_T37 l0 x19_2).f0) != (rd l1 x19_2)) = true := bne_iff_ne.mpr c12
                      obtain rfl := Option.some.inj H
                      have p260 : 0 ≤ (x19_2 : Int) := of_decide_eq_true (by first | (with_reducible assumption) | assumption)
                      have q260 : x19_2 < (l0.length : Int) := of_decide_eq_true (by first | (with_reducible assumption) | assumption)
                      obtain ⟨ad260, e260, hx260_0, hx260_1, hx260_2⟩ := at_T37 HR0.out x19_2 p260 q260
                      cases e260
                      replace hx260_0 := (HB.out.cell (World.block_lt_of_cell? w _ hx260_0)).trans hx260_0
                      replace hx260_1 := (HB.out.cell (World.block_lt_of_cell? w _ hx260_1)).trans hx260_1
                      replace hx260_2 := (HB.out.cell (World.block_lt_of_cell? w _ hx260_2)).trans hx260_2
                      replace p260 := eq_true p260
                      replace q260 := eq_true q260
                      go_wp2_with (first | ((with_reducible refine gate_dst (N := 6) rfl ?_); refine box_event ?hg (N := 6) ?hd (cs := #[.int .i64 0, .int .i64 0, .string (⟨#[]⟩ : ByteArray)]) (t := 37) ?hr ?_; (case hd => rfl); (case hg => rfl); (case hr => first | (go_simp; done) | (go_simp; rfl)); intro gb261 hg w15 hbox hb; have n0_ := Aside0.mk (below_step (by repeat (first | (with_reducible first | exact HB.out | apply below_alloc | apply pw_below_drewN | apply below_drew1) | exact HB.out)) hb); have n1_ := Aside0.mk (hbox); have n2_ := Aside0.mk ((by rw [hg]; exact (below_size (by repeat (first | (with_reducible first | exact HB.out | apply below_alloc | apply pw_below_drewN | apply below_drew1) | exact HB.out))) : w.heap.size ≤ gb261)); have n3_ := Aside0.mk ((by rw [hg]; exact (below_size (by repeat (first | (with_reducible first | exact HB.out | apply below_alloc | apply pw_below_drewN | apply below_drew1) | exact HB.out))) : w.heap.size ≤ gb261)); clear HB; have HB := n0_; have BK261 := n1_; have GW261 := n2_; have GE261 := n3_; clear n0_ n1_ n2_ n3_; clear hb hbox hg; have hcz16_0 : w15.cell? ⟨gb261, 0, none⟩ = some (.int .i64 0) := (blk_cell BK261.out 0).trans rfl; have hcz16_1 : w15.cell? ⟨gb261, 1, none⟩ = some (.int .i64 0) := (blk_cell BK261.out 1).trans rfl; have hcz16_2 : w15.cell? ⟨gb261, 2, none⟩ = some (.string (⟨#[]⟩ : ByteArray)) := (blk_cell BK261.out 2).trans rfl; have hfz16_0 := blk_frozen BK261.out 0; have hfz16_1 := blk_frozen BK261.out 1; have hfz16_2 := blk_frozen BK261.out 2; have p262 : 0 ≤ (x19_2 : Int) := of_decide_eq_true (by first | (with_reducible assumption) | assumption); have q262 : x19_2 < (l1.length : Int) := of_decide_eq_true (by first | (with_reducible assumption) | assumption); obtain ⟨ad262, e262, hx262_0⟩ := Kd.at_int HR1.out x19_2 p262 q262; cases e262; have hn262_0 : ad262.block ≠ gb261 := Nat.ne_of_lt (Nat.lt_of_lt_of_le (by have := World.block_lt_of_cell? _ _ hx262_0; first | rwa [add_block] at this | exact this) GW261.out); have hn262_1 : ad262.block ≠ gb261 := Nat.ne_of_lt (Nat.lt_of_lt_of_le (by have := World.block_lt_of_cell? _ _ hx262_0; first | rwa [add_block] at this | exact this) GW261.out); have hn262_2 : ad262.block ≠ gb261 := Nat.ne_of_lt (Nat.lt_of_lt_of_le (by have := World.block_lt_of_cell? _ _ hx262_0; first | rwa [add_block] at this | exact this) GW261.out); replace hx262_0 := (HB.out.cell (World.block_lt_of_cell? w _ hx262_0)).trans hx262_0; replace hx262_0 := (cell_far (p := ⟨gb261, 0, none⟩) (by first | (rw [add_block]; exact hn262_0) | (show (Addr.add _ _).block ≠ _; rw [add_block]; exact hn262_0) | exact hn262_0) (.int .i64 ((rd_T37 l0 x19_2).f0))).trans hx262_0; replace hx262_0 := (cell_far (p := ⟨gb261, 1, none⟩) (by first | (rw [add_block]; exact hn262_1) | (show (Addr.add _ _).block ≠ _; rw [add_block]; exact hn262_1) | exact hn262_1) (.int .i64 ((rd_T37 l0 x19_2).f1))).trans hx262_0; replace hx262_0 := (cell_far (p := ⟨gb261, 2, none⟩) (by first | (rw [add_block]; exact hn262_2) | (show (Addr.add _ _).block ≠ _; rw [add_block]; exact hn262_2) | exact hn262_2) (.string ((rd_T37 l0 x19_2).f2))).trans hx262_0; (try have hy262_0 := fun (n_ : Nat) => (show (((((w15.drewN n_).setCell ⟨gb261, 0, none⟩ (.int .i64 ((rd_T37 l0 x19_2).f0))).setCell ⟨gb261, 1, none⟩ (.int .i64 ((rd_T37 l0 x19_2).f1))).setCell ⟨gb261, 2, none⟩ (.string ((rd_T37 l0 x19_2).f2)))).cell? _ = some _ from hx262_0)); clear hn262_0; clear hn262_1; clear hn262_2; replace p262 := eq_true p262; replace q262 := eq_true q262))
                      repeat (go_quiet (first | ((with_reducible refine gate_dst (N := 6) rfl ?_); refine box_event ?hg (N := 6) ?hd (cs := #[.int .i64 0, .int .i64 0, .string (⟨#[]⟩ : ByteArray)]) (t := 37) ?hr ?_; (case hd => rfl); (case hg => rfl); (case hr => first | (go_simp; done) | (go_simp; rfl)); intro gb261 hg w15 hbox hb; have n0_ := Aside0.mk (below_step (by repeat (first | (with_reducible first | exact HB.out | apply below_alloc | apply pw_below_drewN | apply below_drew1) | exact HB.out)) hb); have n1_ := Aside0.mk (hbox); have n2_ := Aside0.mk ((by rw [hg]; exact (below_size (by repeat (first | (with_reducible first | exact HB.out | apply below_alloc | apply pw_below_drewN | apply below_drew1) | exact HB.out))) : w.heap.size ≤ gb261)); have n3_ := Aside0.mk ((by rw [hg]; exact (below_size (by repeat (first | (with_reducible first | exact HB.out | apply below_alloc | apply pw_below_drewN | apply below_drew1) | exact HB.out))) : w.heap.size ≤ gb261)); clear HB; have HB := n0_; have BK261 := n1_; have GW261 := n2_; have GE261 := n3_; clear n0_ n1_ n2_ n3_; clear hb hbox hg; have hcz16_0 : w15.cell? ⟨gb261, 0, none⟩ = some (.int .i64 0) := (blk_cell BK261.out 0).trans rfl; have hcz16_1 : w15.cell? ⟨gb261, 1, none⟩ = some (.int .i64 0) := (blk_cell BK261.out 1).trans rfl; have hcz16_2 : w15.cell? ⟨gb261, 2, none⟩ = some (.string (⟨#[]⟩ : ByteArray)) := (blk_cell BK261.out 2).trans rfl; have hfz16_0 := blk_frozen BK261.out 0; have hfz16_1 := blk_frozen BK261.out 1; have hfz16_2 := blk_frozen BK261.out 2; have p262 : 0 ≤ (x19_2 : Int) := of_decide_eq_true (by first | (with_reducible assumption) | assumption); have q262 : x19_2 < (l1.length : Int) := of_decide_eq_true (by first | (with_reducible assumption) | assumption); obtain ⟨ad262, e262, hx262_0⟩ := Kd.at_int HR1.out x19_2 p262 q262; cases e262; have hn262_0 : ad262.block ≠ gb261 := Nat.ne_of_lt (Nat.lt_of_lt_of_le (by have := World.block_lt_of_cell? _ _ hx262_0; first | rwa [add_block] at this | exact this) GW261.out); have hn262_1 : ad262.block ≠ gb261 := Nat.ne_of_lt (Nat.lt_of_lt_of_le (by have := World.block_lt_of_cell? _ _ hx262_0; first | rwa [add_block] at this | exact this) GW261.out); have hn262_2 : ad262.block ≠ gb261 := Nat.ne_of_lt (Nat.lt_of_lt_of_le (by have := World.block_lt_of_cell? _ _ hx262_0; first | rwa [add_block] at this | exact this) GW261.out); replace hx262_0 := (HB.out.cell (World.block_lt_of_cell? w _ hx262_0)).trans hx262_0; replace hx262_0 := (cell_far (p := ⟨gb261, 0, none⟩) (by first | (rw [add_block]; exact hn262_0) | (show (Addr.add _ _).block ≠ _; rw [add_block]; exact hn262_0) | exact hn262_0) (.int .i64 ((rd_T37 l0 x19_2).f0))).trans hx262_0; replace hx262_0 := (cell_far (p := ⟨gb261, 1, none⟩) (by first | (rw [add_block]; exact hn262_1) | (show (Addr.add _ _).block ≠ _; rw [add_block]; exact hn262_1) | exact hn262_1) (.int .i64 ((rd_T37 l0 x19_2).f1))).trans hx262_0; replace hx262_0 := (cell_far (p := ⟨gb261, 2, none⟩) (by first | (rw [add_block]; exact hn262_2) | (show (Addr.add _ _).block ≠ _; rw [add_block]; exact hn262_2) | exact hn262_2) (.string ((rd_T37 l0 x19_2).f2))).trans hx262_0; (try have hy262_0 := fun (n_ : Nat) => (show (((((w15.drewN n_).setCell ⟨gb261, 0, none⟩ (.int .i64 ((rd_T37 l0 x19_2).f0))).setCell ⟨gb261, 1, none⟩ (.int .i64 ((rd_T37 l0 x19_2).f1))).setCell ⟨gb261, 2, none⟩ (.string ((rd_T37 l0 x19_2).f2)))).cell? _ = some _ from hx262_0)); clear hn262_0; clear hn262_1; clear hn262_2; replace p262 := eq_true p262; replace q262 := eq_true q262)); try go_wp2_with (first | ((with_reducible refine gate_dst (N := 6) rfl ?_); refine box_event ?hg (N := 6) ?hd (cs := #[.int .i64 0, .int .i64 0, .string (⟨#[]⟩ : ByteArray)]) (t := 37) ?hr ?_; (case hd => rfl); (case hg => rfl); (case hr => first | (go_simp; done) | (go_simp; rfl)); intro gb261 hg w15 hbox hb; have n0_ := Aside0.mk (below_step (by repeat (first | (with_reducible first | exact HB.out | apply below_alloc | apply pw_below_drewN | apply below_drew1) | exact HB.out)) hb); have n1_ := Aside0.mk (hbox); have n2_ := Aside0.mk ((by rw [hg]; exact (below_size (by repeat (first | (with_reducible first | exact HB.out | apply below_alloc | apply pw_below_drewN | apply below_drew1) | exact HB.out))) : w.heap.size ≤ gb261)); have n3_ := Aside0.mk ((by rw [hg]; exact (below_size (by repeat (first | (with_reducible first | exact HB.out | apply below_alloc | apply pw_below_drewN | apply below_drew1) | exact HB.out))) : w.heap.size ≤ gb261)); clear HB; have HB := n0_; have BK261 := n1_; have GW261 := n2_; have GE261 := n3_; clear n0_ n1_ n2_ n3_; clear hb hbox hg; have hcz16_0 : w15.cell? ⟨gb261, 0, none⟩ = some (.int .i64 0) := (blk_cell BK261.out 0).trans rfl; have hcz16_1 : w15.cell? ⟨gb261, 1, none⟩ = some (.int .i64 0) := (blk_cell BK261.out 1).trans rfl; have hcz16_2 : w15.cell? ⟨gb261, 2, none⟩ = some (.string (⟨#[]⟩ : ByteArray)) := (blk_cell BK261.out 2).trans rfl; have hfz16_0 := blk_frozen BK261.out 0; have hfz16_1 := blk_frozen BK261.out 1; have hfz16_2 := blk_frozen BK261.out 2; have p262 : 0 ≤ (x19_2 : Int) := of_decide_eq_true (by first | (with_reducible assumption) | assumption); have q262 : x19_2 < (l1.length : Int) := of_decide_eq_true (by first | (with_reducible assumption) | assumption); obtain ⟨ad262, e262, hx262_0⟩ := Kd.at_int HR1.out x19_2 p262 q262; cases e262; have hn262_0 : ad262.block ≠ gb261 := Nat.ne_of_lt (Nat.lt_of_lt_of_le (by have := World.block_lt_of_cell? _ _ hx262_0; first | rwa [add_block] at this | exact this) GW261.out); have hn262_1 : ad262.block ≠ gb261 := Nat.ne_of_lt (Nat.lt_of_lt_of_le (by have := World.block_lt_of_cell? _ _ hx262_0; first | rwa [add_block] at this | exact this) GW261.out); have hn262_2 : ad262.block ≠ gb261 := Nat.ne_of_lt (Nat.lt_of_lt_of_le (by have := World.block_lt_of_cell? _ _ hx262_0; first | rwa [add_block] at this | exact this) GW261.out); replace hx262_0 := (HB.out.cell (World.block_lt_of_cell? w _ hx262_0)).trans hx262_0; replace hx262_0 := (cell_far (p := ⟨gb261, 0, none⟩) (by first | (rw [add_block]; exact hn262_0) | (show (Addr.add _ _).block ≠ _; rw [add_block]; exact hn262_0) | exact hn262_0) (.int .i64 ((rd_T37 l0 x19_2).f0))).trans hx262_0; replace hx262_0 := (cell_far (p := ⟨gb261, 1, none⟩) (by first | (rw [add_block]; exact hn262_1) | (show (Addr.add _ _).block ≠ _; rw [add_block]; exact hn262_1) | exact hn262_1) (.int .i64 ((rd_T37 l0 x19_2).f1))).trans hx262_0; replace hx262_0 := (cell_far (p := ⟨gb261, 2, none⟩) (by first | (rw [add_block]; exact hn262_2) | (show (Addr.add _ _).block ≠ _; rw [add_block]; exact hn262_2) | exact hn262_2) (.string ((rd_T37 l0 x19_2).f2))).trans hx262_0; (try have hy262_0 := fun (n_ : Nat) => (show (((((w15.drewN n_).setCell ⟨gb261, 0, none⟩ (.int .i64 ((rd_T37 l0 x19_2).f0))).setCell ⟨gb261, 1, none⟩ (.int .i64 ((rd_T37 l0 x19_2).f1))).setCell ⟨gb261, 2, none⟩ (.string ((rd_T37 l0 x19_2).f2)))).cell? _ = some _ from hx262_0)); clear hn262_0; clear hn262_1; clear hn262_2; replace p262 := eq_true p262; replace q262 := eq_true q262)))
                      go_ret
                      exact ⟨by first | rfl | (simp [errW_none, errW_some] <;> rfl) | (simp [*, errW_none, errW_some] <;> rfl), by repeat (first | (with_reducible first | exact HB.out | apply below_alloc | apply pw_below_drewN | apply below_drew1 | refine below_set ?_ GE261.out) | exact HB.out)⟩
                  · rw [if_neg c11] at H
                    exact absurd H (by simp)
                · rw [if_neg c10] at H
                  exact absurd H (by simp)
              · rw [if_neg c9] at H
                exact absurd H (by simp)
            · rw [if_neg c8] at H
              have c8b0 : decide (x19_2 < (l0.length : Int)) = false := decide_eq_false c8
              clear c8
              obtain rfl := Option.some.inj H
              go_wp2
              repeat (go_quiet (fail); try go_wp2)
              go_ret
              exact ⟨by first | rfl | (simp [errW_none, errW_some] <;> rfl) | (simp [*, errW_none, errW_some] <;> rfl), by repeat (first | (with_reducible first | exact HB.out | apply below_alloc | apply pw_below_drewN | apply below_drew1) | exact HB.out)⟩

end Go.Proofs.YtblaibigjhlblaaDoor.Q
end
