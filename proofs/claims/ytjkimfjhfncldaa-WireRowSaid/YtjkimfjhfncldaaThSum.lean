import Derived.Test.YtjkimfjhfncldaaThCrc
namespace Go.Proofs.Ytjkimfjhfncldaa.Th
open Go.RowKit Go.Proofs.Ytjkimfjhfncldaa.Q Go.Proofs.YtjkimfjhfncldaaW.PrintWords Go.Proofs.YtjkimfjhfncldaaW.PrintLast
theorem w64 {n : Int} (h1 : -9223372036854775808 ≤ n) (h2 : n ≤ 9223372036854775807) : wrap64 n = n := by unfold wrap64; omega
theorem wrap_u32 (n : Int) : IntKind.u32.wrap n = n % 4294967296 := by simp [IntKind.wrap, IntKind.bits, IntKind.signed]
theorem bits_xor_u32_nat (a b : Nat) (ha : a < 4294967296) (hb : b < 4294967296) : Go.bits .xor .u32 (a : Int) (b : Int) = ((a ^^^ b : Nat) : Int) := by
  have hx : a ^^^ b < 2 ^ 32 := Nat.xor_lt_two_pow (by omega) (by omega)
  have h1 : (BitVec.ofInt 32 (a : Int)).toNat = a := by
    rw [BitVec.ofInt_natCast, BitVec.toNat_ofNat]; exact Nat.mod_eq_of_lt (by omega)
  have h2 : (BitVec.ofInt 32 (b : Int)).toNat = b := by
    rw [BitVec.ofInt_natCast, BitVec.toNat_ofNat]; exact Nat.mod_eq_of_lt (by omega)
  show IntKind.u32.wrap ((BitVec.ofInt 32 (a : Int) ^^^ BitVec.ofInt 32 (b : Int)).toNat : Int) = _
  rw [BitVec.toNat_xor, h1, h2, wrap_u32]
  omega
theorem bits_and_u32 (a b : Nat) (ha : a < 4294967296) (hb : b < 4294967296) : Go.bits .and .u32 (a : Int) (b : Int) = ((a &&& b : Nat) : Int) := by
  have hx : a &&& b < 2 ^ 32 := Nat.lt_of_le_of_lt Nat.and_le_left (by omega)
  have h1 : (BitVec.ofInt 32 (a : Int)).toNat = a := by
    rw [BitVec.ofInt_natCast, BitVec.toNat_ofNat]; exact Nat.mod_eq_of_lt (by omega)
  have h2 : (BitVec.ofInt 32 (b : Int)).toNat = b := by
    rw [BitVec.ofInt_natCast, BitVec.toNat_ofNat]; exact Nat.mod_eq_of_lt (by omega)
  show IntKind.u32.wrap ((BitVec.ofInt 32 (a : Int) &&& BitVec.ofInt 32 (b : Int)).toNat : Int) = _
  rw [BitVec.toNat_and, h1, h2, wrap_u32]
  omega
theorem step_eq (n : Nat) (hn : n < 4294967296) : Go.bits .xor .u32 ((n : Int) / 2) (Go.bits .and .u32 3988292384 ((-(Go.bits .and .u32 (n : Int) 1)) % 4294967296)) = (stp n : Int) := by
  have h1 : Go.bits .and .u32 (n : Int) 1 = ((n % 2 : Nat) : Int) := by
    have := bits_and_u32 n 1 hn (by omega)
    rw [Nat.and_one_is_mod] at this
    exact this
  rw [h1]
  have hd : ((n : Int) / 2) = ((n / 2 : Nat) : Int) := by omega
  rw [hd]
  unfold stp
  by_cases e : n % 2 = 1
  · rw [if_pos e, e]
    have h2 : (-((1 : Nat) : Int)) % 4294967296 = ((4294967295 : Nat) : Int) := by decide
    rw [h2]
    have h3 := bits_and_u32 3988292384 4294967295 (by omega) (by omega)
    rw [show (3988292384 &&& 4294967295 : Nat) = poly by decide] at h3
    have h4 : Go.bits .and .u32 3988292384 ((4294967295 : Nat) : Int) = (poly : Int) := h3
    rw [h4]
    exact bits_xor_u32_nat _ _ (by omega) (by decide)
  · have e0 : n % 2 = 0 := by omega
    rw [if_neg e, e0]
    have h3 := bits_and_u32 3988292384 0 (by omega) (by omega)
    have h2 : (-((0 : Nat) : Int)) % 4294967296 = ((0 : Nat) : Int) := by decide
    rw [h2]
    have h4 : Go.bits .and .u32 3988292384 ((0 : Nat) : Int) = ((0 : Nat) : Int) := by simpa using h3
    rw [h4]
    exact bits_xor_u32_nat _ _ (by omega) (by decide)
theorem not_eq (n : Nat) (hn : n < 4294967296) : Go.bits .xor .u32 (-1) (n : Int) = ((4294967295 ^^^ n : Nat) : Int) := by
  have hx : 4294967295 ^^^ n < 2 ^ 32 := Nat.xor_lt_two_pow (by omega) (by omega)
  have h2 : (BitVec.ofInt 32 (n : Int)).toNat = n := by
    rw [BitVec.ofInt_natCast, BitVec.toNat_ofNat]; exact Nat.mod_eq_of_lt (by omega)
  have h1 : (BitVec.ofInt 32 (-1 : Int)).toNat = 4294967295 := by decide
  show IntKind.u32.wrap ((BitVec.ofInt 32 (-1 : Int) ^^^ BitVec.ofInt 32 (n : Int)).toNat : Int) = _
  rw [BitVec.toNat_xor, h1, h2, wrap_u32]
  omega
/-- The sum, as a number. -/
def sumN (l : List Int) : Nat := 4294967295 ^^^ crc 4294967295 l
theorem sumN_lt {l : List Int} (hl : ∀ x ∈ l, IsB x) : sumN l < 4294967296 := Nat.xor_lt_two_pow (n := 32) (by omega) (crc_lt l (by omega) hl)
theorem sumN_inj {l m : List Int} (h : sumN l = sumN m) : crc 4294967295 l = crc 4294967295 m := by
  have := congrArg (fun z => 4294967295 ^^^ z) h
  simpa [sumN, ← Nat.xor_assoc] using this
theorem l1_run (l : List Int) (x7 x8 : Int) : ∀ (j k n : Nat), n < 4294967296 → j ≤ 8 → wire_Sum.l1 (k + j + 1) (n : Int) l x7 x8 ((8 - j : Nat) : Int) = wire_Sum.l0 k (stps j n : Int) l x7 (wrap64 (x8 + 1))
  | 0, k, n, hn, _ => by
    rw [wire_Sum.l1]
    simp [stps]
  | j + 1, k, n, hn, hj => by
    rw [wire_Sum.l1, if_pos (by omega), step_eq n hn]
    have e : wrap64 (((8 - (j + 1) : Nat) : Int) + 1) = ((8 - j : Nat) : Int) := by
      have : (((8 - (j + 1) : Nat) : Int) + 1) = ((8 - j : Nat) : Int) := by omega
      rw [this]
      exact w64 (by omega) (by omega)
    rw [e]
    exact l1_run l x7 x8 j k (stp n) (stp_lt hn) (by omega)
theorem rd_getElem (l : List Int) (i : Nat) (hi : i < l.length) : rd l (i : Int) = l[i] := by
  simp [rd, List.getD_eq_getElem?_getD, hi]
theorem l0_run (l : List Int) (hl : ∀ x ∈ l, IsB x) (hm : l.length < 9223372036854775807) : ∀ (m i k c : Nat), i + m = l.length → c < 4294967296 → wire_Sum.l0 (k + 10 * m + 1) (c : Int) l (l.length : Int) (i : Int) = some ((4294967295 ^^^ crc c (l.drop i) : Nat) : Int)
  | 0, i, k, c, hi, hc => by
    rw [wire_Sum.l0, if_neg (by omega), not_eq c hc, List.drop_eq_nil_of_le (by omega)]
    rfl
  | m + 1, i, k, c, hi, hc => by
    have hil : i < l.length := by omega
    have hb : IsB l[i] := hl _ (List.getElem_mem hil)
    rw [show k + 10 * (m + 1) + 1 = ((k + 10 * m + 1) + 8 + 1) + 1 by omega, wire_Sum.l0, if_pos (by omega), if_pos (by omega), if_pos (by omega), rd_getElem l i hil]
    have h1 : l[i] % 4294967296 = ((l[i].toNat : Nat) : Int) := by have := hb.1; have := hb.2; omega
    rw [h1, bits_xor_u32_nat c _ hc (by have := hb.2; omega)]
    have h2 := l1_run l (l.length : Int) (i : Int) 8 (k + 10 * m + 1) (c ^^^ l[i].toNat) (xor_lt hc hb) (Nat.le_refl 8)
    have h3 : ((8 - 8 : Nat) : Int) = 0 := by decide
    rw [h3] at h2
    rw [h2]
    have e : wrap64 ((i : Int) + 1) = ((i + 1 : Nat) : Int) := by
      have : ((i : Int) + 1) = ((i + 1 : Nat) : Int) := by omega
      rw [this]
      exact w64 (by omega) (by omega)
    rw [e, l0_run l hl hm m (i + 1) k (stps 8 (c ^^^ l[i].toNat)) (by omega) (byt_lt hc hb)]
    rw [List.drop_eq_getElem_cons hil]
    rfl
theorem Sum_eq (l : List Int) (hl : ∀ x ∈ l, IsB x) (hm : l.length < 9223372036854775807) (k : Nat) : wire_Sum.f (k + 10 * l.length + 1) l = some (sumN l : Int) := by
  have := l0_run l hl hm l.length 0 k 4294967295 (by omega) (by omega)
  exact this
end Go.Proofs.Ytjkimfjhfncldaa.Th
