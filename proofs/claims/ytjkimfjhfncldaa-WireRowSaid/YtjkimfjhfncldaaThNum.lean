import Derived.Test.YtjkimfjhfncldaaThFrm
import Derived.Test.YtjkimfjhfncldaaQf47
import Derived.Test.YtjkimfjhfncldaaQf49
import Derived.Laws.Bits64b
namespace Go.Proofs.Ytjkimfjhfncldaa.Th
open Go.RowKit Go.Proofs.Ytjkimfjhfncldaa.Q Go.Proofs.YtjkimfjhfncldaaW.PrintWords Go.Proofs.YtjkimfjhfncldaaW.PrintLast
def numN (n : Nat) (l : List Int) : Nat := l.foldl (fun n b => n * 256 + b.toNat) n
theorem or_byte (n b : Nat) (hb : b < 256) : (n * 256) ||| b = n * 256 + b := by
  have h : n * 256 = n <<< 8 := by rw [Nat.shiftLeft_eq]
  rw [h]
  exact (Nat.shiftLeft_add_eq_or_of_lt (by omega) n).symm
set_option maxRecDepth 10000 in
theorem num_step (n : Nat) (b : Int) (hb : IsB b) (hn : n * 256 + 255 < 18446744073709551616) : Go.bits .or .u64 (IntKind.u64.wrap ((n : Int) * 256)) (IntKind.u64.wrap b) = ((n * 256 + b.toNat : Nat) : Int) := by
  have h0 := hb.1
  have h1 := hb.2
  have e1 : IntKind.u64.wrap ((n : Int) * 256) = ((n * 256 : Nat) : Int) := by rw [wrap_u64]; omega
  have e2 : IntKind.u64.wrap b = ((b.toNat : Nat) : Int) := by rw [wrap_u64]; omega
  rw [e1, e2, bits_or_u64_nat _ _ (by omega) (by omega), or_byte _ _ (by omega)]
theorem num_run (l : List Int) (hl : ∀ x ∈ l, IsB x) (hm : l.length < 9223372036854775807) : ∀ (m i k n : Nat), i + m = l.length → (n + 1) * 256 ^ m ≤ 18446744073709551616 → wire_number.l0 (k + m + 1) (n : Int) l (l.length : Int) (i : Int) = some ((numN n (l.drop i) : Nat) : Int)
  | 0, i, k, n, hi, hn => by
    rw [wire_number.l0, if_neg (by omega), List.drop_eq_nil_of_le (by omega)]
    rfl
  | m + 1, i, k, n, hi, hn => by
    have hil : i < l.length := by omega
    have hb : IsB l[i] := hl _ (List.getElem_mem hil)
    have hp : 0 < 256 ^ m := Nat.pow_pos (by omega)
    have hn1 : (n + 1) * 256 * 256 ^ m ≤ 18446744073709551616 := by rw [Nat.mul_assoc, Nat.mul_comm 256, ← Nat.pow_succ]; exact hn
    have hn2 : (n + 1) * 256 ≤ 18446744073709551616 := Nat.le_trans (Nat.le_mul_of_pos_right _ (by omega)) hn1
    rw [show k + (m + 1) + 1 = (k + m + 1) + 1 by omega, wire_number.l0, if_pos (by omega), if_pos (by omega), if_pos (by omega), rd_getElem l i hil, num_step n _ hb (by omega)]
    have e : wrap64 ((i : Int) + 1) = ((i + 1 : Nat) : Int) := by rw [w64 (by omega) (by omega)]; omega
    have hbt : l[i].toNat ≤ 255 := by have := hb.2; omega
    rw [e, num_run l hl hm m (i + 1) k (n * 256 + l[i].toNat) (by omega) (Nat.le_trans (Nat.mul_le_mul_right _ (by omega)) hn1), List.drop_eq_getElem_cons hil]
    rfl
theorem number_eq (l : List Int) (hl : ∀ x ∈ l, IsB x) (h4 : l.length ≤ 8) (k : Nat) : wire_number.f (k + l.length + 1) l = some (numN 0 l : Int) := by
  have hp : 256 ^ l.length ≤ 256 ^ 8 := Nat.pow_le_pow_right (by omega) h4
  exact num_run l hl (by omega) l.length 0 k 0 (by omega) (by omega)
theorem numN_big4 (n : Nat) (hn : n < 4294967296) : numN 0 (bigL (n : Int) 4) = n := by
  rw [big4]
  simp only [numN, List.foldl_cons, List.foldl_nil]
  omega
theorem numN_four (a b c d : Int) : numN 0 [a, b, c, d] = ((a.toNat * 256 + b.toNat) * 256 + c.toNat) * 256 + d.toNat := by
  simp [numN]
/-- Four bytes are their number's. -/
theorem four_big (l : List Int) (hl : ∀ x ∈ l, IsB x) (h4 : l.length = 4) : numN 0 l < 4294967296 ∧ l = bigL ((numN 0 l : Nat) : Int) 4 := by
  match l, h4 with
  | [a, b, c, d], _ =>
    have ha := hl a (by simp)
    have hb := hl b (by simp)
    have hc := hl c (by simp)
    have hd := hl d (by simp)
    unfold IsB at ha hb hc hd
    rw [numN_four, big4]
    refine ⟨by omega, ?_⟩
    simp only [List.cons.injEq, and_true]
    omega
theorem eq_run (l m : List Int) (hm : l.length = m.length) (hx : l.length < 9223372036854775807) : ∀ (j i k : Nat), i + j = l.length → slices_Equal_byte_byte.l0 (k + j + 1) l m (l.length : Int) (i : Int) = some (decide (l.drop i = m.drop i))
  | 0, i, k, hi => by
    rw [slices_Equal_byte_byte.l0, if_neg (by omega), List.drop_eq_nil_of_le (by omega), List.drop_eq_nil_of_le (by omega)]
    rfl
  | j + 1, i, k, hi => by
    have h1 : i < l.length := by omega
    have h2 : i < m.length := by omega
    rw [show k + (j + 1) + 1 = (k + j + 1) + 1 by omega, slices_Equal_byte_byte.l0, if_pos (by omega), if_pos (by omega), if_pos (by omega), if_pos (by omega), rd_getElem l i h1, rd_getElem m i h2]
    have e : wrap64 ((i : Int) + 1) = ((i + 1 : Nat) : Int) := by rw [w64 (by omega) (by omega)]; omega
    rw [e, eq_run l m hm hx j (i + 1) k (by omega), List.drop_eq_getElem_cons h1, List.drop_eq_getElem_cons h2]
    by_cases e1 : l[i] = m[i]
    · rw [if_pos e1, e1]; simp only [List.cons.injEq, true_and]
    · rw [if_neg e1]; simp only [List.cons.injEq, e1, false_and, decide_false]
theorem equal_eq (l m : List Int) (hx : l.length < 9223372036854775807) (k : Nat) : slices_Equal_byte_byte.f (k + l.length + 1) l m = some (decide (l = m)) := by
  unfold slices_Equal_byte_byte.f
  by_cases e : (l.length : Int) = (m.length : Int)
  · rw [if_pos e]
    exact eq_run l m (by omega) hx l.length 0 k (by omega)
  · rw [if_neg e, decide_eq_false (by rintro rfl; exact e rfl)]
end Go.Proofs.Ytjkimfjhfncldaa.Th
