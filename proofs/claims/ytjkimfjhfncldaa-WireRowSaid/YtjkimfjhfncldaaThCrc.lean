import Derived.Test.YtjkimfjhfncldaaQf15
import Derived.Shelf.Spec.TrailingZeros
namespace Go.Proofs.Ytjkimfjhfncldaa.Th
open Go.RowKit Go.Proofs.Ytjkimfjhfncldaa.Q Go.Proofs.YtjkimfjhfncldaaW.PrintWords Go.Proofs.YtjkimfjhfncldaaW.PrintLast

/-! ### CRC-32 over natural numbers -/
def poly : Nat := 3988292384
def stp (n : Nat) : Nat := (n / 2) ^^^ (if n % 2 = 1 then poly else 0)
theorem stp_lt {n : Nat} (h : n < 4294967296) : stp n < 4294967296 := by
  unfold stp poly
  have : n / 2 < 2 ^ 32 := by omega
  exact Nat.xor_lt_two_pow (n := 32) this (by split <;> omega)
theorem stp_top {n : Nat} (h : n < 4294967296) : (stp n).testBit 31 = decide (n % 2 = 1) := by
  unfold stp
  rw [Nat.testBit_xor]
  have h1 : (n / 2).testBit 31 = false := Nat.testBit_lt_two_pow (by omega)
  rw [h1]
  by_cases e : n % 2 = 1
  · rw [if_pos e, decide_eq_true e]
    decide
  · rw [if_neg e, decide_eq_false e]
    decide
theorem stp_inj {m n : Nat} (hm : m < 4294967296) (hn : n < 4294967296) (h : stp m = stp n) : m = n := by
  have ht : decide (m % 2 = 1) = decide (n % 2 = 1) := by rw [← stp_top hm, ← stp_top hn, h]
  have h2 : m % 2 = n % 2 := by
    by_cases e : m % 2 = 1 <;> by_cases e' : n % 2 = 1 <;> simp [e, e'] at ht ⊢ <;> omega
  unfold stp at h
  rw [h2] at h
  have h3 : m / 2 = n / 2 := by
    have := congrArg (fun z => z ^^^ (if n % 2 = 1 then poly else 0)) h
    simpa [Nat.xor_assoc] using this
  omega
def stps : Nat → Nat → Nat
  | 0, n => n
  | k + 1, n => stps k (stp n)
theorem stps_lt : ∀ k {n : Nat}, n < 4294967296 → stps k n < 4294967296
  | 0, _, h => h
  | k + 1, _, h => stps_lt k (stp_lt h)
theorem stps_inj : ∀ k {m n : Nat}, m < 4294967296 → n < 4294967296 → stps k m = stps k n → m = n
  | 0, _, _, _, _, h => h
  | k + 1, _, _, hm, hn, h => stp_inj hm hn (stps_inj k (stp_lt hm) (stp_lt hn) h)
def byt (c : Nat) (b : Int) : Nat := stps 8 (c ^^^ b.toNat)
def IsB (b : Int) : Prop := 0 ≤ b ∧ b ≤ 255
theorem xor_lt {c : Nat} {b : Int} (hc : c < 4294967296) (hb : IsB b) : c ^^^ b.toNat < 4294967296 := Nat.xor_lt_two_pow (n := 32) hc (by have := hb.2; omega)
theorem byt_lt {c : Nat} {b : Int} (hc : c < 4294967296) (hb : IsB b) : byt c b < 4294967296 := stps_lt 8 (xor_lt hc hb)
theorem byt_inj {c d : Nat} {b : Int} (hc : c < 4294967296) (hd : d < 4294967296) (hb : IsB b) (h : byt c b = byt d b) : c = d := by
  have := stps_inj 8 (xor_lt hc hb) (xor_lt hd hb) h
  have := congrArg (fun z => z ^^^ b.toNat) this
  simpa [Nat.xor_assoc] using this
theorem byt_inj_b {c : Nat} {a b : Int} (hc : c < 4294967296) (ha : IsB a) (hb : IsB b) (h : byt c a = byt c b) : a = b := by
  have := stps_inj 8 (xor_lt hc ha) (xor_lt hc hb) h
  have := congrArg (fun z => c ^^^ z) this
  have h2 : a.toNat = b.toNat := by simpa [← Nat.xor_assoc] using this
  have := ha.1
  have := hb.1
  omega
def crc (c : Nat) (l : List Int) : Nat := l.foldl byt c
theorem crc_lt : ∀ (l : List Int) {c : Nat}, c < 4294967296 → (∀ x ∈ l, IsB x) → crc c l < 4294967296
  | [], _, h, _ => h
  | x :: l, _, h, hl => crc_lt l (byt_lt h (hl x (by simp))) (fun y hy => hl y (by simp [hy]))
theorem crc_inj : ∀ (l : List Int) {c d : Nat}, c < 4294967296 → d < 4294967296 → (∀ x ∈ l, IsB x) → crc c l = crc d l → c = d
  | [], _, _, _, _, _, h => h
  | x :: l, _, _, hc, hd, hl, h => byt_inj hc hd (hl x (by simp)) (crc_inj l (byt_lt hc (hl x (by simp))) (byt_lt hd (hl x (by simp))) (fun y hy => hl y (by simp [hy])) h)
theorem crc_append (c : Nat) (l m : List Int) : crc c (l ++ m) = crc (crc c l) m := List.foldl_append
/-- One byte that is another one: another sum. -/
theorem crc_set (l : List Int) (k : Nat) (hk : k < l.length) (b : Int) (c : Nat) (hc : c < 4294967296) (hl : ∀ x ∈ l, IsB x) (hb : IsB b) (hne : b ≠ l[k]) : crc c (l.set k b) ≠ crc c l := by
  intro h
  have e1 : l = l.take k ++ (l[k] :: l.drop (k + 1)) := by rw [List.getElem_cons_drop]; exact (List.take_append_drop k l).symm
  have e2 : l.set k b = l.take k ++ (b :: l.drop (k + 1)) := by rw [List.set_eq_take_append_cons_drop, if_pos hk]
  rw [e2] at h
  conv at h => rhs; rw [e1]
  rw [crc_append, crc_append] at h
  have ht : ∀ x ∈ l.take k, IsB x := fun x hx => hl x (List.mem_of_mem_take hx)
  have hd : ∀ x ∈ l.drop (k + 1), IsB x := fun x hx => hl x (List.mem_of_mem_drop hx)
  have hk' : IsB l[k] := hl _ (List.getElem_mem hk)
  have hc' := crc_lt _ hc ht
  exact hne (byt_inj_b hc' hb hk' (crc_inj _ (byt_lt hc' hb) (byt_lt hc' hk') hd h))
end Go.Proofs.Ytjkimfjhfncldaa.Th
