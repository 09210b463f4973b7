/- texts of one claim, merged: each in a section of its own -/
import Derived.Test.YtjkimfjhfncldaaMWireSums3
section
namespace Go.Proofs.Ytjkimfjhfncldaa.Th
open Go.RowKit Go.Proofs.Ytjkimfjhfncldaa.Q Go.Proofs.YtjkimfjhfncldaaW.PrintWords Go.Proofs.YtjkimfjhfncldaaW.PrintLast
theorem sh32 (n : Int) (k : Nat) (hk : k ≤ 31) : shr .u32 n (k : Int) = n / 2 ^ k := by
  unfold shr
  rw [Int.toNat_natCast, show IntKind.u32.bits = 32 from rfl, Nat.min_eq_left (by omega)]
theorem xor_half (n q : Nat) : (n ^^^ q) / 2 = n / 2 ^^^ q / 2 := by
  have := Nat.shiftRight_xor_distrib (a := n) (b := q) (i := 1)
  simpa [Nat.shiftRight_eq_div_pow] using this
/-- A step of the sum, the byte's bits taken in one by one. -/
theorem stp_xor (n q : Nat) : stp (n ^^^ q) = (if n % 2 ^^^ q % 2 = 1 then n / 2 ^^^ poly else n / 2) ^^^ q / 2 := by
  unfold stp
  rw [xor_half]
  have h : (n ^^^ q) % 2 = n % 2 ^^^ q % 2 := by
    have := Nat.xor_mod_two_pow (a := n) (b := q) (n := 1)
    simpa using this
  rw [h]
  split
  · rw [Nat.xor_assoc, Nat.xor_comm (q / 2), Nat.xor_assoc]
  · rw [Nat.xor_zero]
theorem bit_eq (n q : Nat) (hn : n < 4294967296) (hq : q < 4294967296) : Go.bits .xor .u32 (Go.bits .and .u32 (n : Int) 1) (Go.bits .and .u32 (q : Int) 1) = ((n % 2 ^^^ q % 2 : Nat) : Int) := by
  have h1 := bits_and_u32 n 1 hn (by omega)
  have h2 := bits_and_u32 q 1 hq (by omega)
  rw [Nat.and_one_is_mod] at h1 h2
  have h1' : Go.bits .and .u32 (n : Int) 1 = ((n % 2 : Nat) : Int) := h1
  have h2' : Go.bits .and .u32 (q : Int) 1 = ((q % 2 : Nat) : Int) := h2
  rw [h1', h2']
  exact bits_xor_u32_nat _ _ (by omega) (by omega)
theorem l1_end (k : Nat) (l : List Int) (x3 x4 x5 : Int) (h : ¬ x5 < 8) : weighhouseref01_Sum.l1 (k + 1) l x3 x4 x5 = weighhouseref01_Sum.l0 k l x3 (wrap64 (x4 + 1)) := by
  rw [weighhouseref01_Sum.l1, if_neg h]
theorem l1_step (k : Nat) (l : List Int) (x3 x4 x5 d y z : Int) (h : x5 < 8) (h0 : 0 ≤ x4) (h1 : x4 < (l.length : Int)) (hw : IntKind.u64.wrap x5 = x5) (hw0 : 0 ≤ x5) (hy : wrap64 (x5 + 1) = y) (hd : Go.bits .xor .u32 (Go.bits .and .u32 x3 1) (Go.bits .and .u32 (shr .u32 ((rd l x4) % 4294967296) x5) 1) = d) (hz : (if d = 1 then Go.bits .xor .u32 (x3 / 2) 3988292384 else x3 / 2) = z) : weighhouseref01_Sum.l1 (k + 1) l x3 x4 x5 = weighhouseref01_Sum.l1 k l z x4 y := by
  rw [weighhouseref01_Sum.l1, if_pos h, if_pos h0, if_pos h1, hw, if_pos hw0, hd, hy, ← hz]
  split <;> rfl
theorem bit_at (l : List Int) (i m : Nat) (hil : i < l.length) (hb : IsB l[i]) (hm : m ≤ 31) : shr .u32 ((rd l (i : Int)) % 4294967296) ((m : Nat) : Int) = ((l[i].toNat / 2 ^ m : Nat) : Int) := by
  rw [rd_getElem l i hil, sh32 _ _ hm]
  obtain ⟨x, hx⟩ : ∃ x, x = l[i] := ⟨_, rfl⟩
  rw [← hx] at hb ⊢
  have hlb := hb.1
  have hub := hb.2
  have h1 : x % 4294967296 = ((x.toNat : Nat) : Int) := by omega
  rw [h1]
  simp
theorem r1_step (l : List Int) (i : Nat) (hil : i < l.length) (hb : IsB l[i]) (m k n : Nat) (hn : n < 4294967296) (hm : m < 8) : ∃ z : Nat, z < 4294967296 ∧ stp (n ^^^ l[i].toNat / 2 ^ m) = z ^^^ l[i].toNat / 2 ^ (m + 1) ∧ weighhouseref01_Sum.l1 (k + 1) l (n : Int) (i : Int) ((m : Nat) : Int) = weighhouseref01_Sum.l1 k l (z : Int) (i : Int) (((m + 1 : Nat)) : Int) := by
  have hs := bit_at l i m hil hb (by omega)
  have hub : l[i].toNat ≤ 255 := by
    have h1 := hb.1
    have h2 := hb.2
    omega
  obtain ⟨x, hx⟩ : ∃ x, x = l[i].toNat := ⟨_, rfl⟩
  rw [← hx] at hs hub ⊢
  have hq : x / 2 ^ m < 4294967296 := Nat.lt_of_le_of_lt (Nat.div_le_self _ _) (by omega)
  have hqq : x / 2 ^ m / 2 = x / 2 ^ (m + 1) := by rw [Nat.div_div_eq_div_mul, Nat.pow_succ]
  obtain ⟨q, hqe⟩ : ∃ q, q = x / 2 ^ m := ⟨_, rfl⟩
  rw [← hqe] at hs hq hqq ⊢
  rw [stp_xor, hqq]
  have a1 : ((m : Nat) : Int) < 8 := by omega
  have a2 : 0 ≤ (i : Int) := by omega
  have a3 : (i : Int) < (l.length : Int) := by omega
  have a4 : 0 ≤ ((m : Nat) : Int) := by omega
  have a5 : n / 2 < 2 ^ 32 := by omega
  have hd : ((n : Int) / 2) = ((n / 2 : Nat) : Int) := by omega
  have hw : IntKind.u64.wrap ((m : Nat) : Int) = ((m : Nat) : Int) := by
    rw [show IntKind.u64.wrap ((m : Nat) : Int) = ((m : Nat) : Int) % 18446744073709551616 by simp [IntKind.wrap, IntKind.bits, IntKind.signed]]
    omega
  have hx1 : wrap64 (((m : Nat) : Int) + 1) = ((m + 1 : Nat) : Int) := by
    rw [w64 (by omega) (by omega)]
    omega
  have hp : Go.bits .xor .u32 ((n / 2 : Nat) : Int) 3988292384 = ((n / 2 ^^^ poly : Nat) : Int) := by
    have hpc : (3988292384 : Int) = ((poly : Nat) : Int) := by
      unfold poly
      omega
    rw [hpc]
    exact bits_xor_u32_nat (n / 2) poly a5 (by unfold poly; omega)
  have hbt := bit_eq n q hn hq
  obtain ⟨z, hz⟩ : ∃ z : Nat, z = (if n % 2 ^^^ q % 2 = 1 then n / 2 ^^^ poly else n / 2) := ⟨_, rfl⟩
  rw [← hz]
  refine ⟨z, ?_, rfl, ?_⟩
  · rw [hz]
    split
    · exact Nat.xor_lt_two_pow (n := 32) a5 (by unfold poly; omega)
    · exact a5
  · refine l1_step k l (n : Int) (i : Int) ((m : Nat) : Int) ((n % 2 ^^^ q % 2 : Nat) : Int) ((m + 1 : Nat) : Int) (z : Int) a1 a2 a3 hw a4 hx1 (by rw [hs]; exact hbt) ?_
    rw [hz, hd, hp]
    obtain ⟨d, hde⟩ : ∃ d, d = n % 2 ^^^ q % 2 := ⟨_, rfl⟩
    rw [← hde]
    clear hw hx1 hp hbt hs
    by_cases e : d = 1
    · rw [if_pos e, if_pos (by rw [e]; rfl)]
    · rw [if_neg e, if_neg (by omega)]
theorem r1_run (l : List Int) (i : Nat) (hil : i < l.length) (hb : IsB l[i]) (k : Nat) : ∀ (j m n : Nat), m + j = 8 → n < 4294967296 → weighhouseref01_Sum.l1 (k + j + 1) l (n : Int) (i : Int) ((m : Nat) : Int) = weighhouseref01_Sum.l0 k l ((stps j (n ^^^ l[i].toNat / 2 ^ m) : Nat) : Int) (wrap64 ((i : Int) + 1)) := by
  intro j
  induction j with
  | zero =>
    intro m n hm hn
    obtain rfl : m = 8 := by omega
    have h0 : l[i].toNat / 2 ^ 8 = 0 := Nat.div_eq_of_lt (by have := hb.2; omega)
    rw [h0, Nat.xor_zero, Nat.add_zero, l1_end k l _ _ _ (by omega), stps]
  | succ j ih =>
    intro m n hm hn
    obtain ⟨z, hz, hst, hl⟩ := r1_step l i hil hb m (k + j + 1) n hn (by omega)
    rw [show k + (j + 1) + 1 = (k + j + 1) + 1 by omega, hl, ih (m + 1) z (by omega) hz, stps, hst]
theorem r0_run (l : List Int) (hl : ∀ x ∈ l, IsB x) (hm : l.length < 9223372036854775807) : ∀ (m i k c : Nat), i + m = l.length → c < 4294967296 → weighhouseref01_Sum.l0 (k + 10 * m + 1) l (c : Int) (i : Int) = some ((4294967295 ^^^ crc c (l.drop i) : Nat) : Int)
  | 0, i, k, c, hi, hc => by
    rw [weighhouseref01_Sum.l0, if_neg (by omega), List.drop_eq_nil_of_le (by omega)]
    have := bits_xor_u32_nat c 4294967295 hc (by omega)
    rw [Nat.xor_comm] at this
    exact congrArg some this
  | m + 1, i, k, c, hi, hc => by
    have hil : i < l.length := by omega
    have hb : IsB l[i] := hl _ (List.getElem_mem hil)
    rw [show k + 10 * (m + 1) + 1 = ((k + 10 * m + 1) + 8 + 1) + 1 by omega, weighhouseref01_Sum.l0, if_pos (by omega)]
    have h2 := r1_run l i hil hb (k + 10 * m + 1) 8 0 c rfl hc
    rw [Nat.pow_zero, Nat.div_one] at h2
    have h3 : ((0 : Nat) : Int) = 0 := rfl
    rw [h3] at h2
    rw [h2]
    have e : wrap64 ((i : Int) + 1) = ((i + 1 : Nat) : Int) := by
      have : ((i : Int) + 1) = ((i + 1 : Nat) : Int) := by omega
      rw [this]
      exact w64 (by omega) (by omega)
    rw [e, r0_run l hl hm m (i + 1) k (stps 8 (c ^^^ l[i].toNat)) (by omega) (byt_lt hc hb)]
    rw [List.drop_eq_getElem_cons hil]
    rfl
/-- The document's sum is the same number. -/
theorem refSum_eq (l : List Int) (hl : ∀ x ∈ l, IsB x) (hm : l.length < 9223372036854775807) (k : Nat) : weighhouseref01_Sum.f (k + 10 * l.length + 1) l = some (sumN l : Int) := r0_run l hl hm l.length 0 k 4294967295 (by omega) (by omega)
end Go.Proofs.Ytjkimfjhfncldaa.Th
end

section
/- WireSums: the pure statement, proved: the sum and the frame are the document's -/
namespace Go.Proofs.Ytjkimfjhfncldaa.PuWireSums
open Go.RowKit Go.Proofs.YtjkimfjhfncldaaW.PrintWords Go.Proofs.YtjkimfjhfncldaaW.Hb Go.Proofs.YtjkimfjhfncldaaW.Ho Go.Proofs.Ytjkimfjhfncldaa.Q Go.Proofs.Ytjkimfjhfncldaa.OpWireSums Go.Proofs.Ytjkimfjhfncldaa.Th
theorem wfB {x : Int} (h : (Lit.int .u8 x).wf = true) : 0 ≤ x ∧ x ≤ 255 := by
  simp only [Lit.wf, IntKind.min, IntKind.max, IntKind.signed, IntKind.bits, Bool.and_eq_true] at h
  simp at h
  omega
theorem holds (l : List Int) (hl : ∀ x ∈ l, IsB x) (hm : l.length + 2 ≤ 140737488355328) : ∃ k, weighhouselaw01_WireSums.f k l = some true := by
  have hB : ∀ x ∈ bigL (l.length : Int) 4 ++ l, IsB x := fun x hx => (List.mem_append.1 hx).elim (big4_B _ x) (hl x)
  have hlen : (bigL (l.length : Int) 4 ++ l).length = l.length + 4 := by rw [List.length_append, bigL_len]; omega
  have hw : IntKind.u64.wrap (l.length : Int) = (l.length : Int) := by rw [wrap_u64]; omega
  refine ⟨0 + 10 * (l.length + 4) + 3, ?_⟩
  have h1 := Sum_eq l hl (by omega) 42
  have h2 := refSum_eq l hl (by omega) 42
  have h3 := refSum_eq _ hB (by omega) 2
  rw [hlen] at h3
  rw [show 42 + 10 * l.length + 1 = 0 + 10 * (l.length + 4) + 3 by omega] at h1 h2
  rw [show 2 + 10 * (l.length + 4) + 1 = 0 + 10 * (l.length + 4) + 3 by omega] at h3
  unfold weighhouselaw01_WireSums.f
  rw [h1, h2, hw, h3]
  simp only [Option.bind_some]
  have hd : decide ((l.length + 2) * 1 ≤ 140737488355328) = true := decide_eq_true (by omega)
  by_cases hbig : 1048576 < l.length
  · have hF : wire_Frame.f (0 + 10 * (l.length + 4) + 3) l = some ([], 6) := by
      unfold wire_Frame.f
      rw [if_pos (by omega)]
    rw [hF]
    simp only [Option.bind_some]
    rw [if_pos]
    rw [hd]
    unfold frIs
    rw [if_pos hbig]
    simp
  · rw [flen_eq l hl (by omega) 0]
    simp only [Option.bind_some]
    rw [if_pos]
    rw [hd]
    unfold frIs
    rw [if_neg hbig, hw]
    have e : lit4 (sumN (bigL (l.length : Int) 4 ++ l)) = le4 ((sumN (bigL (l.length : Int) 4 ++ l) : Nat) : Int) := rfl
    rw [e, ← List.append_assoc]
    simp
theorem pure : Pure := by
  intro x0 h0
  refine holds x0 (fun x hx => wfB (h0.2.2 x hx)) ?_
  have := h0.1
  unfold reachBytes at this
  omega
end Go.Proofs.Ytjkimfjhfncldaa.PuWireSums
end
