import Derived.Test.YtjkimfjhfncldaaThFrs
namespace Go.Proofs.Ytjkimfjhfncldaa.Th
open Go.RowKit Go.Proofs.Ytjkimfjhfncldaa.Q Go.Proofs.YtjkimfjhfncldaaW.PrintWords Go.Proofs.YtjkimfjhfncldaaW.PrintLast
theorem isB_wf {x : Int} (h : (Lit.int .u8 x).wf = true) : IsB x := by
  simp only [Lit.wf, IntKind.min, IntKind.max, IntKind.signed, IntKind.bits, Bool.and_eq_true] at h
  unfold IsB
  simp at h
  omega
theorem frames_eq (b : List Int) (hb : ∀ x ∈ b, IsB x) (hlen : b.length ≤ 5000000000000) (k : Nat) (hk : 11 * b.length + 100 ≤ k) :
    wire_Frames.f k b = some ((frs (b.length + 1) b 0).1, (((frs (b.length + 1) b 0).2 : Nat) : Int)) := by
  have hm : (0 + b.length + 1) * 24 ≤ 140737488355328 := Nat.le_trans (Nat.mul_le_mul_right 24 (show 0 + b.length + 1 ≤ 5000000000001 by omega)) (by decide)
  have h := frames_run b hb (by omega) (k - b.length - 1) (by omega) b.length 0 [] (by omega) (by omega) hm
  rewrite [show k - b.length - 1 + b.length + 1 = k by omega, List.nil_append] at h
  exact h
theorem frs_nil {m : Nat} {b : List Int} {e : Nat} (h : (frs m b e).1 = []) : (frs m b e).2 = e := by
  cases m with
  | zero => rfl
  | succ m =>
    rw [frs] at h ⊢
    cases hf : frm1 (b.drop e) with
    | none => rfl
    | some x => rw [hf] at h; cases h
/-- A frame of l. -/
def frmL (l : List Int) : List Int := bigL (l.length : Int) 4 ++ (lit4 (sumN (bigL (l.length : Int) 4 ++ l)) ++ l)
theorem frmL_len (l : List Int) : (frmL l).length = l.length + 8 := by
  unfold frmL
  rw [List.length_append, List.length_append, bigL_len]
  simp [lit4]
  omega
theorem frmL_B {l : List Int} (hl : ∀ x ∈ l, IsB x) : ∀ x ∈ frmL l, IsB x := by
  intro x hx
  rcases List.mem_append.1 hx with h | h
  · exact big4_B _ x h
  · rcases List.mem_append.1 h with h | h
    · exact lit4_B _ x h
    · exact hl x h
theorem frmL_take (l : List Int) : (frmL l).take 4 = bigL (l.length : Int) 4 := by
  unfold frmL
  rw [List.take_append_of_le_length (by rw [bigL_len]; omega), List.take_of_length_le (by rw [bigL_len]; omega)]
theorem frmL_mid (l : List Int) : ((frmL l).take 8).drop 4 = lit4 (sumN (bigL (l.length : Int) 4 ++ l)) := by
  unfold frmL
  rw [← List.append_assoc, List.take_append_of_le_length (by rw [List.length_append, bigL_len]; simp [lit4]), List.take_of_length_le (by rw [List.length_append, bigL_len]; simp [lit4]), List.drop_append_of_le_length (by rw [bigL_len]; omega), List.drop_eq_nil_of_le (by rw [bigL_len]; omega), List.nil_append]
theorem frmL_drop (l : List Int) : (frmL l).drop 8 = l := by
  unfold frmL
  rw [← List.append_assoc, List.drop_append_of_le_length (by rw [List.length_append, bigL_len]; simp [lit4]), List.drop_eq_nil_of_le (by rw [List.length_append, bigL_len]; simp [lit4]), List.nil_append]
/-- What a whole frame is. -/
theorem frm1_is {r x : List Int} (h : frm1 r = some x) : lit4 (sumN (r.take 4 ++ x)) = (r.take 8).drop 4 ∧ x = (r.take (8 + x.length)).drop 8 ∧ x.length = numN 0 (r.take 4) := by
  have hl := (frm1_len h).2
  unfold frm1 at h
  split at h
  · cases h
  · split at h
    · cases h
    · split at h
      · cases h
      · split at h
        · rename_i h5
          have hx := Option.some.inj h
          rw [hx] at h5
          refine ⟨h5, ?_, hl⟩
          rw [hl]
          exact hx.symm
        · cases h
theorem set_take_lt {l : List Int} {p n : Nat} {b : Int} (h : n ≤ p) : (l.set p b).take n = l.take n := by
  rw [List.take_set]
  exact List.set_eq_of_length_le (by rw [List.length_take]; omega)
theorem set_drop_lt {l : List Int} {p n : Nat} {b : Int} (h : p < n) : (l.set p b).drop n = l.drop n := by
  rw [List.drop_set, if_pos h]
/-- A frame with one byte that is another one is no frame of its length. -/
theorem rot (l : List Int) (hl : ∀ x ∈ l, IsB x) (hn : l.length ≤ 1048576) (p : Nat) (hp : p < (frmL l).length) (b : Int) (hb : IsB b) (hne : b ≠ (frmL l)[p]) (x : List Int) (h : frm1 ((frmL l).set p b) = some x) : x.length ≠ l.length := by
  intro hxl
  have hFB := frmL_B hl
  have hlen := frmL_len l
  obtain ⟨h1, h2, h3⟩ := frm1_is h
  have hSB : ∀ z ∈ (frmL l).set p b, IsB z := fun z hz => (List.mem_or_eq_of_mem_set hz).elim (hFB z) (fun e => e ▸ hb)
  have h4 : (((frmL l).set p b).take 4).length = 4 := by rw [List.length_take, List.length_set]; omega
  have hbig := (four_big _ (take_B hSB 4) h4).2
  rw [← h3, hxl, ← frmL_take l] at hbig
  -- the first four bytes are as they were
  have hp4 : 4 ≤ p := by
    rcases Nat.lt_or_ge p 4 with hlt | hge
    · exfalso
      have := congrArg (fun z => z[p]?) hbig
      simp only [List.getElem?_take, hlt, if_true] at this
      rw [List.getElem?_set_self hp, List.getElem?_eq_getElem hp] at this
      exact hne (Option.some.inj this)
    · exact hge
  have hfull : ((frmL l).set p b).take (8 + l.length) = (frmL l).set p b := List.take_of_length_le (by rw [List.length_set]; omega)
  rcases Nat.lt_or_ge p 8 with hp8 | hp8
  · -- in the sum
    have hx : x = l := by
      rw [h2, hxl, hfull, set_drop_lt hp8, frmL_drop]
    rw [hbig, hx, frmL_take, ← frmL_mid] at h1
    have := congrArg (fun z => z[p - 4]?) h1
    simp only [List.getElem?_drop, List.getElem?_take, show 4 + (p - 4) = p by omega, hp8, if_true] at this
    rw [List.getElem?_set_self hp, List.getElem?_eq_getElem hp] at this
    exact hne (Option.some.inj this).symm
  · -- in what it frames
    have hd : ∀ k (hk : k < l.length), (frmL l)[8 + k]'(by omega) = l[k] := by
      intro k hk
      have := congrArg (fun z => z[k]?) (frmL_drop l)
      simp only [List.getElem?_drop] at this
      rw [List.getElem?_eq_getElem (by omega), List.getElem?_eq_getElem hk] at this
      exact Option.some.inj this
    have hx : x = l.set (p - 8) b := by
      rw [h2, hxl, hfull, List.drop_set, if_neg (by omega), frmL_drop]
    have hm : (((frmL l).set p b).take 8).drop 4 = ((frmL l).take 8).drop 4 := by rw [set_take_lt hp8]
    rw [hm, hbig, frmL_take, frmL_mid, hx] at h1
    have hsetB : ∀ z ∈ l.set (p - 8) b, IsB z := fun z hz => (List.mem_or_eq_of_mem_set hz).elim (hl z) (fun e => e ▸ hb)
    have hB1 : ∀ z ∈ bigL (l.length : Int) 4 ++ l.set (p - 8) b, IsB z := fun z hz => (List.mem_append.1 hz).elim (big4_B _ z) (hsetB z)
    have hB2 : ∀ z ∈ bigL (l.length : Int) 4 ++ l, IsB z := fun z hz => (List.mem_append.1 hz).elim (big4_B _ z) (hl z)
    have hs := sumN_inj (lit4_inj (sumN_lt hB1) (sumN_lt hB2) h1)
    have hbl : (bigL (l.length : Int) 4).length = 4 := bigL_len _ _
    have e1 : bigL (l.length : Int) 4 ++ l.set (p - 8) b = (bigL (l.length : Int) 4 ++ l).set (p - 4) b := by
      rw [List.set_append_right _ _ (by omega), hbl, show p - 4 - 4 = p - 8 by omega]
    rw [e1] at hs
    refine crc_set (bigL (l.length : Int) 4 ++ l) (p - 4) (by rw [List.length_append, hbl]; omega) b 4294967295 (by omega) hB2 hb ?_ hs
    rw [List.getElem_append_right (by omega)]
    have := hd (p - 8) (by omega)
    simp only [hbl, show p - 4 - 4 = p - 8 by omega]
    rw [← this]
    simpa only [show 8 + (p - 8) = p by omega] using hne
theorem xor_u8 (a b : Nat) (ha : a < 256) (hb : b < 256) : Go.bits .xor .u8 (a : Int) (b : Int) = ((a ^^^ b : Nat) : Int) := by
  have hx : a ^^^ b < 2 ^ 8 := Nat.xor_lt_two_pow (by omega) (by omega)
  have h1 : (BitVec.ofInt 8 (a : Int)).toNat = a := by
    rw [BitVec.ofInt_natCast, BitVec.toNat_ofNat]; exact Nat.mod_eq_of_lt (by omega)
  have h2 : (BitVec.ofInt 8 (b : Int)).toNat = b := by
    rw [BitVec.ofInt_natCast, BitVec.toNat_ofNat]; exact Nat.mod_eq_of_lt (by omega)
  show IntKind.u8.wrap ((BitVec.ofInt 8 (a : Int) ^^^ BitVec.ofInt 8 (b : Int)).toNat : Int) = _
  rw [BitVec.toNat_xor, h1, h2]
  simp [IntKind.wrap, IntKind.bits, IntKind.signed]
  omega
theorem xor_B {a b : Int} (ha : IsB a) (hb : IsB b) (hb0 : b ≠ 0) : IsB (Go.bits .xor .u8 a b) ∧ Go.bits .xor .u8 a b ≠ a := by
  obtain ⟨ha1, ha2⟩ := ha
  obtain ⟨hb1, hb2⟩ := hb
  obtain ⟨m, rfl⟩ := Int.eq_ofNat_of_zero_le ha1
  obtain ⟨n, rfl⟩ := Int.eq_ofNat_of_zero_le hb1
  have hx : m ^^^ n < 2 ^ 8 := Nat.xor_lt_two_pow (by omega) (by omega)
  rw [xor_u8 m n (by omega) (by omega)]
  refine ⟨⟨by omega, by omega⟩, fun h => ?_⟩
  have h' : m ^^^ n = m := by omega
  have : m ^^^ (m ^^^ n) = 0 := by rw [h', Nat.xor_self]
  rw [← Nat.xor_assoc, Nat.xor_self, Nat.zero_xor] at this
  omega
theorem tmod_in {a n : Int} (hn : 0 < n) (hb : n ≤ 4611686018427387904) : 0 ≤ Int.tmod (wrap64 (Int.tmod a n + n)) n ∧ Int.tmod (wrap64 (Int.tmod a n + n)) n < n := by
  have h1 : Int.tmod a n < n := Int.tmod_lt_of_pos a hn
  have h2 : -n < Int.tmod a n := by
    have := Int.tmod_lt_of_pos (-a) hn
    rw [Int.neg_tmod] at this
    omega
  have hw : wrap64 (Int.tmod a n + n) = Int.tmod a n + n := w64 (by omega) (by omega)
  rw [hw]
  exact ⟨Int.tmod_nonneg _ (by omega), Int.tmod_lt_of_pos _ hn⟩
end Go.Proofs.Ytjkimfjhfncldaa.Th
