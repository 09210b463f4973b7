-- written by hprint.py (a program of these sessions) out of the translation; Lean checks it
import Derived.Test.YtjkimfjhfncldaaQ0
namespace Go.Proofs.Ytjkimfjhfncldaa.Q
open Go.RowKit Go.Proofs.YtjkimfjhfncldaaW.Hb Go.Proofs.YtjkimfjhfncldaaW.PrintWords Go.Proofs.YtjkimfjhfncldaaW.PrintLast Go.Proofs.YtjkimfjhfncldaaW.PrintMore
attribute [local go_sem] max2_int min2_int max_two min_two max_three min_three max_four min_four   -- for this text's walks alone
set_option linter.unusedVariables false
set_option linter.unusedSimpArgs false

/-! ### wire_big: function 43, by hand -/
/-- The greatest number of 64 bits. -/
def u64top : Int := 18446744073709551615
def bigB (n : Int) (m i : Nat) : Int := (n / 2 ^ (8 * (m - 1 - i))) % 256
def bigL (n : Int) (m : Nat) : List Int := (List.range m).map (bigB n m)
def bigP (n : Int) (m k : Nat) : List Int := (List.range k).map (bigB n m) ++ List.replicate (m - k) 0
theorem bigP_len (n : Int) (m k : Nat) (h : k ≤ m) : (bigP n m k).length = m := by simp [bigP]; omega
theorem bigP_zero (n : Int) (m : Nat) : bigP n m 0 = List.replicate m 0 := by simp [bigP]
theorem bigP_all (n : Int) (m k : Nat) (h : m ≤ k) (hk : k ≤ m) : bigP n m k = bigL n m := by
  obtain rfl : k = m := by omega
  simp [bigP, bigL]
theorem bigP_set (n : Int) (m k : Nat) (h : k < m) : (bigP n m k).set k (bigB n m k) = bigP n m (k + 1) := by
  apply List.ext_getElem
  · simp [bigP]; omega
  · intro i h1 h2
    have hi : i < m := by
      have := bigP_len n m (k + 1) (by omega)
      omega
    rw [List.getElem_set]
    by_cases e : k = i
    · subst e
      simp [bigP, List.getElem_append]
    · rw [if_neg e]
      simp only [bigP, List.getElem_append, List.length_map, List.length_range, List.getElem_map, List.getElem_range, List.getElem_replicate]
      by_cases e1 : i < k
      · simp [e1, show i < k + 1 by omega]
      · simp [e1, show ¬ i < k + 1 by omega]
def wire_big.f (a0 : Int) (a1 : Int) : Option (List Int) := if 0 ≤ a1 ∧ a1 ≤ 8 ∧ 0 ≤ a0 ∧ a0 ≤ u64top then some (bigL a0 a1.toNat) else none
set_option maxRecDepth 100000 in
set_option maxHeartbeats 1000000 in
theorem wire_big.walk (n : Int) (m : Nat) (w : World) (hm : m ≤ 8) (h0 : 0 ≤ n) (h1 : n ≤ u64top) :
    Calls Try.prog 43 #[.int .u64 n, .int .i64 m] w (OwnRes (Kd.int .u8) 5 w (bigL n m)) := by
  have hmk := print_make (P := Try.prog) 22 5 .u8 1 Try.underlying22 info5 (by omega) m (by omega)
  have HO := Aside0.mk (show (Kd.int .u8).R 5 (w.alloc (.cells (madeCells #[.int .u8 0] m) 5)) w.heap.size (fun _ => True) (.slice (some ⟨w.heap.size, 0, none⟩) m m) (List.replicate m 0) from Kd.R_of_own (by rw [List.length_replicate]; exact own_made w w.heap.size 5 .u8 m (Nat.le_refl _) (by omega)) (fun _ _ => trivial))
  have HB0 := Aside0.mk ((Below.refl w.heap.size w).alloc (Nat.le_refl _) (.cells (madeCells #[.int .u8 0] m) 5))
  go_enter Try.func43, Try.ntmps43
  go_wp2
  clear hmk
  go_loopw [11] (fun i wr => ∃ k : Nat, k ≤ m ∧ i = .int .i64 k ∧ Aside0 ((Kd.int .u8).R 5 wr w.heap.size (fun _ => True) (.slice (some ⟨w.heap.size, 0, none⟩) m m) (bigP n m k)) ∧ Aside0 (Below w.heap.size w wr)) (fun i _ => m - (intOf i).toNat)
  case atStart => exact ⟨0, Nat.zero_le _, rfl, ⟨by rw [bigP_zero]; exact HO.out⟩, HB0⟩
  case round =>
    obtain ⟨k, hk, rfl, HR, HB⟩ := hrel
    by_cases hlt : k < m
    · have hc := Kd.R_celln (0 : Int) HR.out k (by omega) (by omega)
      rw [Int.toNat_natCast] at hc
      obtain ⟨hc1, hc2⟩ := hc
      have HS := Aside0.mk (Kd.R_putn HR.out k (bigB n m k))
      have HP := Aside0.mk (bigP_set n m k hlt)
      have HX := Aside0.mk (by have hx := HS.out; rw [Int.toNat_natCast, HP.out] at hx; exact hx)
      clear HS
      go_wp2
      go_roundw
      case rel => exact ⟨k + 1, by omega, by go_num, HX, ⟨HB.out.setCell (Nat.le_refl _) _⟩⟩
      case measure => simp [intOf]; omega
    · have HA := Aside0.mk (bigP_all n m k (by omega) hk)
      go_wp2
      go_ret
      exact ⟨_, rfl, by rw [← HA.out]; exact HR.out, HB.out⟩
theorem wire_big.calls (a0 : Int) (a1 : Int) (r : List Int) (w : World) (h : wire_big.f a0 a1 = some r) :
    Calls Try.prog 43 #[.int .u64 a0, .int .i64 a1] w fun e w' => ∃ v0_ : Value, e = .returned (v0_) ∧ Kd.R (Kd.int .u8) 5 w' w.heap.size (fun _ => True) v0_ r ∧ Below w.heap.size w w' := by
  unfold wire_big.f at h
  split at h
  · rename_i hc
    obtain ⟨h1, h2, h3, h4⟩ := hc
    obtain rfl := Option.some.inj h
    obtain ⟨m, rfl⟩ := Int.eq_ofNat_of_zero_le h1
    rw [Int.toNat_natCast]
    exact wire_big.walk a0 m w (by omega) h3 h4
  · cases h
theorem wire_big.walkI (n : Int) (m : Nat) (a1 : Int) (ha : a1 = (m : Int)) (w : World) (hm : m ≤ 8) (h0 : 0 ≤ n) (h1 : n ≤ u64top) :
    Calls Try.prog 43 #[.int .u64 n, .int .i64 a1] w (OwnRes (Kd.int .u8) 5 w (bigL n m)) := by
  subst ha
  exact wire_big.walk n m w hm h0 h1



end Go.Proofs.Ytjkimfjhfncldaa.Q
