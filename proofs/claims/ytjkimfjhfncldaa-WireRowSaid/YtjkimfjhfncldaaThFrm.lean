import Derived.Test.YtjkimfjhfncldaaThSum
import Derived.Test.YtjkimfjhfncldaaQf13
import Derived.Test.YtjkimfjhfncldaaQf20
namespace Go.Proofs.Ytjkimfjhfncldaa.Th
open Go.RowKit Go.Proofs.Ytjkimfjhfncldaa.Q Go.Proofs.YtjkimfjhfncldaaW.PrintWords Go.Proofs.YtjkimfjhfncldaaW.PrintLast
theorem rev4 (a b c d : Int) (k : Nat) : slices_Reverse_byte_byte.f (k + 3) [a, b, c, d] = some [d, c, b, a] := by
  unfold slices_Reverse_byte_byte.f
  simp [slices_Reverse_byte_byte.l0, rd, w64]
theorem wrap_u64 (n : Int) : IntKind.u64.wrap n = n % 18446744073709551616 := by simp [IntKind.wrap, IntKind.bits, IntKind.signed]
theorem big4 (n : Nat) : bigL (n : Int) 4 = [(n : Int) / 16777216 % 256, (n : Int) / 65536 % 256, (n : Int) / 256 % 256, (n : Int) % 256] := by
  simp [bigL, bigB, List.range_succ]
def lit4 (n : Nat) : List Int := [(n : Int) % 256, (n : Int) / 256 % 256, (n : Int) / 65536 % 256, (n : Int) / 16777216 % 256]
theorem little_eq (n : Nat) (hn : n < 4294967296) (k : Nat) : wire_little.f (k + 3) (n : Int) = some (lit4 n) := by
  unfold wire_little.f wire_big.f
  have h1 : IntKind.u64.wrap (n : Int) = (n : Int) := by rw [wrap_u64]; omega
  rw [h1, if_pos ⟨by omega, by omega, by omega, by unfold u64top; omega⟩]
  show ((slices_Reverse_byte_byte.f (k + 3) (bigL (n : Int) 4)).bind fun t => some t) = _
  rw [big4, rev4]
  rfl
theorem lit4_inj {m n : Nat} (hm : m < 4294967296) (hn : n < 4294967296) (h : lit4 m = lit4 n) : m = n := by
  simp only [lit4, List.cons.injEq] at h
  omega
theorem big4_inj {m n : Nat} (hm : m < 4294967296) (hn : n < 4294967296) (h : bigL (m : Int) 4 = bigL (n : Int) 4) : m = n := by
  rw [big4, big4] at h
  simp only [List.cons.injEq] at h
  omega
theorem big4_B (n : Nat) : ∀ x ∈ bigL (n : Int) 4, IsB x := by
  rw [big4]
  intro x hx
  simp only [List.mem_cons, List.not_mem_nil, or_false] at hx
  unfold IsB
  omega
theorem lit4_B (n : Nat) : ∀ x ∈ lit4 n, IsB x := by
  intro x hx
  simp only [lit4, List.mem_cons, List.not_mem_nil, or_false] at hx
  unfold IsB
  omega
theorem flen_eq (l : List Int) (hl : ∀ x ∈ l, IsB x) (hn : l.length ≤ 1048576) (k : Nat) : wire_Frame.f (k + 10 * (l.length + 4) + 3) l = some (bigL (l.length : Int) 4 ++ (lit4 (sumN (bigL (l.length : Int) 4 ++ l)) ++ l), 0) := by
  have hB : ∀ x ∈ bigL (l.length : Int) 4 ++ l, IsB x := fun x hx => (List.mem_append.1 hx).elim (big4_B _ x) (hl x)
  have hlen : (bigL (l.length : Int) 4 ++ l).length = l.length + 4 := by rw [List.length_append, bigL_len]; omega
  unfold wire_Frame.f
  rw [if_neg (by omega)]
  have h1 := Sum_eq _ hB (by omega) (k + 2)
  rw [hlen, show k + 2 + 10 * (l.length + 4) + 1 = k + 10 * (l.length + 4) + 3 by omega] at h1
  rw [h1]
  simp only [Option.bind_some]
  rw [little_eq _ (sumN_lt hB)]
  simp only [Option.bind_some]
  rw [if_pos (by simp [lit4])]
end Go.Proofs.Ytjkimfjhfncldaa.Th
