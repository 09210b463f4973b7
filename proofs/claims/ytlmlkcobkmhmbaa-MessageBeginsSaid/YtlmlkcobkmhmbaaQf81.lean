-- written by hprint.py (a program of these sessions) out of the translation; Lean checks it
import Derived.Test.YtlmlkcobkmhmbaaQ0
import Derived.Test.YtlmlkcobkmhmbaaQf75
namespace Go.Proofs.Ytlmlkcobkmhmbaa.Q
open Go.RowKit Go.Proofs.YtlmlkcobkmhmbaaW.Hb Go.Proofs.YtlmlkcobkmhmbaaW.PrintWords Go.Proofs.YtlmlkcobkmhmbaaW.PrintLast Go.Proofs.YtlmlkcobkmhmbaaW.PrintMore
attribute [local go_sem] max2_int min2_int max_two min_two max_three min_three max_four min_four   -- for this text's walks alone
set_option linter.unusedVariables false
set_option linter.unusedSimpArgs false

/-! ### message_Entry_81: function 81, by hand -/
theorem at_EntryN {w : World} {A : Option Addr} {n : Nat} {xs : List S74} (h : Kd.C k74 w A n xs) (i : Nat) (hi : i < xs.length) :
    ∃ ad, A = some ad ∧ w.cell? (ad.add (i * 2)) = some (.int .i64 xs[i].f0) ∧ w.cell? ⟨(ad.add (i * 2)).block, (ad.add (i * 2)).off + 1, none⟩ = some (.string xs[i].f1) := by
  obtain ⟨ad, e, h0, h1⟩ := at_T74 h i (by omega) (by have := h.1; omega)
  rw [Int.toNat_natCast] at h0 h1
  have e2 : rd_T74 xs i = xs[i] := by simp [rd_T74, List.getD_eq_getElem?_getD, hi]
  rw [e2] at h0 h1
  exact ⟨ad, e, h0, h1⟩
set_option maxHeartbeats 400000 in
theorem message_Entry_81.calls (A : Option Addr) (c : Nat) (xs : List S74) (w : World) (hr : Kd.C k74 w A xs.length xs) (hc : xs.length ≤ c) :
    Calls Try.prog 81 #[.slice A xs.length c, .func (.func 75) #[] #[]] w fun e w' => e = .returned (.int .i64 (ixf outE xs)) ∧ Below w.heap.size w w' := by
  have HR := Aside0.mk hr
  clear hr
  have hm : xs.length ≤ 9223372036854775807 := HR.out.2.1
  go_enter Try.func81, Try.ntmps81
  go_wp2
  go_loopw [8] (fun i wr => ∃ k : Nat, k ≤ xs.length ∧ i = .int .i64 k ∧ Aside0 (Below w.heap.size w wr) ∧ Aside0 (∀ j (hj : j < xs.length), j < k → outE xs[j] = false)) (fun i _ => xs.length - (intOf i).toNat)
  case atStart => exact ⟨0, Nat.zero_le _, rfl, ⟨Below.refl _ _⟩, ⟨fun j _ h => absurd h (by omega)⟩⟩
  case round =>
    obtain ⟨k, hk, rfl, HB, HP⟩ := hrel
    by_cases hlt : k < xs.length
    · obtain ⟨ad, e, hcell, hcell1⟩ := at_EntryN HR.out k hlt
      cases e
      replace hcell := (HB.out.cell (World.block_lt_of_cell? w _ hcell)).trans hcell
      replace hcell1 := (HB.out.cell (World.block_lt_of_cell? w _ hcell1)).trans hcell1
      cases hp : outE xs[k] with
      | true =>
        have HP2 := Aside0.mk (ixf_hit outE xs k hlt hp HP.out)
        have HQ := Aside0.mk hp
        clear hp HP
        go_wp2_with (go_at_call 75; (with_reducible refine (message_entries_lit1_75.calls _ _).mono ?_); rw [HQ.out]; rintro e w' ⟨rfl, hb⟩)
        go_ret
        rw [HP2.out]
        exact ⟨rfl, HB.out.trans (hb.mono HB.out.size)⟩
      | false =>
        have HQ := Aside0.mk hp
        clear hp
        go_wp2_with (go_at_call 75; (with_reducible refine (message_entries_lit1_75.calls _ _).mono ?_); rw [HQ.out]; rintro e w' ⟨rfl, hb⟩)
        go_roundw
        case rel => exact ⟨k + 1, by omega, by go_num, ⟨HB.out.trans (hb.mono HB.out.size)⟩, ⟨fun j hj h => by
          rcases Nat.lt_or_ge j k with h1 | h1
          · exact HP.out j hj h1
          · obtain rfl : j = k := by omega
            exact HQ.out⟩⟩
        case measure => simp [intOf]; omega
    · have HP2 := Aside0.mk (ixf_miss outE xs (fun j hj => HP.out j hj (by omega)))
      clear HP
      go_wp2
      go_ret
      rw [HP2.out]
      exact ⟨rfl, HB.out⟩


end Go.Proofs.Ytlmlkcobkmhmbaa.Q
