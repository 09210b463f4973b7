-- written by hprint.py (a program of these sessions) out of the translation; Lean checks it
import Derived.Test.YtjkimfjhfncldaaQ0
import Derived.Test.YtjkimfjhfncldaaQf22
import Derived.Test.YtjkimfjhfncldaaQf51
import Derived.Test.YtjkimfjhfncldaaQf52
import Derived.Test.YtjkimfjhfncldaaQf25
import Derived.Test.YtjkimfjhfncldaaQf43
namespace Go.Proofs.Ytjkimfjhfncldaa.Q
open Go.RowKit Go.Proofs.YtjkimfjhfncldaaW.Hb Go.Proofs.YtjkimfjhfncldaaW.PrintWords Go.Proofs.YtjkimfjhfncldaaW.PrintLast Go.Proofs.YtjkimfjhfncldaaW.PrintMore
attribute [local go_sem] max2_int min2_int max_two min_two max_three min_three max_four min_four   -- for this text's walks alone
set_option linter.unusedVariables false
set_option linter.unusedSimpArgs false

/-! ### wire_Writer_Text: function 27, by hand -/
/-- A slice of bytes as it stands in a cell. -/
structure Pt where
  a : Option Addr
  c : Nat
  xs : List Int
def Pt.enc (p : Pt) : Value := .slice p.a p.xs.length p.c
def kPt : Kd Pt := Kd.scalar Pt.enc (fun _ => rfl)
/-- What the cells tell can be read, and lies in none of u's block. -/
def PtOk (w : World) (u : Option Nat) (p : Pt) : Prop := p.xs.length ≤ p.c ∧ (Kd.int .u8).C w p.a p.xs.length p.xs ∧ ∀ ad, p.a = some ad → ad.block < w.heap.size ∧ some ad.block ≠ u
theorem C_blocks {w w1 : World} {k : IntKind} {A : Option Addr} {xs : List Int} (h : (Kd.int k).C w A xs.length xs) (hb : ∀ ad, A = some ad → w1.heap[ad.block]? = w.heap[ad.block]?) : (Kd.int k).C w1 A xs.length xs := by
  refine ⟨h.1, h.2.1, fun hp => ?_⟩
  obtain ⟨ad, e, hc⟩ := h.2.2 hp
  refine ⟨ad, e, fun j p hj => ?_⟩
  obtain ⟨cs, h1, h2, h3⟩ := hc j p hj
  refine ⟨cs, h1, h2, fun i u hu => ?_⟩
  have hbl : (ad.add (j * (Kd.int k).sz + i)).block = ad.block := by unfold Addr.add; split <;> rfl
  rw [← h3 i u hu]
  exact World.cell?_of_block (by rw [hbl]; exact hb ad e)
theorem PtOk.below {w w1 : World} {u : Option Nat} {p : Pt} (h : PtOk w u p) (hb : Below w.heap.size w w1) : PtOk w1 u p := ⟨h.1, Kd.C_below h.2.1 hb, fun ad e => ⟨Nat.lt_of_lt_of_le (h.2.2 ad e).1 hb.size, (h.2.2 ad e).2⟩⟩
theorem PtOk.grown {w w1 : World} {u u1 : Option Nat} {p : Pt} (h : PtOk w u p) (hg : w.grownBy w1 u) (ha : u1 = u ∨ ∃ b, u1 = some b ∧ w.heap.size ≤ b) : PtOk w1 u1 p := by
  refine ⟨h.1, C_blocks h.2.1 (fun ad e => hg.block _ (h.2.2 ad e).1 (h.2.2 ad e).2), fun ad e => ⟨Nat.lt_of_lt_of_le (h.2.2 ad e).1 hg.size, ?_⟩⟩
  rcases ha with rfl | ⟨b, rfl, hb⟩
  · exact (h.2.2 ad e).2
  · have := (h.2.2 ad e).1
    intro h'
    injection h' with h'
    omega
theorem C_of_pts {w : World} {u : Option Nat} {A : Option Addr} {n : Nat} {ps : List Pt} (e : Nat) (h : kPt.C w A n ps) (hp : ∀ p ∈ ps, PtOk w u p) : (Kd.slice e (Kd.int .u8)).C w A n (ps.map Pt.xs) := by
  refine ⟨by rw [List.length_map]; exact h.1, h.2.1, fun hn => ?_⟩
  obtain ⟨ad, e1, hc⟩ := h.2.2 hn
  refine ⟨ad, e1, fun j p hj => ?_⟩
  rw [List.getElem?_map] at hj
  cases hq : ps[j]? with
  | none => rw [hq] at hj; cases hj
  | some q =>
    rw [hq] at hj
    obtain rfl : q.xs = p := by simpa using hj
    obtain ⟨cs, h1, h2, h3⟩ := hc j q hq
    have h2' : cs = [q.enc] := h2
    subst h2'
    have ho := hp q (List.mem_of_getElem? hq)
    exact ⟨_, rfl, ⟨q.a, q.c, rfl, ho.1, ho.2.1⟩, h3⟩
theorem C_pt_two (W : World) (t : TypeId) (p q : Pt) (cells : Array Value) (hc : cells = #[p.enc, q.enc]) : kPt.C (W.alloc (.cells cells t)) (some ⟨W.heap.size, 0, none⟩) [p, q].length [p, q] := by
  subst hc
  exact C_of_reps (d := kPt) (Blk.new W t _) [p, q] (Reps_two (c := [p.enc]) (e := [q.enc]) rfl rfl rfl rfl) (by simp)
def textB (s : ByteArray) : List Int := bigL (s.size : Int) 2 ++ bytesOf s
def textsB (ss : List ByteArray) : List Int := ss.flatMap textB
def textsP (ss : List ByteArray) : List (List Int) := ss.flatMap (fun s => [bigL (s.size : Int) 2, bytesOf s])
theorem textsP_flat (ss : List ByteArray) : (textsP ss).flatten = textsB ss := by
  unfold textsP textsB
  induction ss with
  | nil => rfl
  | cons s ss ih => simp [List.flatMap_cons, ih, textB]
theorem textsP_len (ss : List ByteArray) : (textsP ss).length = 2 * ss.length := by
  unfold textsP
  induction ss with
  | nil => rfl
  | cons s ss ih => rw [List.flatMap_cons, List.length_append, ih]; simp; omega
theorem textsP_take (ss : List ByteArray) (k : Nat) (hk : k < ss.length) : textsP (ss.take (k + 1)) = textsP (ss.take k) ++ [bigL (ss[k].size : Int) 2, bytesOf ss[k]] := by
  unfold textsP
  rw [List.take_succ_eq_append_getElem hk, List.flatMap_append]
  simp
def tlong (s : ByteArray) : Bool := decide (65535 < s.size)
def wtexts (l : List Int) (ss : List ByteArray) : List Int × Int := if ss.any tlong then (l, 6) else wmore l (textsB ss)
theorem at_stringN {w : World} {A : Option Addr} {n : Nat} {xs : List ByteArray} (h : Kd.string.C w A n xs) (i : Nat) (hi : i < xs.length) : ∃ ad, A = some ad ∧ w.cell? (ad.add i) = some (.string xs[i]) := by
  obtain ⟨ad, e, hc⟩ := Kd.at_string h i (by omega) (by have := h.1; omega)
  refine ⟨ad, e, ?_⟩
  rw [Int.toNat_natCast] at hc
  rw [hc]
  simp [rdOf, List.getD_eq_getElem?_getD, hi]
set_option maxRecDepth 100000 in
set_option maxHeartbeats 2000000 in
theorem wire_Writer_Text.calls (S : Nat → Prop) (g : Nat) (l : List Int) (A : Option Addr) (n c : Nat) (ss : List ByteArray) (w : World) (hn : ss.length = n) (hr : Kd.string.C w A ss.length ss) (hc : n ≤ c) (hsum : (textsB ss).length * 1 ≤ 140737488355328) (hcnt : ss.length * 48 ≤ 140737488355328) (hW : Wr w S g l) (hl : l.length ≤ 1048576) :
    Calls Try.prog 27 #[.pointer (some ⟨g, 0, none⟩), .slice A n c] w fun e w' => e = .returned (.int .i64 (wtexts l ss).2) ∧ Wr w' (SS S w w') g (wtexts l ss).1 ∧ Fr w w' S := by
  subst hn
  have hm : ss.length ≤ 9223372036854775807 := hr.2.1
  have HR := Aside0.mk hr
  have HW := Aside0.mk hW
  have HSUM := Aside0.mk hsum
  clear hr hW hsum
  go_enter Try.func27, Try.ntmps27
  go_wp2
  go_loopw [5, 10] (fun v i wr => ∃ (j : Nat) (ps : List Pt), j ≤ ss.length ∧ i = .int .i64 j ∧ Aside0 (ps.map Pt.xs = textsP (ss.take j)) ∧ Aside0 (∀ s ∈ ss.take j, tlong s = false) ∧ Aside0 (kPt.R 22 wr w.heap.size (fun _ => True) v ps) ∧ Aside0 (∀ p ∈ ps, PtOk wr v.ownBlock p) ∧ Aside0 (Below w.heap.size w wr)) (fun _ i _ => ss.length - (intOf i).toNat)
  case atStart => exact ⟨0, [], Nat.zero_le _, rfl, ⟨by simp [textsP]⟩, ⟨by simp⟩, ⟨Kd.R_nil _ _ _ _ _⟩, ⟨by simp⟩, ⟨Below.refl _ _⟩⟩
  case round =>
    obtain ⟨j, ps, hj, rfl, HP, HS, HRj, HO, HB⟩ := hrel
    by_cases hlt : j < ss.length
    · obtain ⟨ad, e, hcell⟩ := at_stringN HR.out j hlt
      cases e
      replace hcell := (HB.out.cell (World.block_lt_of_cell? w _ hcell)).trans hcell
      have HT := Aside0.mk (textsP_take ss j hlt)
      have HTK := Aside0.mk (List.take_succ_eq_append_getElem hlt)
      have HMEM := Aside0.mk (List.getElem_mem hlt)
      obtain ⟨s, hs⟩ : ∃ s, s = ss[j] := ⟨_, rfl⟩
      rw [← hs] at HT hcell HTK HMEM
      clear hs
      by_cases hlong : 65535 < (s.size : Int)
      · have hlb : decide (65535 < (s.size : Int)) = true := decide_eq_true hlong
        have HWT := Aside0.mk (show wtexts l ss = (l, 6) from if_pos (List.any_eq_true.2 ⟨s, HMEM.out, decide_eq_true (by omega)⟩))
        have HWR := Aside0.mk (HW.out.below HB.out)
        clear hlong
        obtain ⟨vw, hbw, hSg, hRw⟩ := HWR.out
        have HBW := Aside0.mk hbw
        clear hbw hRw
        go_wp2_with (go_at_call 51; (with_reducible refine (wire_Writer_none.calls g _ true _ HBW.out).mono ?_); rintro e2 w2 ⟨rfl, hw2⟩; subst w2)
        go_ret
        rw [HWT.out]
        exact ⟨rfl, HWR.out.mono (fun k hk => .inl hk), Fr.of_below HB.out S⟩
      · have hlb : decide (65535 < (s.size : Int)) = false := decide_eq_false hlong
        have hsz : s.size ≤ 65535 := by omega
        clear hlong
        obtain ⟨q, hq⟩ : ∃ q, q = bigL (s.size : Int) 2 := ⟨_, rfl⟩
        obtain ⟨b, hb⟩ : ∃ b, b = bytesOf s := ⟨_, rfl⟩
        have hql : q.length = 2 := by rw [hq, bigL_len']
        have hbl : b.length = s.size := by rw [hb, bytesOf_length]
        rw [← hq, ← hb] at HT
        have HQ := Aside0.mk hq
        have HBY := Aside0.mk hb
        have HQL := Aside0.mk hql
        have HBL := Aside0.mk hbl
        clear hq hb hql hbl
        have hlen : ps.length = 2 * j := by
          have := congrArg List.length HP.out
          rw [List.length_map, textsP_len, List.length_take] at this
          omega
        have HL := Aside0.mk (show (ps.length + 2) * 24 ≤ 140737488355328 by omega)
        obtain ⟨gc, bw, hgc, hbw, hbs, hbc, kb⟩ : ∃ (gc : World → Nat) (bw : World → World), (∀ W, b.length ≤ gc W) ∧ (∀ W, Below W.heap.size W (bw W)) ∧ (∀ W, W.heap.size < (bw W).heap.size) ∧ (∀ W, (Kd.int .u8).C (bw W) (some ⟨W.heap.size, 0, none⟩) b.length b) ∧ ∀ W, (convert 9 22 (.string s)).run Try.prog W = .ok (.slice (some ⟨W.heap.size, 0, none⟩) b.length (gc W)) (bw W) := by
          refine ⟨fun W => grownCap W s.size 0 5, fun W => Lib.bytesWorld W 5 s, fun W => by rw [HBL.out]; exact grownCap_ge _ _ _ _, fun W => bytes_below (Below.refl _ _) (Nat.le_refl _) _ _, fun W => by rw [Lib.bytesWorld_size]; omega, fun W => ?_, fun W => ?_⟩
          · have := bytes_reads W 5 s (by omega)
            rw [← HBY.out, ← HBL.out] at this
            exact Kd.C_of_reads (d := (0 : Int)) (h1 := fun _ => rfl) this
          · rw [HBL.out]
            exact print_bytes (P := Try.prog) 9 22 5 Try.underlying9 Try.underlying22 Try.underlying5 s W
        have HGC := Aside0.mk hgc
        have HBW := Aside0.mk hbw
        have HBS := Aside0.mk hbs
        have HBC := Aside0.mk hbc
        clear hlen hgc hbw hbs hbc
        go_wp2_with (first | (go_at_call 43; (with_reducible refine (wire_big.walkI (s.size : Int) 2 2 rfl _ (by omega) (by omega) (by unfold u64top; omega)).mono ?_); rintro e w1 ⟨v1, rfl, hR1, hB1⟩; rw [← HQ.out] at hR1; obtain ⟨A1, c1, rfl, hc1, hC1⟩ := Kd.R_reads hR1; have HR1 := Aside0.mk hR1; have HB1 := Aside0.mk hB1; have HBk := Aside0.mk (hB1.trans ((HBW.out w1).mono hB1.size)); have HWk := Aside0.mk ((hB1.trans ((HBW.out w1).mono hB1.size)).alloc (Nat.le_trans hB1.size (HBW.out w1).size) (.cells #[.slice A1 q.length c1, .slice (some ⟨w1.heap.size, 0, none⟩) b.length (gc w1)] 22)); have HC2 := Aside0.mk (C_pt_two (bw w1) 22 ⟨A1, c1, q⟩ ⟨some ⟨w1.heap.size, 0, none⟩, gc w1, b⟩ #[.slice A1 q.length c1, .slice (some ⟨w1.heap.size, 0, none⟩) b.length (gc w1)] rfl); have HO1 := Aside0.mk (Kd.R_below HRj.out HWk.out); have HD1 := Aside0.mk (HB.out.trans (HWk.out.mono HB.out.size)); have HC1 := Aside0.mk hc1; clear hR1 hC1 hB1 hc1) | ((with_reducible refine gate_builtin (b := .append) (xs := #[.tmp 19, .tmp 26]) rfl ?_); at_builtin; refine Kd.R_append_rows kPt (w0 := w) (Rr := kPt.K ((bw w1).alloc (.cells #[.slice A1 q.length c1, .slice (some ⟨w1.heap.size, 0, none⟩) b.length (gc w1)] 22))) w.heap.size rfl (.tmp 19) (.tmp 26) 35 22 (.slice none 0 0) 24 rfl Try.underlying35 info22 rfl (Nat.zero_lt_one) (by omega) u5 ps [⟨A1, c1, q⟩, ⟨some ⟨w1.heap.size, 0, none⟩, gc w1, b⟩] (some ⟨(bw w1).heap.size, 0, none⟩) 2 2 (fun _ => True) (fun _ => False) rfl rfl HO1.out HC2.out (fun x cs hK => hK) (fun _ hk => hk.elim) (fun _ _ => trivial) HD1.out HD1.out.size HL.out ?_; intro v3 w3 hR3 hB3 hG3 hA3; have HR3 := Aside0.mk hR3; have HB3 := Aside0.mk hB3; have HG3 := Aside0.mk hG3; have HA3 := Aside0.mk hA3; clear hR3 hB3 hG3 hA3))
        have HN := Aside0.mk (show ∀ k, u5.ownBlock = some k → k < wr.heap.size from fun k hk => Kd.R_lt HRj.out k hk)
        have HPT : ∀ p ∈ ps ++ [(⟨A1, c1, q⟩ : Pt), ⟨some ⟨w1.heap.size, 0, none⟩, gc w1, b⟩], PtOk w3 v3.ownBlock p := by
          intro p hp
          rcases List.mem_append.1 hp with hp | hp
          · exact ((HO.out p hp).below HWk.out).grown HG3.out HA3.out
          · have hs1 := HB1.out.size
            have hs2 := (HBW.out w1).size
            have hs3 := HBS.out w1
            rcases List.mem_cons.1 hp with rfl | hp
            · refine PtOk.grown (w := (bw w1).alloc _) ⟨HC1.out, Kd.C_below (Kd.R_reads' HR1.out).2.2 ((HBW.out w1).alloc hs2 _), fun ad e => ?_⟩ HG3.out HA3.out
              cases e
              have hb := (Kd.R_bound HR1.out).1 ad.block (by simp [Value.ownBlock])
              refine ⟨by simp; omega, fun h' => ?_⟩
              have := HN.out _ h'.symm
              omega
            · obtain rfl := List.mem_singleton.1 hp
              refine PtOk.grown (w := (bw w1).alloc _) ⟨HGC.out w1, Kd.C_alloc (HBC.out w1) _, fun ad e => ?_⟩ HG3.out HA3.out
              cases e
              refine ⟨by simp; omega, fun h' => ?_⟩
              have := HN.out _ h'.symm
              simp at this
              omega
        have HPT' := Aside0.mk HPT
        clear HPT
        go_roundw
        case rel => exact ⟨j + 1, _, by omega, by go_num, ⟨by rw [List.map_append, HP.out, HT.out]; rfl⟩, ⟨by
          intro s' hs'
          rw [HTK.out] at hs'
          rcases List.mem_append.1 hs' with h' | h'
          · exact HS.out s' h'
          · obtain rfl := List.mem_singleton.1 h'
            exact decide_eq_false (by omega)⟩, HR3, HPT', HB3⟩
        case measure => simp [intOf]; omega
    · have hall : ss.take j = ss := List.take_of_length_le (by omega)
      have HWT := Aside0.mk (show wtexts l ss = wmore l (textsB ss) from if_neg (by
        rw [Bool.not_eq_true, List.any_eq_false]
        intro s hs
        have := HS.out s (by rw [hall]; exact hs)
        rw [this]
        decide))
      have hR := HRj.out
      have hP := HP.out
      rw [hall] at hP
      obtain ⟨A1, c1, rfl, hc1, hC1⟩ := Kd.R_reads hR
      have hC2 : (Kd.slice 5 (Kd.int .u8)).C wr A1 (ps.map Pt.xs).length (ps.map Pt.xs) := by
        rw [List.length_map]
        exact C_of_pts _ hC1 HO.out
      have HWR := Aside0.mk (HW.out.below HB.out)
      obtain ⟨p, hp⟩ : ∃ p, p = textsB ss := ⟨_, rfl⟩
      have hpl := HSUM.out
      rw [← hp] at hpl HWT
      have HM := Aside0.mk (wire_Writer_more.calls S g l A1 ps.length c1 (ps.map Pt.xs) p wr (by rw [List.length_map]) hC2 hc1 (by rw [hP, textsP_flat, hp]) hpl HWR.out hl)
      clear hR hC1 hC2 HRj hp hpl hall hP
      go_wp2_with (go_at_call 52; (with_reducible refine HM.out.mono ?_); rintro e2 w2 ⟨rfl, hw2, hf2⟩; have HE := Aside0.mk (more_end HB.out hw2 hf2); clear hw2 hf2)
      go_ret
      rw [HWT.out]
      exact ⟨rfl, HE.out.1, HE.out.2⟩


end Go.Proofs.Ytjkimfjhfncldaa.Q
