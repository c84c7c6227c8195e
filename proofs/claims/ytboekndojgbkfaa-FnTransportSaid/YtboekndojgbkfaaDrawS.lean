import Derived.Test.YtboekndojgbkfaaDrw
import Derived.Test.YtboekndojgbkfaaTable
import Derived.Test.YtboekndojgbkfaaPlanM
/- Draws of spreads. -/
set_option linter.unusedVariables false
namespace Go.Proofs.Ytboekndojgbkfaa
open Go.ChangeShapes Go.WideShapes Go.ChangeAt Go.RowKit
/-- An append to memory of the draw's own. -/
theorem Dr.app {g A : Nat} {w w' w'' : World} {p : Option Addr} (h : Dr g A w w') (hgr : w'.grownBy w'' (blkOf p)) (hp : ∀ k, blkOf p = some k → w.heap.size ≤ k) (hg : g < w.heap.size) : Dr g A w w'' := by
  refine ⟨h.cur.grown hgr (fun k e => by have := hp k e; omega), ?_⟩
  refine ⟨hgr.os.trans h.grow.os, hgr.tape.trans h.grow.tape, hgr.output.trans h.grow.output, Nat.le_trans h.size hgr.size, fun k hk hne => ?_⟩
  rw [hgr.block k (Nat.lt_of_lt_of_le hk h.size) (fun e => by have := hp k e.symm; omega)]
  exact h.grow.block k hk hne
theorem nth_put (xs : List Int) (i j : Nat) (v : Int) : nth (xs.set i v) j = if i = j ∧ i < xs.length then v else nth xs j := by
  by_cases e : i = j
  · subst e
    by_cases h : i < xs.length
    · rw [if_pos ⟨rfl, h⟩]; simp [nth, h]
    · rw [if_neg (by omega), List.set_eq_of_length_le (by omega)]
  · rw [if_neg (by omega)]; simp [nth, e]
set_option maxRecDepth 100000 in
theorem spread_dr {g A : Nat} {w0 : World} (w : World) (N S : Nat) (h : Dr g A w0 w) (hA : A ≤ 100000000000) (hN : 1 ≤ N ∧ N ≤ 8) (hS : S ≤ 40) :
    Calls Try.prog 115 #[.pointer (some ⟨g, 0, none⟩), .int .i64 N, .int .i64 S] w fun e w' => ∃ (p : Option Addr) (m c : Nat) (xs : List Int), e = .returned (.slice p m c) ∧ Own w.heap.size w' p m c xs ∧ (1 ≤ m ∧ m ≤ 9) ∧ Dr g (A + 300) w0 w' ∧ Dr g (A + 300) w w' := by
  have hg := h.cur.lt
  have hself := Dr.refl h.cur
  have hmk := run_make_row' 22 3 (.int .i64 0) 8 Try.underlying22 infoInt rfl .i64 .i64 N (by omega) (by omega)
  go_enter Try.func115, Try.ntmps115
  go_wp2
  clear hmk
  have hmade := Own.made (B := w.heap.size) w N (Nat.le_refl _) (by unfold maxLen; omega)
  have D0 := hself.alloc (.cells (madeCells #[.int .i64 0] N) 3)
  go_loopw [8] (fun i wr => ∃ (j : Nat) (xs : List Int), j ≤ S ∧ i = .int .i64 j ∧ Own w.heap.size wr (some ⟨w.heap.size, 0, none⟩) N N xs ∧ (∀ t, 0 ≤ nth xs t ∧ nth xs t + j ≤ S) ∧ Dr g (A + 6 * (S - j)) w wr) (fun i _ => (intOf i).toNat)
  case atStart =>
    refine ⟨S, _, Nat.le_refl _, rfl, hmade, fun t => ?_, by rw [Nat.sub_self]; exact D0⟩
    unfold nth; rw [List.getElem?_replicate]; split <;> simp
  case round =>
    clear hmade D0
    obtain ⟨j, xs, hj, rfl, ho, hx, D⟩ := hrel
    have hni : (0 : Int) < (N : Int) := by omega
    by_cases hlt : 0 < j
    · have hji : (0 : Int) < (j : Int) := by omega
      by_cases h4 : (4 : Int) < (j : Int)
      · skip
        go_wp2_with fail
        refine (pick_dr _ j D (by omega) (by unfold I64; omega)).mono ?_
        rintro e w2 ⟨r, rfl, hr, D2, E2⟩
        go_wp2_with fail
        refine (pick_dr _ 4 D2 (by omega) (by unfold I64; omega)).mono ?_
        rintro e w3 ⟨r, rfl, hr, D3, E3⟩
        replace D2 := D3
        replace E2 := E2.trans E3
        have hp : 0 ≤ r ∧ r + 1 ≤ j := by omega
        have D4 : Dr g (A + 6 * (S - j) + 4) w _ := D2.mono (by omega)
        have ho2 := E2.own ho hg
        clear D ho D2 E2
        go_wp2_with fail
        refine (pick_dr _ N D4 (by omega) (by unfold I64; omega)).mono ?_
        rintro e w5 ⟨q, rfl, hq, D5, E5⟩
        have ho5 := E5.own ho2 hg
        clear D4 E5 ho2
        obtain ⟨s, rfl⟩ := Int.eq_ofNat_of_zero_le hq.1
        have hs : s < N := by omega
        obtain ⟨b, hb, hB, hlt2, hcell, hfro⟩ := ho5.op (by omega)
        obtain ⟨rfl⟩ : w.heap.size = b := by simpa using hb
        replace hcell := hcell s hs
        replace hfro := hfro s
        have hxs := hx s
        have i1 : (0 : Int) ≤ (s : Int) := by omega
        have i2 : (s : Int) < (N : Int) := by omega
        clear hq hb
        obtain ⟨R, rfl⟩ := Int.eq_ofNat_of_zero_le hp.1
        go_wp2
        go_roundw
        case rel =>
          refine ⟨j - (R + 1), _, by omega, by go_num, ho5.set rfl hs (by unfold I64; omega), fun t => ?_, (D5.set (Nat.le_refl _) hg _).mono (by omega)⟩
          rw [nth_put]
          have := hx t
          split <;> omega
        case measure => simp [intOf]; omega
      · skip
        go_wp2_with fail
        refine (pick_dr _ j D (by omega) (by unfold I64; omega)).mono ?_
        rintro e w2 ⟨r, rfl, hr, D2, E2⟩
        have hp : 0 ≤ r ∧ r + 1 ≤ j := by omega
        have D4 : Dr g (A + 6 * (S - j) + 4) w _ := D2.mono (by omega)
        have ho2 := E2.own ho hg
        clear D ho D2 E2
        go_wp2_with fail
        refine (pick_dr _ N D4 (by omega) (by unfold I64; omega)).mono ?_
        rintro e w5 ⟨q, rfl, hq, D5, E5⟩
        have ho5 := E5.own ho2 hg
        clear D4 E5 ho2
        obtain ⟨s, rfl⟩ := Int.eq_ofNat_of_zero_le hq.1
        have hs : s < N := by omega
        obtain ⟨b, hb, hB, hlt2, hcell, hfro⟩ := ho5.op (by omega)
        obtain ⟨rfl⟩ : w.heap.size = b := by simpa using hb
        replace hcell := hcell s hs
        replace hfro := hfro s
        have hxs := hx s
        have i1 : (0 : Int) ≤ (s : Int) := by omega
        have i2 : (s : Int) < (N : Int) := by omega
        clear hq hb
        obtain ⟨R, rfl⟩ := Int.eq_ofNat_of_zero_le hp.1
        go_wp2
        go_roundw
        case rel =>
          refine ⟨j - (R + 1), _, by omega, by go_num, ho5.set rfl hs (by unfold I64; omega), fun t => ?_, (D5.set (Nat.le_refl _) hg _).mono (by omega)⟩
          rw [nth_put]
          have := hx t
          split <;> omega
        case measure => simp [intOf]; omega
    · obtain rfl : j = 0 := by omega
      have D1 := D.mono (show A + 6 * (S - 0) ≤ A + 240 by omega)
      clear hlt D
      go_wp2_with fail
      refine (one_dr _ 40 D1 (by omega) (by unfold I64; omega)).mono ?_
      rintro e w2 ⟨b, rfl, D2, E2⟩
      have ho2 := E2.own ho hg
      have zz := D2.size
      clear D1 E2 ho
      cases b
      · skip
        go_wp2_with fail
        refine (one_dr _ 40 D2 (by omega) (by unfold I64; omega)).mono ?_
        rintro e w3 ⟨b, rfl, D3, E3⟩
        have ho3 := E3.own ho2 hg
        clear D2 E3 ho2
        cases b
        · go_wp2
          go_ret
          exact ⟨_, N, _, _, rfl, ho3, by omega, h.trans (D3.mono (by omega)), D3.mono (by omega)⟩
        · go_wp2_with fail
          refine (pick_dr _ N D3 (by omega) (by unfold I64; omega)).mono ?_
          rintro e w4 ⟨q, rfl, hq, D4, E4⟩
          have ho4 := E4.own ho3 hg
          clear D3 E4 ho3
          obtain ⟨s, rfl⟩ := Int.eq_ofNat_of_zero_le hq.1
          have hs : s < N := by omega
          go_wp2_with fail
          refine (among_dr _ (-1) 4611686018427387904 [-1, 0, 41, 4611686018427387904] _ _ _ _ D4 (by omega) rfl rfl (by decide) (by decide) (by first | rfl | simp) (by decide)).mono ?_
          rintro e w5 ⟨z, rfl, hz, D5, E5⟩
          have ho5 := E5.own ho4 hg
          clear D4 E5 ho4
          obtain ⟨b, hb, hB, hlt2, hcell, hfro⟩ := ho5.op (by omega)
          injection hb with hb
          injection hb with hb
          subst hb
          replace hcell := hcell s (by omega)
          replace hfro := hfro s
          have i1 : (0 : Int) ≤ (s : Int) := by omega
          have i2 : (s : Int) < ((N : Nat) : Int) := by omega
          clear hq
          have ho6 := ho5.set rfl (i := s) (by omega) (show I64 z by unfold I64; omega)
          have D6 := D5.set (q := ⟨_, s, none⟩) hB hg (.int .i64 z)
          go_wp2
          go_ret
          exact ⟨_, N, _, _, rfl, ho6, by omega, h.trans (D6.mono (by omega)), D6.mono (by omega)⟩
      · go_wp2_with (at_builtin; refine ap_int _ rfl _ _ rfl w.heap.size _ N N _ _ rfl rfl ho2 zz (by unfold I64; omega) (by omega) ?_)
        intro g' c' w' hown hgr _
        have D3 := D2.app hgr (fun k hk => (ho2.blk k hk).1) hg
        clear ho2 D2
        have D2 := D3
        clear D3
        go_wp2_with fail
        refine (one_dr _ 40 D2 (by omega) (by unfold I64; omega)).mono ?_
        rintro e w3 ⟨b, rfl, D3, E3⟩
        have ho3 := E3.own hown hg
        clear D2 E3 hown
        cases b
        · go_wp2
          go_ret
          exact ⟨_, (N + 1), _, _, rfl, ho3, by omega, h.trans (D3.mono (by omega)), D3.mono (by omega)⟩
        · go_wp2_with fail
          refine (pick_dr _ N D3 (by omega) (by unfold I64; omega)).mono ?_
          rintro e w4 ⟨q, rfl, hq, D4, E4⟩
          have ho4 := E4.own ho3 hg
          clear D3 E4 ho3
          obtain ⟨s, rfl⟩ := Int.eq_ofNat_of_zero_le hq.1
          have hs : s < N := by omega
          go_wp2_with fail
          refine (among_dr _ (-1) 4611686018427387904 [-1, 0, 41, 4611686018427387904] _ _ _ _ D4 (by omega) rfl rfl (by decide) (by decide) (by first | rfl | simp) (by decide)).mono ?_
          rintro e w5 ⟨z, rfl, hz, D5, E5⟩
          have ho5 := E5.own ho4 hg
          clear D4 E5 ho4
          obtain ⟨b, hb, hB, hlt2, hcell, hfro⟩ := ho5.op (by omega)
          injection hb with hb
          injection hb with hb
          subst hb
          replace hcell := hcell s (by omega)
          replace hfro := hfro s
          have i1 : (0 : Int) ≤ (s : Int) := by omega
          have i2 : (s : Int) < (((N + 1) : Nat) : Int) := by omega
          clear hq
          have ho6 := ho5.set rfl (i := s) (by omega) (show I64 z by unfold I64; omega)
          have D6 := D5.set (q := ⟨_, s, none⟩) hB hg (.int .i64 z)
          go_wp2
          go_ret
          exact ⟨_, (N + 1), _, _, rfl, ho6, by omega, h.trans (D6.mono (by omega)), D6.mono (by omega)⟩
end Go.Proofs.Ytboekndojgbkfaa
