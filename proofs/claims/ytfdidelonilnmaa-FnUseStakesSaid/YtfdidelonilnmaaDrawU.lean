import Derived.Test.YtfdidelonilnmaaDrawS2
import Derived.Test.YtfdidelonilnmaaUse
/- Draws of uses. -/
set_option linter.unusedVariables false
namespace Go.Proofs.Ytfdidelonilnmaa
open Go.ChangeShapes Go.WideShapes Go.ChangeAt Go.RowKit
set_option maxRecDepth 100000 in
theorem use_dr {g A : Nat} {w0 : World} (w : World) (N : Nat) (h : Dr g A w0 w) (hA : A ≤ 10000000000) (hN : N ≤ 20) :
    Calls Try.prog 95 #[.pointer (some ⟨g, 0, none⟩), .int .i64 N] w fun e w' => ∃ (p : Option Addr) (c : Nat) (xs : List Int), e = .returned (.slice p N c) ∧ Own w.heap.size w' p N c xs ∧ Dr g (A + 200) w0 w' ∧ Dr g (A + 200) w w' := by
  have hg := h.cur.lt
  have hself := Dr.refl h.cur
  have o0 := Own.made0 (B := w.heap.size) w (Nat.le_refl _)
  go_enter Try.func95, Try.ntmps95
  go_wp2_with fail
  refine (pick_dr _ 10 (hself.alloc (.cells #[] 3)) (by omega) (by unfold I64; omega)).mono ?_
  rintro e w1 ⟨x, rfl, hx, D1, E1⟩
  replace o0 := E1.own o0 hg
  clear E1 hself
  go_wp2_with fail
  refine (pick_dr _ 4 D1 (by omega) (by unfold I64; omega)).mono ?_
  rintro e w2 ⟨K, rfl, hK, D2, E2⟩
  replace o0 := E2.own o0 hg
  have z2 := D2.size
  clear E2 D1
  go_wp2
  go_loopw [5, 6, 7, 9] (fun o x s i wr => ∃ (j : Nat) (p : Option Addr) (c : Nat) (xs : List Int) (X S : Int), j ≤ N ∧ i = .int .i64 j ∧ o = .slice p j c ∧ x = .int .i64 X ∧ s = .int .i64 S ∧ (0 ≤ X ∧ X ≤ 100 + 20 * j) ∧ (0 ≤ S ∧ S ≤ 20) ∧ Own w.heap.size wr p j c xs ∧ Dr g (A + 4 + 4 * j) w wr ∧ w.heap.size ≤ wr.heap.size) (fun _ _ _ i _ => N - (intOf i).toNat)
  case atStart => exact ⟨0, _, _, [], x, 20, Nat.zero_le _, rfl, rfl, rfl, rfl, by omega, by omega, o0, D2.mono (by omega), z2⟩
  case round =>
    clear o0 D2 z2 hx
    obtain ⟨j, p, c, xs, X, S, hj, rfl, rfl, rfl, rfl, hX, hS, op, D, zz⟩ := hrel
    by_cases hlt : j < N
    · have hji : (j : Int) < (N : Int) := by omega
      go_wp2_with (at_builtin; refine ap_int _ rfl _ _ rfl w.heap.size p j c _ _ rfl rfl op zz (by unfold I64; omega) (by omega) ?_)
      intro g' c' w' hown hgr _
      have D3 := D.app hgr (fun k hk => (op.blk k hk).1) hg
      have z3 := Nat.le_trans zz hgr.size
      clear op D zz
      by_cases k0 : K = 0 ∨ K = 1
      · rcases k0 with rfl | rfl
        all_goals
          go_wp2_with fail
          refine (pick_dr _ 5 D3 (by omega) (by unfold I64; omega)).mono ?_
          rintro e w4 ⟨r, rfl, hr, D4, E4⟩
          have o4 := E4.own hown hg
          have z4 := Nat.le_trans z3 E4.size
          clear D3 E4 hown
          go_wp2_with fail
          refine (l1Most_any _ _ _).mono ?_
          rintro e w' ⟨rfl, rfl⟩
          have hm : 0 ≤ max (S - r) 0 ∧ max (S - r) 0 ≤ 20 := by omega
          generalize max (S - r) 0 = M at hm ⊢
          go_wp2
          go_roundw
          case rel => exact ⟨j + 1, _, _, _, X + M, M, by omega, by go_num, rfl, rfl, rfl, by omega, by omega, o4, D4.mono (by omega), z4⟩
          case measure => simp [intOf]; omega
      · have n0 : (K == 0) = false := by rw [beq_eq_false_iff_ne]; omega
        have n1 : (K == 1) = false := by rw [beq_eq_false_iff_ne]; omega
        by_cases k2 : K = 2
        · subst k2
          go_wp2_with fail
          refine (pick_dr _ 12 D3 (by omega) (by unfold I64; omega)).mono ?_
          rintro e w4 ⟨r, rfl, hr, D4, E4⟩
          have o4 := E4.own hown hg
          have z4 := Nat.le_trans z3 E4.size
          clear D3 E4 hown
          go_wp2
          go_roundw
          case rel => exact ⟨j + 1, _, _, _, X + r, S, by omega, by go_num, rfl, rfl, rfl, by omega, by omega, o4, D4.mono (by omega), z4⟩
          case measure => simp [intOf]; omega
        · have n2 : (K == 2) = false := by rw [beq_eq_false_iff_ne]; omega
          go_wp2_with fail
          refine (pick_dr _ 60 D3 (by omega) (by unfold I64; omega)).mono ?_
          rintro e w4 ⟨r, rfl, hr, D4, E4⟩
          have o4 := E4.own hown hg
          have z4 := Nat.le_trans z3 E4.size
          clear D3 E4 hown
          go_wp2
          go_roundw
          case rel => exact ⟨j + 1, _, _, _, r, S, by omega, by go_num, rfl, rfl, rfl, by omega, by omega, o4, D4.mono (by omega), z4⟩
          case measure => simp [intOf]; omega
    · obtain rfl : j = N := by omega
      by_cases h0 : j = 0
      · subst h0
        go_wp2
        go_ret
        first | exact ⟨p, c, xs, rfl, op, h.trans (D.mono (by omega)), D.mono (by omega)⟩ | exact ⟨p, c, rfl, xs, op, h.trans (D.mono (by omega)), D.mono (by omega)⟩
      · have hji : (0 : Int) < (j : Int) := by omega
        go_wp2_with fail
        refine (one_dr _ 24 D (by omega) (by unfold I64; omega)).mono ?_
        rintro e w4 ⟨b, rfl, D4, E4⟩
        replace op := E4.own op hg
        clear D E4
        cases b
        · go_wp2
          go_ret
          exact ⟨p, c, xs, rfl, op, h.trans (D4.mono (by omega)), D4.mono (by omega)⟩
        · go_wp2_with fail
          refine (pick_dr _ j D4 (by omega) (by unfold I64; omega)).mono ?_
          rintro e w5 ⟨q, rfl, hq, D5, E5⟩
          replace op := E5.own op hg
          clear D4 E5
          obtain ⟨s, rfl⟩ := Int.eq_ofNat_of_zero_le hq.1
          have hs : s < j := by omega
          go_wp2_with fail
          refine (among_dr _ (-1) 1000 [999, 1000, -1, 0] _ _ _ _ D5 (by omega) rfl rfl (by decide) (by decide) (by first | rfl | simp) (by decide)).mono ?_
          rintro e w6 ⟨z, rfl, hz, D6, E6⟩
          replace op := E6.own op hg
          clear D5 E6
          obtain ⟨b, rfl, hB, hlt2, hcell, hfro⟩ := op.op (by omega)
          replace hcell := hcell s hs
          replace hfro := hfro s
          have i1 : (0 : Int) ≤ (s : Int) := by omega
          have i2 : (s : Int) < (j : Int) := by omega
          clear hq
          have o6 := op.set rfl (i := s) hs (show I64 z by unfold I64; omega)
          have D7 := D6.set (q := ⟨b, s, none⟩) hB hg (.int .i64 z)
          go_wp2
          go_ret
          exact ⟨_, _, _, rfl, o6, h.trans (D7.mono (by omega)), D7.mono (by omega)⟩
theorem purse_dr {g A : Nat} {w0 : World} (w : World) (h : Dr g A w0 w) (hA : A ≤ 1000000000) :
    Calls Try.prog 78 #[.pointer (some ⟨g, 0, none⟩)] w fun e w' => ∃ (p : Option Addr) (n c : Nat) (xs : List Int), e = .returned (.slice p n c) ∧ n ≤ 14 ∧ Own w.heap.size w' p n c xs ∧ Dr g (A + 300) w0 w' ∧ Dr g (A + 300) w w' := by
  have hself := Dr.refl h.cur
  go_enter Try.func78, Try.ntmps78
  go_wp2_with fail
  refine (among_dr _ 0 14 [5, 7, 4, 9, 3, 2, 1, 13, 14, 0, 6] _ _ _ _ hself (by omega) rfl rfl (by decide) (by decide) (by first | rfl | simp) (by decide)).mono ?_
  rintro e w1 ⟨n, rfl, hn, D1, E1⟩
  obtain ⟨N, rfl⟩ := Int.eq_ofNat_of_zero_le hn.1
  have z1 := D1.size
  go_wp2_with fail
  refine (use_dr _ N D1 (by omega) (by omega)).mono ?_
  rintro e w2 ⟨p, c, xs, rfl, op, D2, E2⟩
  go_wp2
  go_ret
  exact ⟨p, N, c, xs, rfl, by omega, op.mono z1, h.trans (D2.mono (by omega)), D2.mono (by omega)⟩
theorem chancy_dr {g A : Nat} {w0 : World} (w : World) (h : Dr g A w0 w) (hA : A ≤ 1000000000) :
    Calls Try.prog 79 #[.pointer (some ⟨g, 0, none⟩)] w fun e w' => ∃ (x y : Int), e = .returned (.tuple #[.int .i64 x, .int .i64 y]) ∧ (-1 ≤ x ∧ x ≤ 5) ∧ (-1 ≤ y ∧ y ≤ 5) ∧ Dr g (A + 300) w0 w' ∧ Dr g (A + 300) w w' := by
  have hself := Dr.refl h.cur
  go_enter Try.func79, Try.ntmps79
  go_wp2_with fail
  refine (among_dr _ (-1) 5 [1, 1, 2, 3, 4, 0, 1, 5] _ _ _ _ hself (by omega) rfl rfl (by decide) (by decide) (by first | rfl | simp) (by decide)).mono ?_
  rintro e w1 ⟨x, rfl, hx, D1, E1⟩
  go_wp2_with fail
  refine (among_dr _ (-1) 5 [1, 1, 2, 3, 4, 0, 2, -1] _ _ _ _ D1 (by omega) rfl rfl (by decide) (by decide) (by first | rfl | simp) (by decide)).mono ?_
  rintro e w2 ⟨y, rfl, hy, D2, E2⟩
  go_wp2
  go_ret2
  exact ⟨x, y, rfl, hx, hy, h.trans (D2.mono (by omega)), D2.mono (by omega)⟩
end Go.Proofs.Ytfdidelonilnmaa
