import Derived.Test.YtfjonnpaoeillaaDrw
import Derived.Test.YtfjonnpaoeillaaShare
import Derived.Test.YtfjonnpaoeillaaTable
/- Draws of bets, races and splits. -/
set_option linter.unusedVariables false
namespace Go.Proofs.Ytfjonnpaoeillaa
open Go.ChangeShapes Go.WideShapes Go.ChangeAt Go.RowKit
set_option maxRecDepth 100000 in
theorem bet_dr {g A : Nat} {w0 : World} (w : World) (h : Dr g A w0 w) (hA : A ≤ 100000000000) :
    Calls Try.prog 52 #[.pointer (some ⟨g, 0, none⟩)] w fun e w' => ∃ a b x y : Int, e = .returned (.tuple #[.int .i64 a, .int .i64 b, .int .i64 x, .int .i64 y]) ∧ (-1 ≤ a ∧ a ≤ 10) ∧ (-1 ≤ b ∧ b ≤ 10) ∧ (-1 ≤ x ∧ x ≤ 10) ∧ (-1 ≤ y ∧ y ≤ 10) ∧ Dr g (A + 12) w0 w' := by
  go_enter Try.func52, Try.ntmps52
  go_wp2_with fail
  refine (among_dr w (-1) 10 [1, 1, 2, 3, 5, 9] _ _ _ _ h (by omega) rfl rfl (by decide) (by decide) (by first | rfl | simp) (by decide)).mono ?_
  rintro e w1 ⟨a, rfl, ha, D1, -⟩
  go_wp2_with fail
  refine (among_dr w1 (-1) 10 [1, 1, 2, 3, 9] _ _ _ _ D1 (by omega) rfl rfl (by decide) (by decide) (by first | rfl | simp) (by decide)).mono ?_
  rintro e w2 ⟨b, rfl, hb, D2, -⟩
  go_wp2_with fail
  refine (among_dr w2 (-1) 10 [1, 2, 3, 4, 0] _ _ _ _ D2 (by omega) rfl rfl (by decide) (by decide) (by first | rfl | simp) (by decide)).mono ?_
  rintro e w3 ⟨x, rfl, hx, D3, -⟩
  go_wp2_with fail
  refine (among_dr w3 (-1) 10 [1, 2, 3, 4, 0] _ _ _ _ D3 (by omega) rfl rfl (by decide) (by decide) (by first | rfl | simp) (by decide)).mono ?_
  rintro e w4 ⟨y, rfl, hy, D4, -⟩
  go_wp2_with fail
  refine (pick_dr w4 30 D4 (by omega) (by unfold I64; omega)).mono ?_
  rintro e w5 ⟨r, rfl, hr, D5, -⟩
  clear D1 D2 D3 D4 h
  by_cases r0 : r = 0
  · subst r0
    go_wp2_with fail
    refine (among_dr w5 (-1) 10 [0, 10, -1] _ _ _ _ D5 (by omega) rfl rfl (by decide) (by decide) (by first | rfl | simp) (by decide)).mono ?_
    rintro e w6 ⟨z, rfl, hz, D6, -⟩
    go_wp2
    refine bodyPost_ret (v := .tuple #[.int .i64 z, .int .i64 b, .int .i64 x, .int .i64 y]) (by simp [results, Try.results52, go_sem]) rfl ?_
    exact ⟨_, _, _, _, rfl, by omega, by omega, by omega, by omega, D6.mono (by omega)⟩
  · have r0i : (r == 0) = false := by rw [beq_eq_false_iff_ne]; exact r0
    by_cases r1 : r = 1
    · subst r1
      go_wp2_with fail
      refine (among_dr w5 (-1) 10 [0, 10, -1] _ _ _ _ D5 (by omega) rfl rfl (by decide) (by decide) (by first | rfl | simp) (by decide)).mono ?_
      rintro e w6 ⟨z, rfl, hz, D6, -⟩
      go_wp2
      refine bodyPost_ret (v := .tuple #[.int .i64 a, .int .i64 z, .int .i64 x, .int .i64 y]) (by simp [results, Try.results52, go_sem]) rfl ?_
      exact ⟨_, _, _, _, rfl, by omega, by omega, by omega, by omega, D6.mono (by omega)⟩
    · have r1i : (r == 1) = false := by rw [beq_eq_false_iff_ne]; exact r1
      by_cases r2 : r = 2
      · subst r2
        go_wp2_with fail
        refine (among_dr w5 (-1) 10 [5, -1] _ _ _ _ D5 (by omega) rfl rfl (by decide) (by decide) (by first | rfl | simp) (by decide)).mono ?_
        rintro e w6 ⟨z, rfl, hz, D6, -⟩
        go_wp2
        refine bodyPost_ret (v := .tuple #[.int .i64 a, .int .i64 b, .int .i64 z, .int .i64 y]) (by simp [results, Try.results52, go_sem]) rfl ?_
        exact ⟨_, _, _, _, rfl, by omega, by omega, by omega, by omega, D6.mono (by omega)⟩
      · have r2i : (r == 2) = false := by rw [beq_eq_false_iff_ne]; exact r2
        by_cases r3 : r = 3
        · subst r3
          go_wp2_with fail
          refine (among_dr w5 (-1) 10 [5, -1] _ _ _ _ D5 (by omega) rfl rfl (by decide) (by decide) (by first | rfl | simp) (by decide)).mono ?_
          rintro e w6 ⟨z, rfl, hz, D6, -⟩
          go_wp2
          refine bodyPost_ret (v := .tuple #[.int .i64 a, .int .i64 b, .int .i64 x, .int .i64 z]) (by simp [results, Try.results52, go_sem]) rfl ?_
          exact ⟨_, _, _, _, rfl, by omega, by omega, by omega, by omega, D6.mono (by omega)⟩
        · have r3i : (r == 3) = false := by rw [beq_eq_false_iff_ne]; exact r3
          go_wp2
          refine bodyPost_ret (v := .tuple #[.int .i64 a, .int .i64 b, .int .i64 x, .int .i64 y]) (by simp [results, Try.results52, go_sem]) rfl ?_
          exact ⟨_, _, _, _, rfl, by omega, by omega, by omega, by omega, D5.mono (by omega)⟩
theorem grid_dr {g A : Nat} {w0 : World} (w : World) (h : Dr g A w0 w) (hA : A ≤ 100000000000) :
    Calls Try.prog 53 #[.pointer (some ⟨g, 0, none⟩)] w fun e w' => ∃ n : Int, e = .returned (.int .i64 n) ∧ (0 ≤ n ∧ n ≤ 11) ∧ Dr g (A + 2) w0 w' := by
  go_enter Try.func53, Try.ntmps53
  go_wp2_with fail
  refine (among_dr w 0 11 [4, 10, 5, 6, 1, 2, 8, 3, 0, 11] _ _ _ _ h (by omega) rfl rfl (by decide) (by decide) (by first | rfl | simp) (by decide)).mono ?_
  rintro e w1 ⟨n, rfl, hn, D1, -⟩
  go_wp2
  go_ret
  exact ⟨n, rfl, hn, D1⟩
theorem DrawBestShare_any (w : World) (a : Option Addr) (n cap : Nat) (zs : List Int) (h : SLB w a n cap zs) :
    Calls Try.prog 28 #[.slice a n cap] w fun e w' => ∃ a b x y k : Int, e = .returned (.tuple #[.int .i64 a, .int .i64 b, .int .i64 x, .int .i64 y, .int .i64 k]) ∧ (-1 ≤ a ∧ a ≤ 10) ∧ (-1 ≤ b ∧ b ≤ 10) ∧ (-1 ≤ x ∧ x ≤ 10) ∧ (-1 ≤ y ∧ y ≤ 10) ∧ (0 ≤ k ∧ k ≤ 11) ∧ Fr w w' := by
  have D0 := Dr.start h
  clear h
  go_enter Try.func28, Try.ntmps28
  go_wp2_with fail
  refine (bet_dr _ D0 (by omega)).mono ?_
  rintro e w1 ⟨p, q, x, y, rfl, hp, hq, hx, hy, D1⟩
  go_wp2_with fail
  refine (grid_dr _ D1 (by omega)).mono ?_
  rintro e w2 ⟨k, rfl, hk, D2⟩
  go_wp2
  refine bodyPost_ret (v := .tuple #[.int .i64 p, .int .i64 q, .int .i64 x, .int .i64 y, .int .i64 k]) (by simp [results, Try.results28, go_sem]) rfl ?_
  exact ⟨_, _, _, _, _, rfl, hp, hq, hx, hy, hk, D2.ends rfl⟩
theorem DrawGrowthOf_any (w : World) (a : Option Addr) (n cap : Nat) (zs : List Int) (h : SLB w a n cap zs) :
    Calls Try.prog 29 #[.slice a n cap] w fun e w' => ∃ a b x y k m : Int, e = .returned (.tuple #[.int .i64 a, .int .i64 b, .int .i64 x, .int .i64 y, .int .i64 k, .int .i64 m]) ∧ (-1 ≤ a ∧ a ≤ 10) ∧ (-1 ≤ b ∧ b ≤ 10) ∧ (-1 ≤ x ∧ x ≤ 10) ∧ (-1 ≤ y ∧ y ≤ 10) ∧ (0 ≤ k ∧ k ≤ 11) ∧ (-1 ≤ m ∧ m ≤ 13) ∧ Fr w w' := by
  have D0 := Dr.start h
  clear h
  go_enter Try.func29, Try.ntmps29
  go_wp2_with fail
  refine (bet_dr _ D0 (by omega)).mono ?_
  rintro e w1 ⟨p, q, x, y, rfl, hp, hq, hx, hy, D1⟩
  go_wp2_with fail
  refine (grid_dr _ D1 (by omega)).mono ?_
  rintro e w2 ⟨k, rfl, hk, D2⟩
  go_wp2_with fail
  refine (pick_dr _ _ D2 (by omega) (by unfold I64; omega)).mono ?_
  rintro e w3 ⟨r, rfl, hr, D3, -⟩
  go_wp2_with fail
  refine (pick_dr _ _ D3 (by omega) (by unfold I64; omega)).mono ?_
  rintro e w4 ⟨s, rfl, hs, D4, -⟩
  have hd : 0 ≤ s / 11 ∧ s / 11 ≤ 1 := by omega
  go_wp2
  refine bodyPost_ret (v := .tuple #[.int .i64 p, .int .i64 q, .int .i64 x, .int .i64 y, .int .i64 k, .int .i64 (r - s / 11)]) (by simp [results, Try.results29, go_sem]) rfl ?_
  exact ⟨_, _, _, _, _, _, rfl, hp, hq, hx, hy, hk, by omega, D4.ends rfl⟩
end Go.Proofs.Ytfjonnpaoeillaa
