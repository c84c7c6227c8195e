import Derived.Test.YtfjonnpaoeillaaDrawA3
/- Draws of races with a number. -/
set_option linter.unusedVariables false
namespace Go.Proofs.Ytfjonnpaoeillaa
open Go.ChangeShapes Go.WideShapes Go.ChangeAt Go.RowKit
set_option maxRecDepth 100000 in
theorem DrawBestSplit_any (w : World) (a : Option Addr) (n cap : Nat) (zs : List Int) (h : SLB w a n cap zs) :
    Calls Try.prog 32 #[.slice a n cap] w fun e w' => ∃ (p : Option Addr) (m c : Nat) (k : Int), e = .returned (.tuple #[.slice p m c, .int .i64 k]) ∧ (∃ xs, SL w' p m c xs) ∧ m ≤ 10 ∧ I64 k ∧ Fr w w' := by
  have D0 := Dr.start h
  have HE : Hid (∀ (A : Nat) (w' : World), Dr w.heap.size A (w.alloc (.cells #[.slice a n cap, .int .i64 0, .int .u64 0] 66)) w' → Fr w w') := Lib.hid fun A w' h => h.ends rfl
  have hg : w.heap.size < (w.alloc (.cells #[.slice a n cap, .int .i64 0, .int .u64 0] 66)).heap.size := by simp
  clear h
  go_enter Try.func32, Try.ntmps32
  go_wp2_with fail
  generalize w.alloc (.cells #[.slice a n cap, .int .i64 0, .int .u64 0] 66) = v0 at D0 HE hg ⊢
  refine (race_dr _ D0 (by omega)).mono ?_
  rintro e w1 ⟨p, m, c, xs, rfl, op, hm, hx, D1, -⟩
  go_wp2_with fail
  refine (among_dr _ (-1) 13 [4, 6, 3, 12, 0, 13, -1, 8] _ _ _ _ D1 (by omega) rfl rfl (by decide) (by decide) (by first | rfl | simp) (by decide)).mono ?_
  rintro e w2 ⟨k, rfl, hk, D2, E2⟩
  replace op := E2.own op hg
  clear D0 D1 E2
  go_wp2_with fail
  refine (l10Sum_any _ _ _ _ _ op.sl).mono ?_
  rintro e w' ⟨rfl, rfl⟩
  have hws := wsum_rng xs
  generalize wsum xs = s at hws ⊢
  unfold I64 at hws
  go_wp2_with fail
  refine (one_dr _ 3 D2 (by omega) (by unfold I64; omega)).mono ?_
  rintro e w3 ⟨b, rfl, D3, E3⟩
  replace op := E3.own op hg
  clear D2 E3
  cases b
  · go_wp2
    go_ret2
    exact ⟨_, _, _, _, rfl, ⟨_, op.sl⟩, by omega, by unfold I64; omega, HE.out _ _ D3⟩
  · cases hb : inB s 1 12
    · go_wp2_with fail
      refine (l1In_any _ _ _ _).mono ?_
      rintro e w' ⟨rfl, rfl⟩
      rw [hb]
      go_wp2
      go_ret2
      exact ⟨_, _, _, _, rfl, ⟨_, op.sl⟩, by omega, by unfold I64; omega, HE.out _ _ D3⟩
    · have hs := inB_iff.1 hb
      have hs0 : s ≠ 0 := by omega
      go_wp2_with fail
      refine (l1In_any _ _ _ _).mono ?_
      rintro e w' ⟨rfl, rfl⟩
      rw [hb]
      clear hb
      have hq : 0 ≤ 12 / s ∧ 12 / s ≤ 12 := ⟨Int.ediv_nonneg (by omega) (by omega), Int.ediv_le_self _ (by omega)⟩
      go_wp2_with fail
      refine (pick_dr _ _ D3 (by omega) (by unfold I64; omega)).mono ?_
      rintro e w4 ⟨r, rfl, hr, D4, E4⟩
      replace op := E4.own op hg
      clear D3 E4
      generalize 12 / s = t at hq hr ⊢
      have hm2 : 0 ≤ s * (1 + r) ∧ s * (1 + r) ≤ 12 * 13 := ⟨Int.mul_nonneg (by omega) (by omega), Int.mul_le_mul (by omega) (by omega) (by omega) (by omega)⟩
      go_wp2
      go_ret2
      exact ⟨_, _, _, _, rfl, ⟨_, op.sl⟩, by omega, by first | exact I64.wrap _ | (unfold I64; omega), HE.out _ _ D4⟩
end Go.Proofs.Ytfjonnpaoeillaa
