import Derived.Test.YtfdidelonilnmaaDrawU
/- Draws for the laws of uses. -/
set_option linter.unusedVariables false
namespace Go.Proofs.Ytfdidelonilnmaa
open Go.ChangeShapes Go.WideShapes Go.ChangeAt Go.RowKit
theorem use_drk {g A : Nat} {w0 : World} (w : World) (N : Nat) (k : Int) (hk : k = (N : Int)) (h : Dr g A w0 w) (hA : A ≤ 10000000000) (hN : N ≤ 20) :
    Calls Try.prog 95 #[.pointer (some ⟨g, 0, none⟩), .int .i64 k] w fun e w' => ∃ (p : Option Addr) (c : Nat) (xs : List Int), e = .returned (.slice p N c) ∧ Own w.heap.size w' p N c xs ∧ Dr g (A + 200) w0 w' ∧ Dr g (A + 200) w w' := by
  subst hk; exact use_dr w N h hA hN
theorem quo11 {r : Int} (h : 0 ≤ r ∧ (r < 12 ∨ r = 0)) : 0 ≤ r / 11 ∧ r / 11 ≤ 1 := by omega
set_option maxRecDepth 100000 in
theorem DrawMeanUse_any (w : World) (a : Option Addr) (n cap : Nat) (zs : List Int) (h : SLB w a n cap zs) :
    Calls Try.prog 84 #[.slice a n cap] w fun e w' => ∃ (p : Option Addr) (m c : Nat) (q : Option Addr) (k d : Nat), e = .returned (.tuple #[.slice p m c, .slice q k d]) ∧ (∃ xs ys, SL w' p m c xs ∧ SL w' q k d ys) ∧ m ≤ 10 ∧ k ≤ 20 ∧ Fr w w' := by
  have D0 := Dr.start h
  have HE : Hid (∀ (A : Nat) (w' : World), Dr w.heap.size A (w.alloc (.cells #[.slice a n cap, .int .i64 0, .int .u64 0] 70)) w' → Fr w w') := Lib.hid fun A w' h => h.ends rfl
  have hz0 : w.heap.size ≤ (w.alloc (.cells #[.slice a n cap, .int .i64 0, .int .u64 0] 70)).heap.size := by simp
  have hg : w.heap.size < (w.alloc (.cells #[.slice a n cap, .int .i64 0, .int .u64 0] 70)).heap.size := by simp
  clear h
  go_enter Try.func84, Try.ntmps84
  go_wp2_with fail
  generalize w.alloc (.cells #[.slice a n cap, .int .i64 0, .int .u64 0] 70) = v0 at D0 HE hg hz0 ⊢
  refine (twoSpreads_dr _ D0 (by omega)).mono ?_
  rintro e w1 ⟨p, m, c, q, k, d, rfl, ⟨xs, ys, op, oq⟩, hm, hk, D1, -⟩
  clear D0 oq
  go_wp2_with fail
  refine (one_dr _ 20 D1 (by omega) (by unfold I64; omega)).mono ?_
  rintro e w2 ⟨b, rfl, D2, E2⟩
  replace op := E2.own op hg
  clear D1 E2
  cases b
  · go_wp2_with fail
    refine (use_dr _ m D2 (by omega) (by omega)).mono ?_
    rintro e w3 ⟨p3, c3, us, rfl, o3, D3, E3⟩
    replace op := E3.own op hg
    go_wp2
    go_ret2
    exact ⟨_, _, _, _, _, _, rfl, ⟨_, _, op.sl, o3.sl⟩, by omega, by omega, HE.out _ _ D3⟩
  · go_wp2_with fail
    refine (use_drk _ (m + 1) _ (by omega) D2 (by omega) (by omega)).mono ?_
    rintro e w3 ⟨p3, c3, us, rfl, o3, D3, E3⟩
    replace op := E3.own op hg
    go_wp2
    go_ret2
    exact ⟨_, _, _, _, _, _, rfl, ⟨_, _, op.sl, o3.sl⟩, by omega, by omega, HE.out _ _ D3⟩
theorem DrawSureCoins_any (w : World) (a : Option Addr) (n cap : Nat) (zs : List Int) (h : SLB w a n cap zs) :
    Calls Try.prog 49 #[.slice a n cap] w fun e w' => ∃ (p : Option Addr) (m c : Nat) (q : Option Addr) (k d : Nat), e = .returned (.tuple #[.slice p m c, .slice q k d]) ∧ (∃ xs ys, SL w' p m c xs ∧ SL w' q k d ys) ∧ m ≤ 10 ∧ k ≤ 20 ∧ Fr w w' := by
  go_enter Try.func49, Try.ntmps49
  go_wp2_with fail
  refine (DrawMeanUse_any w a n cap zs h).mono ?_
  rintro e w1 ⟨p, m, c, q, k, d, rfl, hx, hm, hk, f⟩
  go_wp2
  go_ret2
  exact ⟨_, _, _, _, _, _, rfl, hx, hm, hk, f⟩
theorem DrawIsAbove_any (w : World) (a : Option Addr) (n cap : Nat) (zs : List Int) (h : SLB w a n cap zs) :
    Calls Try.prog 50 #[.slice a n cap] w fun e w' => ∃ (p : Option Addr) (m c : Nat) (q : Option Addr) (k d : Nat), e = .returned (.tuple #[.slice p m c, .slice q k d]) ∧ (∃ xs ys, SL w' p m c xs ∧ SL w' q k d ys) ∧ m ≤ 10 ∧ k ≤ 20 ∧ Fr w w' := by
  have D0 := Dr.start h
  have HE : Hid (∀ (A : Nat) (w' : World), Dr w.heap.size A (w.alloc (.cells #[.slice a n cap, .int .i64 0, .int .u64 0] 70)) w' → Fr w w') := Lib.hid fun A w' h => h.ends rfl
  have hz0 : w.heap.size ≤ (w.alloc (.cells #[.slice a n cap, .int .i64 0, .int .u64 0] 70)).heap.size := by simp
  have hg : w.heap.size < (w.alloc (.cells #[.slice a n cap, .int .i64 0, .int .u64 0] 70)).heap.size := by simp
  clear h
  go_enter Try.func50, Try.ntmps50
  go_wp2_with fail
  generalize w.alloc (.cells #[.slice a n cap, .int .i64 0, .int .u64 0] 70) = v0 at D0 HE hg hz0 ⊢
  refine (orders_dr _ D0 (by omega)).mono ?_
  rintro e w1 ⟨p, m, c, q, k, d, rfl, ⟨xs, ys, op, oq⟩, hm, hk, D1, -⟩
  go_wp2
  go_ret2
  exact ⟨_, _, _, _, _, _, rfl, ⟨_, _, op.sl, oq.sl⟩, by omega, by omega, HE.out _ _ D1⟩
theorem DrawUseTable_any (w : World) (a : Option Addr) (n cap : Nat) (zs : List Int) (h : SLB w a n cap zs) :
    Calls Try.prog 43 #[.slice a n cap] w fun e w' => ∃ (p : Option Addr) (m c : Nat) (x y r : Int), e = .returned (.tuple #[.slice p m c, .int .i64 x, .int .i64 y, .int .i64 r]) ∧ (∃ xs, SL w' p m c xs) ∧ m ≤ 14 ∧ (-1 ≤ x ∧ x ≤ 5) ∧ (-1 ≤ y ∧ y ≤ 5) ∧ (-1 ≤ r ∧ r ≤ 6) ∧ Fr w w' := by
  have D0 := Dr.start h
  have HE : Hid (∀ (A : Nat) (w' : World), Dr w.heap.size A (w.alloc (.cells #[.slice a n cap, .int .i64 0, .int .u64 0] 70)) w' → Fr w w') := Lib.hid fun A w' h => h.ends rfl
  have hz0 : w.heap.size ≤ (w.alloc (.cells #[.slice a n cap, .int .i64 0, .int .u64 0] 70)).heap.size := by simp
  have hg : w.heap.size < (w.alloc (.cells #[.slice a n cap, .int .i64 0, .int .u64 0] 70)).heap.size := by simp
  clear h
  go_enter Try.func43, Try.ntmps43
  go_wp2_with fail
  generalize w.alloc (.cells #[.slice a n cap, .int .i64 0, .int .u64 0] 70) = v0 at D0 HE hg hz0 ⊢
  refine (purse_dr _ D0 (by omega)).mono ?_
  rintro e w1 ⟨p, m, c, xs, rfl, hm, op, D1, -⟩
  clear D0
  go_wp2_with fail
  refine (chancy_dr _ D1 (by omega)).mono ?_
  rintro e w2 ⟨x, y, rfl, hx, hy, D2, E2⟩
  replace op := E2.own op hg
  clear D1 E2
  go_wp2_with fail
  refine (among_dr _ (-1) 6 [1, 2, 3, 0, 5, 6, -1, 4] _ _ _ _ D2 (by omega) rfl rfl (by decide) (by decide) (by first | rfl | simp) (by decide)).mono ?_
  rintro e w3 ⟨r, rfl, hr, D3, E3⟩
  replace op := E3.own op hg
  clear D2 E3
  go_wp2
  refine bodyPost_ret (v := .tuple #[.slice p m c, .int .i64 x, .int .i64 y, .int .i64 r]) (by simp [results, Try.results43, go_sem]) rfl ?_
  exact ⟨_, _, _, _, _, _, rfl, ⟨_, op.sl⟩, hm, hx, hy, hr, HE.out _ _ D3⟩
theorem DrawUseStake_any (w : World) (a : Option Addr) (n cap : Nat) (zs : List Int) (h : SLB w a n cap zs) :
    Calls Try.prog 81 #[.slice a n cap] w fun e w' => ∃ (p : Option Addr) (m c : Nat) (x y r s : Int), e = .returned (.tuple #[.slice p m c, .int .i64 x, .int .i64 y, .int .i64 r, .int .i64 s]) ∧ (∃ xs, SL w' p m c xs) ∧ m ≤ 14 ∧ (-1 ≤ x ∧ x ≤ 5) ∧ (-1 ≤ y ∧ y ≤ 5) ∧ (-1 ≤ r ∧ r ≤ 6) ∧ (-1 ≤ s ∧ s ≤ 20) ∧ Fr w w' := by
  have D0 := Dr.start h
  have HE : Hid (∀ (A : Nat) (w' : World), Dr w.heap.size A (w.alloc (.cells #[.slice a n cap, .int .i64 0, .int .u64 0] 70)) w' → Fr w w') := Lib.hid fun A w' h => h.ends rfl
  have hz0 : w.heap.size ≤ (w.alloc (.cells #[.slice a n cap, .int .i64 0, .int .u64 0] 70)).heap.size := by simp
  have hg : w.heap.size < (w.alloc (.cells #[.slice a n cap, .int .i64 0, .int .u64 0] 70)).heap.size := by simp
  clear h
  go_enter Try.func81, Try.ntmps81
  go_wp2_with fail
  generalize w.alloc (.cells #[.slice a n cap, .int .i64 0, .int .u64 0] 70) = v0 at D0 HE hg hz0 ⊢
  refine (purse_dr _ D0 (by omega)).mono ?_
  rintro e w1 ⟨p, m, c, xs, rfl, hm, op, D1, -⟩
  clear D0
  go_wp2_with fail
  refine (chancy_dr _ D1 (by omega)).mono ?_
  rintro e w2 ⟨x, y, rfl, hx, hy, D2, E2⟩
  replace op := E2.own op hg
  clear D1 E2
  go_wp2_with fail
  refine (among_dr _ (-1) 6 [1, 2, 3, 0, 5, 6, 1, 4] _ _ _ _ D2 (by omega) rfl rfl (by decide) (by decide) (by first | rfl | simp) (by decide)).mono ?_
  rintro e w3 ⟨r, rfl, hr, D3, E3⟩
  replace op := E3.own op hg
  clear D2 E3
  go_wp2_with fail
  refine (pick_dr _ _ D3 (by omega) (by unfold I64; omega)).mono ?_
  rintro e w4 ⟨s, rfl, hs, D4, E4⟩
  replace op := E4.own op hg
  clear D3 E4
  go_wp2_with fail
  refine (pick_dr _ 12 D4 (by omega) (by unfold I64; omega)).mono ?_
  rintro e w5 ⟨t, rfl, ht, D5, E5⟩
  replace op := E5.own op hg
  clear D4 E5
  have hd := quo11 ht
  go_wp2
  refine bodyPost_ret (v := .tuple #[.slice p m c, .int .i64 x, .int .i64 y, .int .i64 r, .int .i64 (s - t / 11)]) (by simp [results, Try.results81, go_sem]) rfl ?_
  exact ⟨_, _, _, _, _, _, _, rfl, ⟨_, op.sl⟩, hm, hx, hy, hr, by omega, HE.out _ _ D5⟩
theorem DrawStakeLoss_any (w : World) (a : Option Addr) (n cap : Nat) (zs : List Int) (h : SLB w a n cap zs) :
    Calls Try.prog 45 #[.slice a n cap] w fun e w' => ∃ (p : Option Addr) (m c : Nat) (x y r s t : Int), e = .returned (.tuple #[.slice p m c, .int .i64 x, .int .i64 y, .int .i64 r, .int .i64 s, .int .i64 t]) ∧ (∃ xs, SL w' p m c xs) ∧ m ≤ 14 ∧ (-1 ≤ x ∧ x ≤ 5) ∧ (-1 ≤ y ∧ y ≤ 5) ∧ (-1 ≤ r ∧ r ≤ 6) ∧ (-1 ≤ s ∧ s ≤ 20) ∧ (-1 ≤ t ∧ t ≤ 50) ∧ Fr w w' := by
  have H := Lib.hid h
  clear h
  go_enter Try.func45, Try.ntmps45
  go_wp2_with fail
  refine (DrawUseStake_any w a n cap zs H.out).mono ?_
  rintro e w1 ⟨p, m, c, x, y, r, s, rfl, ⟨xs, hp⟩, hm, hx, hy, hr, hs, f1⟩
  have D0 := Dr.start (H.out.fr f1)
  have HE : Hid (∀ (A : Nat) (w' : World), Dr w1.heap.size A (w1.alloc (.cells #[.slice a n cap, .int .i64 0, .int .u64 0] 70)) w' → Fr w1 w') := Lib.hid fun A w' h => h.ends rfl
  go_wp2_with fail
  refine (l1Least_any _ _ _).mono ?_
  rintro e w' ⟨rfl, rfl⟩
  go_wp2_with fail
  refine (l1Most_any _ _ _).mono ?_
  rintro e w' ⟨rfl, rfl⟩
  have hb : 0 ≤ max (min s ((m : Int) - 1 - s)) 0 ∧ max (min s ((m : Int) - 1 - s)) 0 ≤ 20 := by omega
  generalize max (min s ((m : Int) - 1 - s)) 0 = z at hb ⊢
  go_wp2_with fail
  refine (pick_dr _ _ D0 (by omega) (by unfold I64; omega)).mono ?_
  rintro e w2 ⟨t, rfl, ht, D2, E2⟩
  go_wp2_with fail
  refine (pick_dr _ 12 D2 (by omega) (by unfold I64; omega)).mono ?_
  rintro e w3 ⟨u, rfl, hu, D3, E3⟩
  have hd := quo11 hu
  have f2 := HE.out _ _ D3
  go_wp2
  refine bodyPost_ret (v := .tuple #[.slice p m c, .int .i64 x, .int .i64 y, .int .i64 r, .int .i64 s, .int .i64 (t - u / 11)]) (by simp [results, Try.results45, go_sem]) rfl ?_
  exact ⟨_, _, _, _, _, _, _, _, rfl, ⟨_, hp.fr f2⟩, hm, hx, hy, hr, hs, by omega, f1.trans f2⟩
theorem DrawPurseSpread_any (w : World) (a : Option Addr) (n cap : Nat) (zs : List Int) (h : SLB w a n cap zs) :
    Calls Try.prog 46 #[.slice a n cap] w fun e w' => ∃ (t x y r s u : Int), e = .returned (.tuple #[.int .i64 t, .int .i64 x, .int .i64 y, .int .i64 r, .int .i64 s, .int .i64 u]) ∧ (0 ≤ t ∧ t ≤ 13) ∧ (-1 ≤ x ∧ x ≤ 5) ∧ (-1 ≤ y ∧ y ≤ 5) ∧ (-1 ≤ r ∧ r ≤ 6) ∧ (-1 ≤ s ∧ s ≤ 20) ∧ (-1 ≤ u ∧ u ≤ 13) ∧ Fr w w' := by
  have D0 := Dr.start h
  have HE : Hid (∀ (A : Nat) (w' : World), Dr w.heap.size A (w.alloc (.cells #[.slice a n cap, .int .i64 0, .int .u64 0] 70)) w' → Fr w w') := Lib.hid fun A w' h => h.ends rfl
  have hz0 : w.heap.size ≤ (w.alloc (.cells #[.slice a n cap, .int .i64 0, .int .u64 0] 70)).heap.size := by simp
  have hg : w.heap.size < (w.alloc (.cells #[.slice a n cap, .int .i64 0, .int .u64 0] 70)).heap.size := by simp
  have HS := Lib.hid (show w.heap.size + 1 = (w.alloc (.cells #[.slice a n cap, .int .i64 0, .int .u64 0] 70)).heap.size by simp)
  clear h
  go_enter Try.func46, Try.ntmps46
  go_wp2_with fail
  generalize w.alloc (.cells #[.slice a n cap, .int .i64 0, .int .u64 0] 70) = v0 at D0 HE hg hz0 HS ⊢
  refine (among_dr _ 0 13 [5, 4, 8, 12, 1, 2, 13, 0, 6] _ _ _ _ D0 (by omega) rfl rfl (by decide) (by decide) (by first | exact HS.out | rfl | simp) (by decide)).mono ?_
  rintro e w1 ⟨t, rfl, ht, D1, -⟩
  clear D0
  go_wp2_with fail
  refine (chancy_dr _ D1 (by omega)).mono ?_
  rintro e w2 ⟨x, y, rfl, hx, hy, D2, -⟩
  clear D1
  go_wp2_with fail
  refine (among_dr _ (-1) 6 [1, 2, 3, 0, 5, 6, 2, 4] _ _ _ _ D2 (by omega) rfl rfl (by decide) (by decide) (by first | rfl | simp) (by decide)).mono ?_
  rintro e w3 ⟨r, rfl, hr, D3, -⟩
  clear D2
  go_wp2_with fail
  refine (pick_dr _ _ D3 (by omega) (by unfold I64; omega)).mono ?_
  rintro e w4 ⟨s, rfl, hs, D4, -⟩
  clear D3
  go_wp2_with fail
  refine (pick_dr _ 12 D4 (by omega) (by unfold I64; omega)).mono ?_
  rintro e w5 ⟨v, rfl, hv, D5, -⟩
  clear D4
  have hd := quo11 hv
  go_wp2_with fail
  refine (among_dr _ (-1) 13 [1, 2, 3, 12, 0, 13, -1, 5] _ _ _ _ D5 (by omega) rfl rfl (by decide) (by decide) (by first | rfl | simp) (by decide)).mono ?_
  rintro e w6 ⟨u, rfl, hu, D6, -⟩
  go_wp2
  refine bodyPost_ret (v := .tuple #[.int .i64 t, .int .i64 x, .int .i64 y, .int .i64 r, .int .i64 (s - v / 11), .int .i64 u]) (by simp [results, Try.results46, go_sem]) rfl ?_
  exact ⟨_, _, _, _, _, _, rfl, ht, hx, hy, hr, by omega, hu, HE.out _ _ D6⟩
end Go.Proofs.Ytfdidelonilnmaa
