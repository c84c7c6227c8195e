import Derived.Test.YtfdidelonilnmaaWorth
/- Contracts of stakes: staked, bestStake, l11Stake, l11Best. -/
set_option linter.unusedVariables false
namespace Go.Proofs.Ytfdidelonilnmaa
open Go.ChangeShapes Go.WideShapes Go.ChangeAt Go.RowKit

/-- The least best stake below k. -/
def bArg (x y : Int) (l : List Int) (c : Nat) : Nat → Nat
  | 0 => 0
  | k + 1 => if stk x y l c (bArg x y l c k) < stk x y l c k then k else bArg x y l c k
theorem bArg_le (x y : Int) (l : List Int) (c k : Nat) : bArg x y l c k ≤ k - 1 := by
  induction k with
  | zero => exact Nat.le_refl _
  | succ k ih => unfold bArg; split <;> omega
theorem bArg_yes {x y : Int} {l : List Int} {c k : Nat} (h : stk x y l c (bArg x y l c k) < stk x y l c k) : bArg x y l c (k + 1) = k := by rw [bArg, if_pos h]
theorem bArg_no {x y : Int} {l : List Int} {c k : Nat} (h : ¬ stk x y l c (bArg x y l c k) < stk x y l c k) : bArg x y l c (k + 1) = bArg x y l c k := by rw [bArg, if_neg h]
theorem bMax_arg {x y M : Int} {l : List Int} (hx : 0 ≤ x ∧ x ≤ 4) (hy : 0 ≤ y ∧ y ≤ 4) (hM : ∀ i, 0 ≤ nth l i ∧ nth l i ≤ M) (c k : Nat) : bMax x y l c (k + 1) = stk x y l c (bArg x y l c (k + 1)) := by
  induction k with
  | zero =>
    have := stk_bd hx hy hM c 0
    have h0 : bArg x y l c (0 + 1) = 0 := by simp [bArg]
    rw [h0]
    simp only [bMax, stk] at *; omega
  | succ k ih =>
    rw [bMax, ih]
    by_cases h : stk x y l c (bArg x y l c (k + 1)) < stk x y l c (k + 1)
    · rw [bArg_yes h]; omega
    · rw [bArg_no h]; omega

theorem staked_any (w : World) (a : Option Addr) (n cap : Nat) (u : List Int) (x y : Int) (R c s : Nat) (h : SL w a n cap u) (hu : useB u = true) (hL : luckB x y = true) (hR : 1 ≤ R ∧ R ≤ 5) (hcs : c + s < n) (hsc : s ≤ c) :
    Calls Try.prog 74 #[.slice a n cap, .int .i64 x, .int .i64 y, .int .i64 R, .int .i64 c, .int .i64 s] w fun e w' => e = .returned (.int .i64 (stk x y (worthsTo u x y (R - 1)) c s)) ∧ Fr w w' := by
  obtain ⟨r, rfl⟩ : ∃ r, R = r + 1 := ⟨R - 1, by omega⟩
  rw [Nat.add_sub_cancel]
  have HM := Lib.hid (worths_bd4 hu hL r (by omega))
  obtain ⟨hx, hy, _⟩ := luckB_iff.1 hL
  have Hn := Lib.hid h.len
  have hn : n ≤ 13 := by have := (useB_iff.1 hu).2.1; have := h.len; omega
  go_enter Try.func74, Try.ntmps74
  go_wp2_with fail
  refine (worths_any _ _ _ _ _ _ _ _ h hu hL (by omega)).mono ?_
  rintro e w1 ⟨a1, n1, c1, rfl, o1, f1, m1⟩
  have hn1' : n1 = n := by rw [← o1.len, worthsTo_len, Hn.out]
  subst hn1'
  obtain ⟨b, rfl, _, _, hc0, _⟩ := o1.op (by omega)
  have hc1 := hc0 (c + s) (by omega)
  have hc2 := hc0 (c - s) (by omega)
  clear hc0
  have hb := stk_bd hx hy HM.out c s
  have i1 : (0 : Int) ≤ ((c + s : Nat) : Int) := by omega
  have i2 : ((c + s : Nat) : Int) < (n1 : Int) := by omega
  have i3 : (0 : Int) ≤ ((c - s : Nat) : Int) := by omega
  have i4 : ((c - s : Nat) : Int) < (n1 : Int) := by omega
  go_wp2
  have w1' : IntKind.i64.wrap ((c : Int) + (s : Int)) = ((c + s : Nat) : Int) := by rw [IntWalk.i64_in _ (by omega)]; omega
  have w2' : IntKind.i64.wrap ((c : Int) - (s : Int)) = ((c - s : Nat) : Int) := by rw [IntWalk.i64_in _ (by omega)]; omega
  have w3' : IntKind.i64.wrap (x * nth (worthsTo u x y r) (c + s)) = x * nth (worthsTo u x y r) (c + s) := IntWalk.i64_in _ (by omega)
  have w4' : IntKind.i64.wrap (y * nth (worthsTo u x y r) (c - s)) = y * nth (worthsTo u x y r) (c - s) := IntWalk.i64_in _ (by omega)
  have w5' : IntKind.i64.wrap (x * nth (worthsTo u x y r) (c + s) + y * nth (worthsTo u x y r) (c - s)) = x * nth (worthsTo u x y r) (c + s) + y * nth (worthsTo u x y r) (c - s) := IntWalk.i64_in _ (by omega)
  go_quiet (fail)
  clear w1' w2' w3' w4' w5'
  go_wp2
  go_ret
  exact ⟨rfl, f1.drew' _⟩

theorem bestStake_any (w : World) (a : Option Addr) (n cap : Nat) (u : List Int) (x y : Int) (R c : Nat) (h : SL w a n cap u) (hu : useB u = true) (hL : luckB x y = true) (hR : 1 ≤ R ∧ R ≤ 5) (hc : c < n) :
    Calls Try.prog 76 #[.slice a n cap, .int .i64 x, .int .i64 y, .int .i64 R, .int .i64 c] w fun e w' => e = .returned (.int .i64 (bArg x y (worthsTo u x y (R - 1)) c (mS n c + 1) : Nat)) ∧ Fr w w' := by
  have Hn := Lib.hid h.len
  have hn : n ≤ 13 := by have := (useB_iff.1 hu).2.1; have := h.len; omega
  have hms : mS n c ≤ c ∧ mS n c ≤ n - 1 - c := by unfold mS; omega
  have HU := Lib.hid hu; have HL := Lib.hid hL
  clear hu hL
  go_enter Try.func76, Try.ntmps76
  go_wp2_with (go_at_call 72; refine (mostStake_any _ _ _ _ _ (by omega) hc).mono ?_; rintro e w' ⟨rfl, rfl⟩)
  go_loopw [11, 17] (fun q i wr => ∃ s : Nat, s ≤ mS n c + 1 ∧ i = .int .i64 s ∧ q = .int .i64 (bArg x y (worthsTo u x y (R - 1)) c s : Nat) ∧ Fr w wr) (fun _ i _ => mS n c + 1 - (intOf i).toNat)
  case atStart => exact ⟨0, Nat.zero_le _, rfl, rfl, Fr.refl _⟩
  case round =>
    obtain ⟨s, hs, rfl, rfl, hf⟩ := hrel
    have hle := bArg_le x y (worthsTo u x y (R - 1)) c s
    by_cases hst : s < mS n c + 1
    · by_cases hcm : stk x y (worthsTo u x y (R - 1)) c (bArg x y (worthsTo u x y (R - 1)) c s) < stk x y (worthsTo u x y (R - 1)) c s
      · have HC := Lib.hid (bArg_yes hcm)
        go_wp2_with fail
        refine (staked_any _ _ _ _ _ _ _ _ _ _ (h.fr hf) HU.out HL.out hR (by omega) (by omega)).mono ?_
        rintro e w1 ⟨rfl, f1⟩
        go_wp2_with fail
        refine (staked_any _ _ _ _ _ _ _ _ _ _ (h.fr (hf.trans f1)) HU.out HL.out hR (by omega) (by omega)).mono ?_
        rintro e w2 ⟨rfl, f2⟩
        go_wp2
        go_roundw
        case rel => exact ⟨s + 1, by omega, by go_num, by rw [HC.out], (hf.trans f1).trans f2⟩
        case measure => simp [intOf]; omega
      · have HC := Lib.hid (bArg_no hcm)
        go_wp2_with fail
        refine (staked_any _ _ _ _ _ _ _ _ _ _ (h.fr hf) HU.out HL.out hR (by omega) (by omega)).mono ?_
        rintro e w1 ⟨rfl, f1⟩
        go_wp2_with fail
        refine (staked_any _ _ _ _ _ _ _ _ _ _ (h.fr (hf.trans f1)) HU.out HL.out hR (by omega) (by omega)).mono ?_
        rintro e w2 ⟨rfl, f2⟩
        go_wp2
        go_roundw
        case rel => exact ⟨s + 1, by omega, by go_num, by rw [HC.out], (hf.trans f1).trans f2⟩
        case measure => simp [intOf]; omega
    · go_wp2
      go_ret
      exact ⟨ret_int (by rw [show s = mS n c + 1 by omega]), hf⟩

theorem l11Stake_any (w : World) (a : Option Addr) (n cap : Nat) (L : List Int) (x y : Int) (c s : Nat) (h : SL w a n cap L) (hx : 0 ≤ x ∧ x ≤ 4) (hy : 0 ≤ y ∧ y ≤ 4) (hM : ∀ i, 0 ≤ nth L i ∧ nth L i ≤ 4091904) (hn : n ≤ 1000) (hcs : c + s < n) (hsc : s ≤ c) :
    Calls Try.prog 70 #[.slice a n cap, .int .i64 x, .int .i64 y, .int .i64 c, .int .i64 s] w fun e w' => e = .returned (.int .i64 (stk x y L c s)) ∧ Qt w w' := by
  have HM := Lib.hid hM
  clear hM
  obtain ⟨b, off, rfl, hc0⟩ := h.cells.resolve_left (by omega)
  have hc1 := hc0 (c + s) (by omega)
  have hc2 := hc0 (c - s) (by omega)
  clear hc0
  go_enter Try.func70, Try.ntmps70
  have hb := stk_bd hx hy HM.out c s
  have i1 : (0 : Int) ≤ ((c + s : Nat) : Int) := by omega
  have i2 : ((c + s : Nat) : Int) < (n : Int) := by omega
  have i3 : (0 : Int) ≤ ((c - s : Nat) : Int) := by omega
  have i4 : ((c - s : Nat) : Int) < (n : Int) := by omega
  go_wp2
  have w1' : IntKind.i64.wrap ((c : Int) + (s : Int)) = ((c + s : Nat) : Int) := by rw [IntWalk.i64_in _ (by omega)]; omega
  have w2' : IntKind.i64.wrap ((c : Int) - (s : Int)) = ((c - s : Nat) : Int) := by rw [IntWalk.i64_in _ (by omega)]; omega
  have w3' : IntKind.i64.wrap (x * nth L (c + s)) = x * nth L (c + s) := IntWalk.i64_in _ (by omega)
  have w4' : IntKind.i64.wrap (y * nth L (c - s)) = y * nth L (c - s) := IntWalk.i64_in _ (by omega)
  have w5' : IntKind.i64.wrap (x * nth L (c + s) + y * nth L (c - s)) = x * nth L (c + s) + y * nth L (c - s) := IntWalk.i64_in _ (by omega)
  go_quiet (fail)
  clear w1' w2' w3' w4' w5'
  go_wp2
  go_ret
  exact ⟨rfl, (Qt.refl _).drewN _⟩

theorem l11Best_any (w : World) (a : Option Addr) (n cap : Nat) (L : List Int) (x y : Int) (c : Nat) (h : SL w a n cap L) (hx : 0 ≤ x ∧ x ≤ 4) (hy : 0 ≤ y ∧ y ≤ 4) (hM : ∀ i, 0 ≤ nth L i ∧ nth L i ≤ 4091904) (hn : n ≤ 1000) (hc : c < n) :
    Calls Try.prog 75 #[.slice a n cap, .int .i64 x, .int .i64 y, .int .i64 c] w fun e w' => e = .returned (.tuple #[.int .i64 (bArg x y L c (mS n c + 1) : Nat), .int .i64 (stk x y L c (bArg x y L c (mS n c + 1)))]) ∧ Qt w w' := by
  have HM := Lib.hid hM
  clear hM
  have hms : mS n c ≤ c ∧ mS n c ≤ n - 1 - c ∧ (mS n c = c ∨ mS n c = n - 1 - c) := by unfold mS; omega
  have hb1 : Hid (bArg x y L c 1 = 0) := Lib.hid (by simp [bArg])
  go_enter Try.func75, Try.ntmps75
  go_wp2_with fail
  refine (l11Stake_any _ _ _ _ _ _ _ _ 0 h hx hy HM.out hn (by omega) (by omega)).mono ?_
  rintro e w1 ⟨rfl, q1⟩
  go_wp2
  go_loopw [10, 11, 12] (fun p q i wr => ∃ s : Nat, s ≤ mS n c ∧ i = .int .i64 ((s : Int) + 1) ∧ p = .int .i64 (bArg x y L c (s + 1) : Nat) ∧ q = .int .i64 (stk x y L c (bArg x y L c (s + 1))) ∧ Qt w wr) (fun _ _ i _ => mS n c + 1 - (intOf i).toNat)
  case atStart => exact ⟨0, Nat.zero_le _, rfl, by rw [hb1.out]; rfl, by rw [hb1.out], q1⟩
  case round =>
    obtain ⟨s, hs, rfl, rfl, rfl, hq⟩ := hrel
    by_cases hst : s < mS n c
    · have t1 : ((s : Int) + 1 ≤ (c : Int)) := by omega
      have t2 : ((c : Int) + ((s : Int) + 1) < (n : Int)) := by omega
      by_cases hcm : stk x y L c (bArg x y L c (s + 1)) < stk x y L c (s + 1)
      · have HC := Lib.hid (bArg_yes hcm)
        go_wp2_with fail
        refine (l11Stake_any _ _ _ _ _ _ _ _ (s + 1) (h.qt hq) hx hy HM.out hn (by omega) (by omega)).mono ?_
        rintro e w2 ⟨rfl, q2⟩
        go_wp2
        go_roundw
        case rel => exact ⟨s + 1, by omega, by go_num, by rw [HC.out]; go_num, by rw [HC.out], hq.trans q2⟩
        case measure => simp [intOf]; omega
      · have HC := Lib.hid (bArg_no hcm)
        go_wp2_with fail
        refine (l11Stake_any _ _ _ _ _ _ _ _ (s + 1) (h.qt hq) hx hy HM.out hn (by omega) (by omega)).mono ?_
        rintro e w2 ⟨rfl, q2⟩
        go_wp2
        go_roundw
        case rel => exact ⟨s + 1, by omega, by go_num, by rw [HC.out], by rw [HC.out], hq.trans q2⟩
        case measure => simp [intOf]; omega
    · rcases (show (c : Int) < (s : Int) + 1 ∨ ((s : Int) + 1 ≤ (c : Int) ∧ (n : Int) ≤ (c : Int) + ((s : Int) + 1)) by omega) with t1 | ⟨t1, t2⟩
      all_goals
        go_wp2
        go_ret2
        exact ⟨by rw [show mS n c = s by omega]; rfl, hq⟩

end Go.Proofs.Ytfdidelonilnmaa
