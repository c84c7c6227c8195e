import Derived.Test.YtfdidelonilnmaaUse
import Derived.Test.YtfdidelonilnmaaShare
import Derived.Test.YtfdidelonilnmaaTabLaw
/- Contracts of worths: the table of what purses are worth. -/
set_option linter.unusedVariables false
namespace Go.Proofs.Ytfdidelonilnmaa
open Go.ChangeShapes Go.WideShapes Go.ChangeAt Go.RowKit

/-- The greatest stake of a purse. -/
def mS (n c : Nat) : Nat := min c (n - 1 - c)
/-- What a stake is worth for the worths with one round less. -/
def stk (x y : Int) (l : List Int) (c s : Nat) : Int := x * nth l (c + s) + y * nth l (c - s)
def bMax (x y : Int) (l : List Int) (c : Nat) : Nat → Int
  | 0 => 0
  | k + 1 => max (bMax x y l c k) (stk x y l c k)
def rowW (x y : Int) (l : List Int) (n : Nat) : List Int := (List.range n).map fun c => bMax x y l c (mS n c + 1)
def worthsTo (u : List Int) (x y : Int) : Nat → List Int
  | 0 => u
  | r + 1 => rowW x y (worthsTo u x y r) u.length
theorem rowW_len (x y : Int) (l : List Int) (n : Nat) : (rowW x y l n).length = n := by simp [rowW]
theorem rowW_nth (x y : Int) (l : List Int) (n c : Nat) (h : c < n) : nth (rowW x y l n) c = bMax x y l c (mS n c + 1) := by simp [nth, rowW, h]
theorem worthsTo_len (u : List Int) (x y : Int) (r : Nat) : (worthsTo u x y r).length = u.length := by
  cases r with
  | zero => rfl
  | succ r => exact rowW_len _ _ _ _
theorem stk_bd {x y M : Int} {l : List Int} (hx : 0 ≤ x ∧ x ≤ 4) (hy : 0 ≤ y ∧ y ≤ 4) (hM : ∀ i, 0 ≤ nth l i ∧ nth l i ≤ M) (c s : Nat) :
    (0 ≤ x * nth l (c + s) ∧ x * nth l (c + s) ≤ 4 * M) ∧ (0 ≤ y * nth l (c - s) ∧ y * nth l (c - s) ≤ 4 * M) := by
  have h1 := hM (c + s); have h2 := hM (c - s)
  exact ⟨⟨Int.mul_nonneg hx.1 h1.1, Int.mul_le_mul hx.2 h1.2 h1.1 (by omega)⟩, ⟨Int.mul_nonneg hy.1 h2.1, Int.mul_le_mul hy.2 h2.2 h2.1 (by omega)⟩⟩
theorem bMax_bd {x y M : Int} {l : List Int} (hx : 0 ≤ x ∧ x ≤ 4) (hy : 0 ≤ y ∧ y ≤ 4) (hM : ∀ i, 0 ≤ nth l i ∧ nth l i ≤ M) (c k : Nat) : 0 ≤ bMax x y l c k ∧ bMax x y l c k ≤ 8 * M := by
  induction k with
  | zero => have := hM 0; simp only [bMax]; omega
  | succ k ih => have := stk_bd hx hy hM c k; simp only [bMax, stk]; omega
theorem worths_bd {u : List Int} {x y : Int} (hu : useB u = true) (hx : 0 ≤ x ∧ x ≤ 4) (hy : 0 ≤ y ∧ y ≤ 4) (r : Nat) : ∀ i, 0 ≤ nth (worthsTo u x y r) i ∧ nth (worthsTo u x y r) i ≤ 999 * 8 ^ r := by
  induction r with
  | zero => intro i; have := useB_nth hu i; simpa [worthsTo] using this
  | succ r ih =>
    intro i
    have hp : (8 : Int) ^ (r + 1) = 8 * 8 ^ r := by rw [Int.pow_succ]; omega
    by_cases hi : i < u.length
    · rw [worthsTo, rowW_nth _ _ _ _ _ hi]
      have := bMax_bd hx hy ih i (mS u.length i + 1)
      omega
    · rw [nth_out (by rw [worthsTo_len]; omega)]
      have := ih 0
      omega
theorem pow8 (r : Nat) (h : r ≤ 4) : (999 : Int) * 8 ^ r ≤ 4091904 := by
  rcases (show r = 0 ∨ r = 1 ∨ r = 2 ∨ r = 3 ∨ r = 4 by omega) with rfl | rfl | rfl | rfl | rfl <;> decide
theorem pow8' (r : Nat) (h : r ≤ 5) : (999 : Int) * 8 ^ r ≤ 32735232 := by
  rcases (show r = 0 ∨ r = 1 ∨ r = 2 ∨ r = 3 ∨ r = 4 ∨ r = 5 by omega) with rfl | rfl | rfl | rfl | rfl | rfl <;> decide
theorem worths_bd4 {u : List Int} {x y : Int} (hu : useB u = true) (hL : luckB x y = true) (r : Nat) (hr : r ≤ 4) : ∀ i, 0 ≤ nth (worthsTo u x y r) i ∧ nth (worthsTo u x y r) i ≤ 4091904 := by
  obtain ⟨h1, h2, _⟩ := luckB_iff.1 hL
  intro i; have := worths_bd hu h1 h2 r i; have := pow8 r hr; omega

theorem mostStake_any (w : World) (a : Option Addr) (n cap c : Nat) (hn : n ≤ 1000) (hc : c < n) :
    Calls Try.prog 72 #[.slice a n cap, .int .i64 c] w fun e w' => e = .returned (.int .i64 (mS n c : Nat)) ∧ w = w' := by
  by_cases h : (n : Int) - 1 - c < c
  all_goals
    go_enter Try.func72, Try.ntmps72
    go_wp2
    go_ret
    exact ⟨ret_int (by unfold mS; omega), rfl⟩

theorem worths_any (w : World) (a : Option Addr) (n cap : Nat) (u : List Int) (x y : Int) (R : Nat) (h : SL w a n cap u) (hu : useB u = true) (hL : luckB x y = true) (hR : R ≤ 5) :
    Calls Try.prog 73 #[.slice a n cap, .int .i64 x, .int .i64 y, .int .i64 R] w (RetS (worthsTo u x y R) w) := by
  have hlen := h.len
  have hn : n ≤ 13 := by have := (useB_iff.1 hu).2.1; omega
  have hn1 : 1 ≤ n := by have := (useB_iff.1 hu).1; omega
  have HU := Lib.hid hu; have HL := Lib.hid hL; have Hl := Lib.hid hlen
  clear hu hL hlen
  go_enter Try.func73, Try.ntmps73
  go_wp2_with fail
  refine (copied_any _ _ _ _ _ h (by omega)).mono ?_
  rintro e w1 ⟨a1, n1, c1, rfl, o1, f1, m1⟩
  have hn1' : n1 = n := by rw [← o1.len, Hl.out]
  subst hn1'
  go_wp2
  go_loopw [9, 17] (fun q i wr => ∃ (r : Nat) (p : Option Addr) (c : Nat), r ≤ R ∧ i = .int .i64 r ∧ q = .slice p n1 c ∧ Own w.heap.size wr p n1 c (worthsTo u x y r) ∧ Fr w wr) (fun _ i _ => R - (intOf i).toNat)
  case atStart => exact ⟨0, _, _, Nat.zero_le _, rfl, rfl, o1, f1⟩
  case round =>
    clear o1 f1
    obtain ⟨r, p, c, hr, rfl, rfl, ho, hf⟩ := hrel
    by_cases hlt : r < R
    · go_wp2
      obtain ⟨wo, rfl⟩ : ∃ wo : World, wo = wr := ⟨_, rfl⟩
      have hnx := Own.made0 (B := wo.heap.size) wo (Nat.le_refl _)
      have hfo := (Fr.refl wo).alloc (.cells #[] 3)
      have hM := worths_bd4 HU.out HL.out r (by omega)
      have HM := Lib.hid hM
      obtain ⟨hx, hy, _⟩ := luckB_iff.1 HL.out
      clear hM
      go_loopw [10, 22] (fun q i wi => ∃ (j : Nat) (p2 : Option Addr) (c2 : Nat), j ≤ n1 ∧ i = .int .i64 j ∧ q = .slice p2 j c2 ∧ Own wo.heap.size wi p2 j c2 ((rowW x y (worthsTo u x y r) n1).take j) ∧ Fr wo wi) (fun _ i _ => n1 - (intOf i).toNat)
      case atStart => exact ⟨0, _, _, Nat.zero_le _, rfl, rfl, by simpa using hnx, hfo⟩
      case round =>
        clear hnx hfo
        obtain ⟨j, p2, c2, hj, rfl, rfl, hon, hfi⟩ := hrel
        by_cases hjt : j < n1
        · have hms : mS n1 j ≤ j ∧ mS n1 j ≤ n1 - 1 - j := by unfold mS; omega
          go_wp2_with fail
          refine (mostStake_any _ _ _ _ _ (by omega) hjt).mono ?_
          rintro e w' ⟨rfl, rfl⟩
          go_wp2
          obtain ⟨wj, rfl⟩ : ∃ wj : World, wj = wr := ⟨_, rfl⟩
          have hsl := (ho.fr hfi).sl
          go_loopw [12, 29] (fun q i wz => ∃ s : Nat, s ≤ mS n1 j + 1 ∧ i = .int .i64 s ∧ q = .int .i64 (bMax x y (worthsTo u x y r) j s) ∧ Qt wj wz) (fun _ i _ => mS n1 j + 1 - (intOf i).toNat)
          case atStart => exact ⟨0, Nat.zero_le _, rfl, rfl, Qt.refl _⟩
          case round =>
            obtain ⟨s, hs, rfl, rfl, hq⟩ := hrel
            have hbb := bMax_bd hx hy HM.out j s
            by_cases hst : s < mS n1 j + 1
            · obtain ⟨b, off, rfl, hc0⟩ := (hsl.qt hq).cells.resolve_left (by omega)
              have hc1 := hc0 (j + s) (by omega)
              have hc2 := hc0 (j - s) (by omega)
              clear hc0
              have hb := stk_bd hx hy HM.out j s
              have hK : Hid (bMax x y (worthsTo u x y r) j (s + 1) = max (bMax x y (worthsTo u x y r) j s) (x * nth (worthsTo u x y r) (j + s) + y * nth (worthsTo u x y r) (j - s))) := Lib.hid rfl
              have i1 : (0 : Int) ≤ ((j + s : Nat) : Int) := by omega
              have i2 : ((j + s : Nat) : Int) < (n1 : Int) := by omega
              have i3 : (0 : Int) ≤ ((j - s : Nat) : Int) := by omega
              have i4 : ((j - s : Nat) : Int) < (n1 : Int) := by omega
              by_cases hcm : bMax x y (worthsTo u x y r) j s < x * nth (worthsTo u x y r) (j + s) + y * nth (worthsTo u x y r) (j - s)
              all_goals
                go_wp2
                have w1 : IntKind.i64.wrap ((j : Int) + (s : Int)) = ((j + s : Nat) : Int) := by rw [IntWalk.i64_in _ (by omega)]; omega
                have w2 : IntKind.i64.wrap ((j : Int) - (s : Int)) = ((j - s : Nat) : Int) := by rw [IntWalk.i64_in _ (by omega)]; omega
                have w3 : IntKind.i64.wrap (x * nth (worthsTo u x y r) (j + s)) = x * nth (worthsTo u x y r) (j + s) := IntWalk.i64_in _ (by omega)
                have w4 : IntKind.i64.wrap (y * nth (worthsTo u x y r) (j - s)) = y * nth (worthsTo u x y r) (j - s) := IntWalk.i64_in _ (by omega)
                have w5 : IntKind.i64.wrap (x * nth (worthsTo u x y r) (j + s) + y * nth (worthsTo u x y r) (j - s)) = x * nth (worthsTo u x y r) (j + s) + y * nth (worthsTo u x y r) (j - s) := IntWalk.i64_in _ (by omega)
                go_quiet (fail)
                clear w1 w2 w3 w4 w5
                go_wp2
                go_roundw
                case rel => exact ⟨s + 1, by omega, by go_num, by rw [hK.out]; congr 1; omega, hq.drewN _⟩
                case measure => simp [intOf]; omega
            · have hse : s = mS n1 j + 1 := by omega
              subst hse
              have hon' := hon.fr hq.fr
              have hfz := hfi.trans hq.fr
              have hsn : Hid ((rowW x y (worthsTo u x y r) n1).take (j + 1) = (rowW x y (worthsTo u x y r) n1).take j ++ [bMax x y (worthsTo u x y r) j (mS n1 j + 1)]) := Lib.hid (by rw [take_snoc _ _ (by rw [rowW_len]; exact hjt), rowW_nth _ _ _ _ _ hjt])
              go_wp2_with (at_builtin; refine ap_int _ rfl _ _ rfl wo.heap.size p2 j c2 _ _ rfl rfl hon' hfz.size (by unfold I64; omega) (by omega) ?_)
              intro g c' w' hown hgr _
              have hF : Fr wo w' := hfz.grown hgr (fun k hk => (hon'.blk k hk).1)
              go_wp2
              go_roundw
              case rel => exact ⟨j + 1, some ⟨g, 0, none⟩, c', by omega, by go_num, rfl, by rw [hsn.out]; exact hown, hF⟩
              case measure => simp [intOf]; omega
        · go_wp2
          go_roundw
          case rel =>
            have : j = n1 := by omega
            subst this
            rw [List.take_of_length_le (by rw [rowW_len]; omega)] at hon
            exact ⟨r + 1, p2, c2, by omega, by go_num, rfl, by rw [worthsTo, Hl.out]; exact hon.mono hf.size, hf.trans hfi⟩
          case measure => simp [intOf]; omega
    · go_wp2
      go_ret
      rw [show r = R by omega] at ho
      exact ⟨_, _, _, rfl, ho, hf, by omega⟩

end Go.Proofs.Ytfdidelonilnmaa
