import Derived.Test.YtojipjjfndgbhaaBase
import Derived.LoopTactic
/- Contracts of the small functions that many statements reach: intervals, sums, copies, and the comparisons of the laws. -/
set_option linter.unusedVariables false
namespace Go.Proofs.Ytojipjjfndgbhaa
open Go.ChangeShapes Go.WideShapes Go.ChangeAt Go.RowKit

def inB (n lo hi : Int) : Bool := decide (lo ≤ n) && decide (n ≤ hi)
theorem inB_iff {n lo hi : Int} : inB n lo hi = true ↔ lo ≤ n ∧ n ≤ hi := by simp [inB]
theorem inB_no {n lo hi : Int} : inB n lo hi = false ↔ ¬ (lo ≤ n ∧ n ≤ hi) := by simp only [inB, Bool.and_eq_false_iff, decide_eq_false_iff_not]; omega

theorem within_any (n lo hi : Int) (w : World) :
    Calls Try.prog 72 #[.int .i64 n, .int .i64 lo, .int .i64 hi] w fun e w' => e = .returned (.bool (inB n lo hi)) ∧ w = w' := by
  go_enter Try.func72, Try.ntmps72
  go_wp2
  all_goals (go_ret; exact ⟨by simp [inB, *] <;> omega, rfl⟩)

theorem l1In_any (n lo hi : Int) (w : World) :
    Calls Try.prog 88 #[.int .i64 n, .int .i64 lo, .int .i64 hi] w fun e w' => e = .returned (.bool (inB n lo hi)) ∧ w = w' := by
  go_enter Try.func88, Try.ntmps88
  go_wp2
  all_goals (go_ret; exact ⟨by simp [inB, *] <;> omega, rfl⟩)

theorem l1Most_any (a b : Int) (w : World) :
    Calls Try.prog 128 #[.int .i64 a, .int .i64 b] w fun e w' => e = .returned (.int .i64 (max a b)) ∧ w = w' := by
  go_enter Try.func128, Try.ntmps128
  go_wp2
  all_goals (go_ret; exact ⟨ret_int (by omega), rfl⟩)

theorem l1Least_any (a b : Int) (w : World) :
    Calls Try.prog 99 #[.int .i64 a, .int .i64 b] w fun e w' => e = .returned (.int .i64 (min a b)) ∧ w = w' := by
  go_enter Try.func99, Try.ntmps99
  go_wp2
  all_goals (go_ret; exact ⟨ret_int (by omega), rfl⟩)

def wsum (xs : List Int) : Int := xs.foldl (fun a x => wrap64 (a + x)) 0

theorem wsum_snoc (xs : List Int) (k : Nat) (h : k < xs.length) : wsum (xs.take (k+1)) = wrap64 (wsum (xs.take k) + nth xs k) := by
  rw [take_snoc xs k h]; simp [wsum, List.foldl_append]

theorem wsum_rng (xs : List Int) : I64 (wsum xs) := by
  rcases List.eq_nil_or_concat xs with rfl | ⟨ys, y, rfl⟩
  · simp [wsum, I64]
  · simp only [wsum, List.concat_eq_append, List.foldl_append, List.foldl_cons, List.foldl_nil]; exact I64.wrap _

/-- The sum without wraps. -/
def sumTo (xs : List Int) : Nat → Int
  | 0 => 0
  | k + 1 => sumTo xs k + nth xs k
theorem sumTo_bd {xs : List Int} {M : Int} (hM : 0 ≤ M) (h : ∀ x ∈ xs, 0 ≤ x ∧ x ≤ M) (k : Nat) : 0 ≤ sumTo xs k ∧ sumTo xs k ≤ M * k := by
  induction k with
  | zero => simp [sumTo]
  | succ k ih =>
    have hk : 0 ≤ nth xs k ∧ nth xs k ≤ M := by
      by_cases hi : k < xs.length
      · exact h _ (nth_mem hi)
      · rw [nth_out (by omega)]; omega
    have : M * ((k + 1 : Nat) : Int) = M * k + M := by rw [Int.natCast_add, Int.mul_add]; simp
    simp only [sumTo]; omega
theorem wsum_take {xs : List Int} {M : Int} (hM : 0 ≤ M) (h : ∀ x ∈ xs, 0 ≤ x ∧ x ≤ M) (hs : M * xs.length ≤ 9223372036854775807) (k : Nat) (hk : k ≤ xs.length) : wsum (xs.take k) = sumTo xs k := by
  induction k with
  | zero => rfl
  | succ k ih =>
    have h1 := sumTo_bd hM h (k + 1)
    have h2 : M * ((k + 1 : Nat) : Int) ≤ M * xs.length := Int.mul_le_mul_of_nonneg_left (by omega) hM
    rw [wsum_snoc xs k (by omega), ih (by omega)]
    simp only [sumTo] at h1 ⊢
    unfold wrap64; omega
theorem wsum_eq {xs : List Int} {M : Int} (hM : 0 ≤ M) (h : ∀ x ∈ xs, 0 ≤ x ∧ x ≤ M) (hs : M * xs.length ≤ 9223372036854775807) : wsum xs = sumTo xs xs.length := by
  have := wsum_take hM h hs xs.length (Nat.le_refl _)
  rwa [List.take_length] at this

def allB (xs : List Int) (lo hi : Int) : Bool := xs.all fun x => inB x lo hi

theorem allB_iff {xs : List Int} {lo hi : Int} : allB xs lo hi = true ↔ ∀ x ∈ xs, lo ≤ x ∧ x ≤ hi := by simp [allB, inB]

theorem allB_snoc (xs : List Int) (lo hi : Int) (k : Nat) (h : k < xs.length) : allB (xs.take (k+1)) lo hi = (allB (xs.take k) lo hi && inB (nth xs k) lo hi) := by
  rw [take_snoc xs k h]; simp [allB, List.all_append]

theorem allB_no {xs : List Int} {lo hi : Int} {k : Nat} (h : k < xs.length) (hk : inB (nth xs k) lo hi = false) : allB xs lo hi = false := by
  rw [Bool.eq_false_iff]; intro hc
  have := (allB_iff.1 hc) _ (nth_mem h)
  rw [← inB_iff, hk] at this; simp at this

theorem allWithin_any (w : World) (a : Option Addr) (n cap : Nat) (xs : List Int) (lo hi : Int) (h : SL w a n cap xs) :
    Calls Try.prog 108 #[.slice a n cap, .int .i64 lo, .int .i64 hi] w fun e w' => e = .returned (.bool (allB xs lo hi)) ∧ w = w' := by
  obtain ⟨hlen, hle, hmx, hrng, _, hcells⟩ := h
  have Hlen := Lib.hid hlen; clear hlen
  go_enter Try.func108, Try.ntmps108
  go_wp2
  go_loop [11] (fun i => ∃ k : Nat, k ≤ n ∧ i = .int .i64 k ∧ Hid (allB (xs.take k) lo hi = true)) (fun i => n - (intOf i).toNat)
  case atStart => exact ⟨0, Nat.zero_le _, rfl, Lib.hid rfl⟩
  case round =>
    obtain ⟨k, hk, rfl, hall⟩ := hrel
    by_cases hlt : k < n
    · obtain ⟨b, off, rfl, hc⟩ := hcells.resolve_left (by omega)
      have hc := hc k hlt
      have hks := Hlen.out ▸ hlt
      have HS := Lib.hid (allB_snoc xs lo hi k hks)
      cases hb : inB (nth xs k) lo hi with
      | true =>
        have HB := Lib.hid hb
        go_wp2_with (go_at_call 72; refine (within_any _ _ _ _).mono ?_; rintro e w' ⟨rfl, rfl⟩)
        go_round
        case rel => exact ⟨k + 1, by omega, by go_num, Lib.hid (by rw [HS.out, hall.out, HB.out]; rfl)⟩
        case measure => simp [intOf]; omega
      | false =>
        have HB := Lib.hid hb
        go_wp2_with (go_at_call 72; refine (within_any _ _ _ _).mono ?_; rintro e w' ⟨rfl, rfl⟩)
        go_ret
        exact ⟨ret_bool (allB_no hks HB.out).symm, rfl⟩
    · go_wp2
      go_ret
      exact ⟨ret_bool (by rw [← List.take_of_length_le (l := xs) (i := k) (by rw [Hlen.out]; omega)]; exact hall.out.symm), rfl⟩

end Go.Proofs.Ytojipjjfndgbhaa
