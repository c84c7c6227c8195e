import Derived.Test.YtfdidelonilnmaaPlan
/- Contracts of IsPlan, KeptUnits, IsUpward, IsCentred. -/
set_option linter.unusedVariables false
namespace Go.Proofs.Ytfdidelonilnmaa
open Go.ChangeShapes Go.WideShapes Go.ChangeAt Go.RowKit

def okB (p q : List Int) (T : List (List Int)) : Bool := alikeB p q && planB p q T
theorem okB_no1 {p q : List Int} {T : List (List Int)} (h : alikeB p q = false) : okB p q T = false := by rw [okB, h]; rfl
theorem okB_no2 {p q : List Int} {T : List (List Int)} (h : planB p q T = false) : okB p q T = false := by rw [okB, h]; simp
theorem okB_yes {p q : List Int} {T : List (List Int)} (h : alikeB p q = true) (h2 : planB p q T = true) : okB p q T = true := by rw [okB, h, h2]; rfl
theorem okB_iff {p q : List Int} {T : List (List Int)} : okB p q T = true ↔ alikeB p q = true ∧ planB p q T = true := by rw [okB, Bool.and_eq_true]
theorem plan_cell {p q : List Int} {T : List (List Int)} (h : planB p q T = true) (i k : Nat) : 0 ≤ cellT T i k ∧ cellT T i k ≤ 40 := by
  by_cases hi : i < T.length
  · exact rows_cell (planB_iff.1 h).2.1 i k hi
  · rw [cellT, nthL_out (by omega)]; simp [nth]
theorem plan_row {p q : List Int} {T : List (List Int)} (h : planB p q T = true) {i : Nat} (hi : i < T.length) : (nthL T i).length = q.length := (rowOk_iff.1 ((planB_iff.1 h).2.1 i hi)).1

/-- What is good for a walk behind a plan's check. -/
structure PlanF (p q : List Int) (T : List (List Int)) (n1 n2 n3 : Nat) : Prop where
  e2 : n2 = n1
  e3 : n3 = n1
  lo : 1 ≤ n1
  hi : n1 ≤ 8
  row : ∀ i, i < n1 → (nthL T i).length = n1
  cell : ∀ i k, 0 ≤ cellT T i k ∧ cellT T i k ≤ 40
  pn : ∀ i, 0 ≤ nth p i ∧ nth p i ≤ 40
  qn : ∀ i, 0 ≤ nth q i ∧ nth q i ≤ 40
theorem PlanF.of {p q : List Int} {T : List (List Int)} {n1 n2 n3 : Nat} (h1 : alikeB p q = true) (h2 : planB p q T = true) (e1 : p.length = n1) (e2 : q.length = n2) (e3 : T.length = n3) : PlanF p q T n1 n2 n3 := by
  obtain ⟨s1, s2, s3, s4⟩ := alikeB_iff.1 h1
  have g1 := (spreadB_iff.1 s1).1
  have g2 := (planB_iff.1 h2).1
  exact ⟨by omega, by omega, by omega, by omega, fun i hi => by rw [plan_row h2 (by omega)]; omega, plan_cell h2, spread_nth s1, spread_nth s2⟩

def keptV (p q : List Int) (T : List (List Int)) : Int := bif okB p q T then diagTo T T.length else 0

theorem SL.takeTo {w : World} {a : Option Addr} {n cap : Nat} {xs : List Int} (h : SL w a n cap xs) {i : Nat} (hi : i ≤ n) : SL w a i cap (xs.take i) := by
  obtain ⟨h1, h2, h3, h4, h6, h5⟩ := h
  refine ⟨by simp; omega, by omega, h3, fun x hx => h4 x (List.mem_of_mem_take hx), fun ha => ⟨by have := h6 ha; omega, (h6 ha).2⟩, ?_⟩
  rcases h5 with h5 | ⟨b, off, rfl, hc⟩
  · exact .inl (by omega)
  · refine .inr ⟨b, off, rfl, fun j hj => ?_⟩
    rw [hc j (by omega)]
    simp [nth, hj]
theorem sumTo_zero {xs : List Int} (h : ∀ k, 0 ≤ nth xs k) (i : Nat) : 0 ≤ sumTo xs i ∧ (sumTo xs i ≤ 0 ↔ ∀ k, k < i → nth xs k ≤ 0) := by
  induction i with
  | zero => simp [sumTo]
  | succ i ih =>
    have hi := h i
    refine ⟨by simp only [sumTo]; omega, fun hs k hk => ?_, fun hs => ?_⟩
    · simp only [sumTo] at hs
      by_cases e : k = i
      · subst e; omega
      · exact ih.2.1 (by omega) k (by omega)
    · have h1 := ih.2.2 fun k hk => hs k (by omega)
      have h2 := hs i (by omega)
      simp only [sumTo]; omega
theorem upRow_sum {T : List (List Int)} {i : Nat} (h : ∀ k, 0 ≤ cellT T i k ∧ cellT T i k ≤ 40) (hi : i ≤ (nthL T i).length) (h8 : (nthL T i).length ≤ 8) : upRow T i = decide (wsum ((nthL T i).take i) ≤ 0) := by
  have hw := wsum_take (xs := nthL T i) (M := 40) (by omega) (fun x hx => by
    obtain ⟨k, hk, rfl⟩ := List.getElem_of_mem hx
    have := h k; rw [cellT, nth_eq hk] at this; exact this) (by omega) i hi
  rw [hw, Bool.eq_iff_iff, upRow_iff, decide_eq_true_eq]
  exact (sumTo_zero (fun k => (h k).1) i).2.symm
def upV (p q : List Int) (T : List (List Int)) : Bool := okB p q T && upB T
def cenV (p q : List Int) (T : List (List Int)) : Bool := okB p q T && cenB p T

theorem weighted_any (w : World) (a : Option Addr) (n cap : Nat) (xs : List Int) (h : SL w a n cap xs) (h8 : n ≤ 8) (hb : ∀ i, 0 ≤ nth xs i ∧ nth xs i ≤ 40) :
    Calls Try.prog 88 #[.slice a n cap] w fun e w' => e = .returned (.int .i64 (momTo xs n)) ∧ w = w' := by
  have HB := Lib.hid hb
  clear hb
  go_enter Try.func88, Try.ntmps88
  go_wp2
  go_loop [3, 8] (fun s i => ∃ k : Nat, k ≤ n ∧ i = .int .i64 k ∧ s = .int .i64 (momTo xs k)) (fun _ i => n - (intOf i).toNat)
  case atStart => exact ⟨0, Nat.zero_le _, rfl, rfl⟩
  case round =>
    obtain ⟨k, hk, rfl, rfl⟩ := hrel
    by_cases hlt : k < n
    · obtain ⟨b, off, rfl, hc⟩ := h.cells.resolve_left (by omega)
      replace hc := hc k hlt
      have b1 := momTo_bd (M := 40) (by omega) HB.out k (by omega)
      have b2 := mul_bd (HB.out k) (show (0 : Int) ≤ (k : Int) ∧ (k : Int) ≤ 8 by omega)
      have b3 : 0 ≤ (k : Int) * nth xs k ∧ (k : Int) * nth xs k ≤ 320 := by rw [Int.mul_comm]; omega
      go_wp2
      go_round
      case rel => exact ⟨k + 1, by omega, by go_num, by first | rfl | (rw [Int.mul_comm (k : Int)]; rfl)⟩
      case measure => simp [intOf]; omega
    · obtain rfl : k = n := by omega
      go_wp2
      go_ret
      exact ⟨rfl, rfl⟩

theorem l10Moment_any (w : World) (a : Option Addr) (n cap : Nat) (xs : List Int) (h : SL w a n cap xs) (h8 : n ≤ 8) (hb : ∀ i, 0 ≤ nth xs i ∧ nth xs i ≤ 40) :
    Calls Try.prog 91 #[.slice a n cap] w fun e w' => e = .returned (.int .i64 (momTo xs n)) ∧ w = w' := by
  have HB := Lib.hid hb
  clear hb
  go_enter Try.func91, Try.ntmps91
  go_wp2
  go_loop [3, 4] (fun s i => ∃ k : Nat, k ≤ n ∧ i = .int .i64 k ∧ s = .int .i64 (momTo xs k)) (fun _ i => n - (intOf i).toNat)
  case atStart => exact ⟨0, Nat.zero_le _, rfl, rfl⟩
  case round =>
    obtain ⟨k, hk, rfl, rfl⟩ := hrel
    by_cases hlt : k < n
    · obtain ⟨b, off, rfl, hc⟩ := h.cells.resolve_left (by omega)
      replace hc := hc k hlt
      have b1 := momTo_bd (M := 40) (by omega) HB.out k (by omega)
      have b2 := mul_bd (HB.out k) (show (0 : Int) ≤ (k : Int) ∧ (k : Int) ≤ 8 by omega)
      have b3 : 0 ≤ (k : Int) * nth xs k ∧ (k : Int) * nth xs k ≤ 320 := by rw [Int.mul_comm]; omega
      go_wp2
      go_round
      case rel => exact ⟨k + 1, by omega, by go_num, by first | rfl | (rw [Int.mul_comm (k : Int)]; rfl)⟩
      case measure => simp [intOf]; omega
    · obtain rfl : k = n := by omega
      go_wp2
      go_ret
      exact ⟨rfl, rfl⟩

end Go.Proofs.Ytfdidelonilnmaa
