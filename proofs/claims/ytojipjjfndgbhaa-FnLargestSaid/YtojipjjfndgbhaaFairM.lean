import Derived.Test.YtojipjjfndgbhaaEnv3
import Derived.Test.YtojipjjfndgbhaaWayM
/- Drifts, fair processes. Plain part. -/
set_option linter.unusedVariables false
namespace Go.Proofs.Ytojipjjfndgbhaa
open Go.ChangeShapes Go.WideShapes Go.ChangeAt Go.RowKit
/-- A quotient in lowest terms, and what it was. -/
theorem low_mul {a b : Int} (ha : -1000000000 ≤ a ∧ a ≤ 1000000000) (hb : 0 < b ∧ b ≤ 1000000) : ∃ g : Int, 1 ≤ g ∧ lowA a b * g = a ∧ lowB a b * g = b := by
  have h := lowP_eq (lowOk_fit ha hb)
  have hg := gcd_pos (a := a) hb.1
  refine ⟨(Int.gcd a b : Nat), hg.1, ?_, ?_⟩
  · rw [h.1, lowP]; exact Int.tdiv_mul_cancel (Int.gcd_dvd_left a b)
  · rw [h.2, lowQ]; exact Int.tdiv_mul_cancel (Int.gcd_dvd_right a b)
theorem low_zero {a b : Int} (ha : -1000000000 ≤ a ∧ a ≤ 1000000000) (hb : 0 < b ∧ b ≤ 1000000) : lowA a b = 0 ↔ a = 0 := by
  obtain ⟨g, hg, h1, _⟩ := low_mul ha hb
  constructor
  · intro h; rw [h] at h1; simpa using h1.symm
  · intro h
    rw [h] at h1
    rcases Int.mul_eq_zero.1 h1 with h | h
    · rw [← h]; congr 1
    · omega
theorem low_posA {a b : Int} (ha : -1000000000 ≤ a ∧ a ≤ 1000000000) (hb : 0 < b ∧ b ≤ 1000000) : 0 < lowA a b ↔ 0 < a := by
  obtain ⟨g, hg, h1, _⟩ := low_mul ha hb
  constructor
  · intro h; rw [← h1]; exact Int.mul_pos h (by omega)
  · intro h
    rcases Int.lt_trichotomy (lowA a b) 0 with h2 | h2 | h2
    · have := Int.mul_neg_of_neg_of_pos h2 (show 0 < g by omega); omega
    · rw [h2] at h1; omega
    · exact h2
/-- Two quotients compare as their products do. -/
theorem low_cross {a b : Int} (ha : -1000000000 ≤ a ∧ a ≤ 1000000000) (hb : 0 < b ∧ b ≤ 1000000) : lowA a b * b = a * lowB a b ∧ 0 < lowB a b := by
  obtain ⟨g, hg, h1, h2⟩ := low_mul ha hb
  refine ⟨?_, ?_⟩
  · calc lowA a b * b = lowA a b * (lowB a b * g) := by rw [h2]
      _ = (lowA a b * g) * lowB a b := by rw [Int.mul_comm (lowB a b) g, Int.mul_assoc]
      _ = a * lowB a b := by rw [h1]
  · rcases Int.lt_trichotomy (lowB a b) 0 with h | h | h
    · have := Int.mul_neg_of_neg_of_pos h (show 0 < g by omega); omega
    · rw [h] at h2; omega
    · exact h
/-- The drift at a node, times its sum. -/
def drA (P W X : List Int) (x : Nat) : Int := kidUp P (fun y => nth (gathM P W) y * (nth X y - nth X x)) x P.length
def drP (P W X : List Int) (x : Nat) : Int × Int := (lowA (drA P W X x) (nth (gathM P W) x), lowB (drA P W X x) (nth (gathM P W) x))
def drTo (P W X : List Int) (k : Nat) : List (Int × Int) := (List.range k).map (drP P W X)
def drM (P W X : List Int) : List (Int × Int) := drTo P W X P.length
theorem drTo_succ (P W X : List Int) (k : Nat) : drTo P W X (k + 1) = drTo P W X k ++ [drP P W X k] := by simp [drTo, List.range_succ]
theorem drM_nth {P W X : List Int} {i : Nat} (h : i < P.length) : nthP (drM P W X) i = drP P W X i := by simp [nthP, drM, drTo, h]
theorem drM_len (P W X : List Int) : (drM P W X).length = P.length := by simp [drM, drTo]
def drF (P W X : List Int) (x y : Nat) : Int := nth (gathM P W) y * (nth X y - nth X x)
theorem drF_bd {P W X : List Int} (ht : treeB P W = true) (hX : ∀ i, -999 ≤ nth X i ∧ nth X i ≤ 999) (x y : Nat) : -959040 ≤ drF P W X x y ∧ drF P W X x y ≤ 959040 := by
  have h1 := sums_le ht y
  have h2 := hX x; have h3 := hX y
  have h4 := natAbs_mul_le (x := nth (gathM P W) y) (y := nth X y - nth X x) (M := 480) (N := 1998) h1 (by omega)
  unfold drF; omega
theorem drA_kids (P W X : List Int) (x : Nat) : lsum (drF P W X x) (kidsTo P x P.length) = drA P W X x := by rw [lsum_kids]; rfl
theorem kids_bd {P W X : List Int} (ht : treeB P W = true) (hX : ∀ i, -999 ≤ nth X i ∧ nth X i ≤ 999) (x : Nat) (L : List Int) (hL : L.length ≤ 24) : -24000000 ≤ lsum (drF P W X x) L ∧ lsum (drF P W X x) L ≤ 24000000 := by
  have := lsum_bd (drF_bd ht hX x) L
  omega
theorem drA_bd {P W X : List Int} (ht : treeB P W = true) (hX : ∀ i, -999 ≤ nth X i ∧ nth X i ≤ 999) (x : Nat) : -24000000 ≤ drA P W X x ∧ drA P W X x ≤ 24000000 := by
  rw [← drA_kids]
  exact kids_bd ht hX x _ (by have := kidsTo_len P x P.length; have := (treeB_iff.1 ht).1; omega)
def flatB (P W X : List Int) : Bool := (List.range P.length).all fun x => drA P W X x == 0
def fallB (P W X : List Int) : Bool := (List.range P.length).all fun x => decide (drA P W X x ≤ 0)
theorem flatB_iff {P W X : List Int} : flatB P W X = true ↔ ∀ x, x < P.length → drA P W X x = 0 := by simp [flatB]
theorem fallB_iff {P W X : List Int} : fallB P W X = true ↔ ∀ x, x < P.length → drA P W X x ≤ 0 := by simp [fallB]
theorem flatB_no {P W X : List Int} {x : Nat} (hx : x < P.length) (h : drA P W X x ≠ 0) : flatB P W X = false := by
  rw [Bool.eq_false_iff]; intro e; exact h (flatB_iff.1 e x hx)
theorem fallB_no {P W X : List Int} {x : Nat} (hx : x < P.length) (h : 0 < drA P W X x) : fallB P W X = false := by
  rw [Bool.eq_false_iff]; intro e; have := fallB_iff.1 e x hx; omega
def flatV (P W X : List Int) : Bool := l3B P W X && flatB P W X
def fallV (P W X : List Int) : Bool := l3B P W X && fallB P W X
theorem kidUp_lin (P : List Int) (A X : Nat → Int) (c : Int) (z : Nat) : ∀ k, kidUp P (fun y => A y * (X y - c)) z k = kidUp P (fun y => A y * X y) z k - c * kidUp P A z k
  | 0 => by simp [kidUp]
  | k + 1 => by
    rw [kidUp, kidUp, kidUp, kidUp_lin P A X c z k]
    split
    · rw [Int.mul_sub, Int.mul_add, Int.mul_comm (A k) c]; omega
    · rw [Int.mul_add]; omega
theorem kidUp_end {P : List Int} {F : Nat → Int} {z : Nat} : ∀ k, endTo P z k = true → kidUp P F z k = 0
  | 0, _ => rfl
  | k + 1, h => by
    rw [endTo_iff] at h
    rw [kidUp, kidUp_end k (endTo_iff.2 fun y hy => h y (by omega)), if_neg (h k (by omega))]; rfl
theorem gath_up {P a : List Int} (hp : parB P = true) (hl : a.length = P.length) (z : Nat) (hz : z < P.length) : nth (gathM P a) z = nth a z + kidUp P (nth (gathM P a)) z P.length := by
  rw [kidUp_sum hp (by omega)]; exact gath_rec hp hl z hz
/-- Products of sums and numbers. -/
def prodF (P W X : List Int) (y : Nat) : Int := nth (gathM P W) y * nth X y
theorem drA_eq {P W X : List Int} (ht : treeB P W = true) {x : Nat} (hx : x < P.length) : drA P W X x = if endB P x = true then 0 else kidUp P (prodF P W X) x P.length - prodF P W X x := by
  obtain ⟨h1, h2, h3, h4⟩ := treeB_iff.1 ht
  by_cases he : endB P x = true
  · rw [if_pos he, drA, kidUp_end _ he]
  · rw [if_neg he, drA, kidUp_lin P (nth (gathM P W)) (nth X)]
    have hg := gath_up (a := W) h3 h2 x hx
    have hw : nth W x = 0 := by
      have := wei_end ht hx
      rw [Bool.not_eq_true] at he
      rw [he] at this
      simpa using this.symm
    rw [hw, Int.zero_add] at hg
    rw [← hg, prodF, Int.mul_comm (nth X x)]; rfl
theorem flat_iff {P W X : List Int} (ht : treeB P W = true) : flatB P W X = true ↔ ∀ x, x < P.length → endB P x = false → prodF P W X x = kidUp P (prodF P W X) x P.length := by
  rw [flatB_iff]
  constructor
  · intro h x hx he
    have := h x hx
    rw [drA_eq ht hx, if_neg (by rw [he]; simp)] at this
    omega
  · intro h x hx
    rw [drA_eq ht hx]
    by_cases he : endB P x = true
    · rw [if_pos he]
    · rw [if_neg he]; have := h x hx (by simpa using he); omega
theorem prodF_bd {P W X : List Int} (ht : treeB P W = true) (hX : ∀ i, -999 ≤ nth X i ∧ nth X i ≤ 999) (y : Nat) : -479520 ≤ prodF P W X y ∧ prodF P W X y ≤ 479520 := by
  have h1 := sums_le ht y
  have h3 := hX y
  have h4 := natAbs_mul_le (x := nth (gathM P W) y) (y := nth X y) (M := 480) (N := 999) h1 (by omega)
  unfold prodF; omega
/-- A balanced list of numbers of at least 0. -/
def posB (X : List Int) : Bool := allB X 0 999
def evenB (P W X : List Int) : Bool := flatV P W X && posB X
theorem evenB_parts {P W X : List Int} (h : evenB P W X = true) : treeB P W = true ∧ procB P X = true ∧ flatB P W X = true ∧ ∀ i, 0 ≤ nth X i ∧ nth X i ≤ 999 := by
  simp only [evenB, flatV, l3B, Bool.and_eq_true] at h
  obtain ⟨⟨⟨h1, h2⟩, h3⟩, h4⟩ := h
  refine ⟨h1, h2, h3, fun i => ?_⟩
  refine nth_bd (fun x hx => ?_) (by omega) (by omega) i
  have := List.all_eq_true.1 h4 x hx
  simpa [inB] using this
end Go.Proofs.Ytojipjjfndgbhaa
