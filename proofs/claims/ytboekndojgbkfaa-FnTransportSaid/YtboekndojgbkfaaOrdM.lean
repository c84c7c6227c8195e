import Derived.Test.YtboekndojgbkfaaPlanM
/- Plain laws of sums: rising and concave numbers, orders of spreads. No program. -/
set_option linter.unusedVariables false
namespace Go.Proofs.Ytboekndojgbkfaa
open Go.ChangeShapes Go.WideShapes Go.ChangeAt Go.RowKit

def Ris (n : Nat) (f : Nat → Int) : Prop := ∀ i, i + 1 < n → f i ≤ f (i + 1)
def Con (n : Nat) (f : Nat → Int) : Prop := ∀ i, i + 2 < n → f (i + 2) - f (i + 1) ≤ f (i + 1) - f i
theorem Ris.mono {n : Nat} {f : Nat → Int} (h : Ris n f) {i j : Nat} (hij : i ≤ j) (hj : j < n) : f i ≤ f j := by
  induction j with
  | zero => obtain rfl : i = 0 := (by omega); exact Int.le_refl _
  | succ j ih =>
    by_cases e : i = j + 1
    · subst e; exact Int.le_refl _
    · have h1 := ih (by omega) (by omega)
      have h2 := h j hj
      omega
/-- A step's height never grows. -/
theorem Con.inc {n : Nat} {f : Nat → Int} (h : Con n f) {i j : Nat} (hij : i ≤ j) (hj : j + 1 < n) : f (j + 1) - f j ≤ f (i + 1) - f i := by
  induction j with
  | zero => obtain rfl : i = 0 := (by omega); exact Int.le_refl _
  | succ j ih =>
    by_cases e : i = j + 1
    · subst e; exact Int.le_refl _
    · have h1 := ih (by omega) (by omega)
      have h2 : f (j + 1 + 1) - f (j + 1) ≤ f (j + 1) - f j := h j hj
      omega
theorem Con.up {n : Nat} {f : Nat → Int} (h : Con n f) (j : Nat) : ∀ t : Nat, j + 1 + t < n → f (j + 1 + t) ≤ f (j + 1) + (f (j + 1) - f j) * t := by
  intro t
  induction t with
  | zero => intro _; simp
  | succ t ih =>
    intro ht
    have h1 := ih (by omega)
    have h2 := h.inc (i := j) (j := j + 1 + t) (by omega) (by omega)
    have e : (f (j + 1) - f j) * ((t + 1 : Nat) : Int) = (f (j + 1) - f j) * t + (f (j + 1) - f j) := by rw [Int.natCast_add, Int.mul_add]; simp
    rw [e]
    have e2 : j + 1 + (t + 1) = j + 1 + t + 1 := by omega
    rw [e2]
    generalize (f (j + 1) - f j) * (t : Int) = z at h1 ⊢
    omega
theorem Con.down {n : Nat} {f : Nat → Int} (h : Con n f) (j : Nat) (hj : j + 1 < n) : ∀ t : Nat, t ≤ j + 1 → f (j + 1 - t) ≤ f (j + 1) - (f (j + 1) - f j) * t := by
  intro t
  induction t with
  | zero => intro _; simp
  | succ t ih =>
    intro ht
    have h1 := ih (by omega)
    have h2 := h.inc (i := j - t) (j := j) (by omega) (by omega)
    have e : (f (j + 1) - f j) * ((t + 1 : Nat) : Int) = (f (j + 1) - f j) * t + (f (j + 1) - f j) := by rw [Int.natCast_add, Int.mul_add]; simp
    rw [e]
    have e2 : j + 1 - (t + 1) = j - t := by omega
    have e3 : j - t + 1 = j + 1 - t := by omega
    rw [e2]
    rw [e3] at h2
    generalize (f (j + 1) - f j) * (t : Int) = z at h1 ⊢
    omega
/-- A line above concave numbers that touches them at j. -/
theorem Con.line {n : Nat} {f : Nat → Int} (h : Con n f) {j : Nat} (hj : j < n) : ∃ d : Int, (Ris n f → 1 ≤ j → 0 ≤ d) ∧ ∀ i, i < n → f i ≤ f j + d * ((i : Int) - j) := by
  by_cases h1 : n = 1
  · refine ⟨0, fun _ _ => Int.le_refl _, fun i hi => ?_⟩
    obtain rfl : i = j := by omega
    omega
  have key : ∀ j, j + 1 < n → ∀ i, i < n → f i ≤ f (j + 1) + (f (j + 1) - f j) * ((i : Int) - ((j + 1 : Nat) : Int)) := by
    intro j hj i hi
    by_cases hle : j + 1 ≤ i
    · obtain ⟨t, rfl⟩ : ∃ t, i = j + 1 + t := ⟨i - (j + 1), by omega⟩
      have := h.up j t hi
      rw [show (((j + 1 + t : Nat) : Int) - ((j + 1 : Nat) : Int)) = (t : Int) by omega]
      exact this
    · obtain ⟨t, rfl, ht⟩ : ∃ t, i = j + 1 - t ∧ t ≤ j + 1 := ⟨j + 1 - i, by omega, by omega⟩
      have := h.down j hj t ht
      rw [show (((j + 1 - t : Nat) : Int) - ((j + 1 : Nat) : Int)) = -(t : Int) by omega, Int.mul_neg]
      omega
  cases j with
  | zero =>
    refine ⟨f 1 - f 0, fun _ h => by omega, fun i hi => ?_⟩
    have := key 0 (by omega) i hi
    have e : (f 1 - f 0) * ((i : Int) - ((0 + 1 : Nat) : Int)) = (f 1 - f 0) * ((i : Int) - ((0 : Nat) : Int)) - (f 1 - f 0) := by
      rw [show (i : Int) - ((0 + 1 : Nat) : Int) = ((i : Int) - ((0 : Nat) : Int)) - 1 by omega, Int.mul_sub, Int.mul_one]
    rw [Nat.zero_add] at this
    rw [Nat.zero_add] at e
    rw [e] at this
    omega
  | succ j => exact ⟨f (j + 1) - f j, fun hr _ => by have := hr j hj; omega, key j hj⟩
/-- The sum of products, of functions. -/
def dotN (p u : Nat → Int) : Nat → Int
  | 0 => 0
  | k + 1 => dotN p u k + p k * u k
theorem dot_line {p u : Nat → Int} {A d j : Int} (n : Nat) (hp : ∀ i, 0 ≤ p i) (h : ∀ i, i < n → u i ≤ A + d * ((i : Int) - j)) : ∀ k, k ≤ n →
    dotN p u k ≤ A * dotN p (fun _ => 1) k + d * (dotN p (fun i => (i : Int)) k - j * dotN p (fun _ => 1) k) := by
  intro k
  induction k with
  | zero => intro _; simp [dotN]
  | succ k ih =>
    intro hk
    have h1 := ih (by omega)
    have h2 := Int.mul_le_mul_of_nonneg_left (h k (by omega)) (hp k)
    have e : A * (dotN p (fun _ => 1) k + p k * 1) + d * (dotN p (fun i => (i : Int)) k + p k * (k : Int) - j * (dotN p (fun _ => 1) k + p k * 1)) =
      A * dotN p (fun _ => 1) k + d * (dotN p (fun i => (i : Int)) k - j * dotN p (fun _ => 1) k) + p k * (A + d * ((k : Int) - j)) := by grind
    simp only [dotN]
    rw [e]
    omega
/-- Rising numbers: their mean is greater over the spread that is above. -/
theorem dot_rise {a b u : Nat → Int} (n : Nat) (hr : Ris n u) (hD : ∀ s, s ≤ n → dotN a (fun _ => 1) s ≤ dotN b (fun _ => 1) s) : ∀ k, k + 1 ≤ n →
    dotN b u (k + 1) ≤ dotN a u (k + 1) + u k * (dotN b (fun _ => 1) (k + 1) - dotN a (fun _ => 1) (k + 1)) := by
  intro k
  induction k with
  | zero => intro _; simp only [dotN]; grind
  | succ k ih =>
    intro hk
    have h1 := ih (by omega)
    have h2 := hr k (by omega)
    have h3 := hD (k + 1) (by omega)
    have h4 := Int.mul_le_mul_of_nonneg_right h2 (show 0 ≤ dotN b (fun _ => 1) (k + 1) - dotN a (fun _ => 1) (k + 1) by omega)
    have e1 : dotN b u (k + 1 + 1) = dotN b u (k + 1) + b (k + 1) * u (k + 1) := rfl
    have e2 : dotN a u (k + 1 + 1) = dotN a u (k + 1) + a (k + 1) * u (k + 1) := rfl
    have e3 : dotN b (fun _ => 1) (k + 1 + 1) = dotN b (fun _ => 1) (k + 1) + b (k + 1) * 1 := rfl
    have e4 : dotN a (fun _ => 1) (k + 1 + 1) = dotN a (fun _ => 1) (k + 1) + a (k + 1) * 1 := rfl
    rw [e1, e2, e3, e4]
    grind
theorem dot_above {a b u : Nat → Int} {n : Nat} (hr : Ris n u) (hD : ∀ s, s ≤ n → dotN a (fun _ => 1) s ≤ dotN b (fun _ => 1) s) (he : dotN a (fun _ => 1) n = dotN b (fun _ => 1) n) : dotN b u n ≤ dotN a u n := by
  cases n with
  | zero => exact Int.le_refl _
  | succ k =>
    have := dot_rise (k + 1) hr hD k (Nat.le_refl _)
    rw [he, Int.sub_self, Int.mul_zero] at this
    omega
/-- The sum of the parts below s times their distances. -/
def belN (p : Nat → Int) : Nat → Int
  | 0 => 0
  | s + 1 => belN p s + dotN p (fun _ => 1) (s + 1)
theorem belN_eq (p : Nat → Int) (s : Nat) : belN p s = s * dotN p (fun _ => 1) s - dotN p (fun i => (i : Int)) s := by
  induction s with
  | zero => simp [belN, dotN]
  | succ s ih =>
    rw [belN, ih]
    simp only [dotN]
    rw [Int.natCast_add]
    grind
/-- Concave numbers: their mean is less over the spread that is wider. -/
theorem dot_conc {a b u : Nat → Int} (n : Nat) (hc : Con n u) (hE : ∀ s, s < n → belN b s ≤ belN a s) : ∀ k, k + 2 ≤ n →
    dotN a u (k + 2) + u (k + 1) * (dotN b (fun _ => 1) (k + 2) - dotN a (fun _ => 1) (k + 2)) + (belN a (k + 1) - belN b (k + 1)) * (u (k + 1) - u k) ≤ dotN b u (k + 2) := by
  intro k
  induction k with
  | zero => intro _; simp only [dotN, belN]; grind
  | succ k ih =>
    intro hk
    have h1 := ih (by omega)
    have h2 := hc k (by omega)
    have h3 := hE (k + 1) (by omega)
    have h4 := Int.mul_le_mul_of_nonneg_left h2 (show 0 ≤ belN a (k + 1) - belN b (k + 1) by omega)
    have e1 : dotN b u (k + 1 + 2) = dotN b u (k + 2) + b (k + 2) * u (k + 2) := rfl
    have e2 : dotN a u (k + 1 + 2) = dotN a u (k + 2) + a (k + 2) * u (k + 2) := rfl
    have e3 : dotN b (fun _ => 1) (k + 1 + 2) = dotN b (fun _ => 1) (k + 2) + b (k + 2) * 1 := rfl
    have e4 : dotN a (fun _ => 1) (k + 1 + 2) = dotN a (fun _ => 1) (k + 2) + a (k + 2) * 1 := rfl
    have e5 : belN a (k + 1 + 1) = belN a (k + 1) + dotN a (fun _ => 1) (k + 2) := rfl
    have e6 : belN b (k + 1 + 1) = belN b (k + 1) + dotN b (fun _ => 1) (k + 2) := rfl
    rw [e1, e2, e3, e4, e5, e6]
    have e7 : k + 1 + 1 = k + 2 := rfl
    rw [e7]
    generalize dotN a u (k + 2) = v1 at *
    generalize dotN b u (k + 2) = v2 at *
    generalize dotN a (fun _ => 1) (k + 2) = v3 at *
    generalize dotN b (fun _ => 1) (k + 2) = v4 at *
    generalize belN a (k + 1) = v5 at *
    generalize belN b (k + 1) = v6 at *
    generalize u (k + 2) = u2 at *
    generalize u (k + 1) = u1 at *
    generalize u k = u0 at *
    grind
theorem dot_wider {a b u : Nat → Int} {n : Nat} (hc : Con n u) (hE : ∀ s, s < n → belN b s ≤ belN a s) (he : dotN a (fun _ => 1) n = dotN b (fun _ => 1) n)
    (hm : dotN a (fun i => (i : Int)) n = dotN b (fun i => (i : Int)) n) : dotN a u n ≤ dotN b u n := by
  match n, hc, hE, he, hm with
  | 0, _, _, _, _ => exact Int.le_refl _
  | 1, _, _, he, _ =>
    simp only [dotN] at he ⊢
    have : a 0 = b 0 := by omega
    rw [this]; exact Int.le_refl _
  | k + 2, hc, hE, he, hm =>
    have h1 := dot_conc (k + 2) hc hE k (Nat.le_refl _)
    have h2 : belN a (k + 2) = belN b (k + 2) := by rw [belN_eq, belN_eq, he, hm]
    have e5 : belN a (k + 2) = belN a (k + 1) + dotN a (fun _ => 1) (k + 2) := rfl
    have e6 : belN b (k + 2) = belN b (k + 1) + dotN b (fun _ => 1) (k + 2) := rfl
    have e7 : belN a (k + 1) - belN b (k + 1) = 0 := by omega
    rw [e7, he, Int.sub_self, Int.mul_zero, Int.zero_mul] at h1
    omega
/-! As lists. -/
theorem dot_sum (p : List Int) (k : Nat) : dotN (nth p) (fun _ => 1) k = sumTo p k := by
  induction k with
  | zero => rfl
  | succ k ih => rw [dotN, sumTo, ih, Int.mul_one]
theorem dot_mom (p : List Int) (k : Nat) : dotN (nth p) (fun i => (i : Int)) k = momTo p k := by
  induction k with
  | zero => rfl
  | succ k ih => rw [dotN, momTo, ih]
theorem belTo_eq (p : List Int) (s k : Nat) : belTo p s k = s * sumTo p k - momTo p k := by
  induction k with
  | zero => simp [belTo, sumTo, momTo]
  | succ k ih => rw [belTo, sumTo, momTo, ih]; grind
theorem bel_eq (p : List Int) (s : Nat) : belN (nth p) s = belTo p s s := by rw [belN_eq, belTo_eq, dot_sum, dot_mom]
end Go.Proofs.Ytboekndojgbkfaa
